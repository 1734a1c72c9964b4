/-
  What the statement's proof leans on, several texts in one (packed by a program).
-/
import Derived.Test.YtpahnbgfmhcndaaGreatDoorBMQ
import Derived.Laws.IdiomRangeMap
import Derived.RangeFuncIn
import Derived.RangeFuncRecord
import Derived.RangeFuncLeaves
set_option linter.all false
set_option maxRecDepth 1000000
set_option maxHeartbeats 4000000
section
namespace Go.Hl
open Go.RowKit
def closV (f : FuncId) (ps : List VP) : VP := ⟨fun S w v => ∃ lb : List Value, v = .func (.func f) #[] lb.toArray ∧ All2 ps S w lb, fun h1 h2 ⟨lb, hv, h⟩ => ⟨lb, hv, h.mono h1 h2⟩⟩
instance (f : FuncId) (ps : List VP) : Flat (closV f ps) := ⟨fun ⟨_, h, _⟩ => by subst h; exact ⟨rfl, rfl⟩⟩
section
variable {P : Program} {ops : Array Oper} {Q : Exit → Act → World → Prop} {c : Ctx} {hs : List HP} {env : Env} {q : VP} {dst : Option Tmp} {ty T T' : TypeId} {pos : String} {after : Array Edge} {gd : Option (Nat × Bool)} {x y z : Operand}
theorem opMakeClos {f : FuncId} {cs : List VP} {ys : List Operand} (h2 : Opds env ys cs) : OpP P hs env ⟨dst, .makeFunc (.func f) #[] ys.toArray, ty, pos, after, gd⟩ (closV f cs) := by
 intro a w S F _ _ _ _ he K Q hk
 unfold Oper.wp
 exact hk _ w S (Grow.refl _ _) ⟨_, by simp, h2 S w a he⟩
end
end Go.Hl
end
section
namespace Go.Proofs.YtpahnbgfmhcndaaGreatDoor
open Go.Hl Go.RowKit
theorem typesO_spec {l : List UInt8} (hp0 : Ascii l) (hp1 : l.length ≤ 65536) : FnE Tryz.prog 92 [strV l] [] (γ := SB) (fun _ => True) (fun g => [sliceH g 1 encU8 (typesF l)]) (fun g => exactV (sval g (typesF l).length)) := by
 refine In 20 Tryz.func92 fun _ _ _ => ?_
 refine Z14 ?_
 refine .n (opRangeS FU.out (.t rfl)) rfl fun b7 _ => ?_
 refine Z3 ?_
 refine .ownNil 1 encU8 ?_
 refine .loopO (σ := Nat × SB) (fun s => [sliceH s.2 1 encU8 (typesF (l.take s.1)), iterH b7 l s.1]) (fun s => [(3, exactV (sval s.2 (typesF (l.take s.1)).length))]) (fun s => s.1 ≤ l.length) (fun s => l.length - s.1) (0, none) (by simp) (by simp [typesF]) ?_ ?_
 · exact (.get rfl (VLe.of_eq (by simp [sval])) (.refl _ _))
 rintro s hk
 have htl := typesF_len (l.take s.1)
 have htk : (l.take s.1).length ≤ l.length := by simp; omega
 refine Z2 ?_
 refine .n (opNextS (i := 1) hp0 (by omega) (.t rfl) rfl) rfl fun _ _ => ?_
 refine .p (opNext0 (.t rfl)) rfl ?_
 refine Z3 ?_
 refine Cd (fun c0 => ?_) fun c0 => ?_
 ·
  obtain ⟨x, hx⟩ := getElem?_lt (xs := l) (k := s.1) c0
  rw [show min (s.1 + 1) l.length = s.1 + 1 by omega]
  refine Z5 ?_
  refine .p (opNext2 (by assumption) (.t rfl)) rfl ?_
  refine Z9 ?_
  refine Cd (fun c1 => ?_) fun c1 => ?_
  ·
   refine Z2 ?_
   refine .p (cB encU8 [126]) rfl ?_
   refine .n (opAppend (i := 0) FU.out FU.out FC.out rfl FZ.out rfl FY.out (.t rfl) (.t rfl) rfl (by first | omega | (simp <;> omega)) (by first | omega | (simp <;> omega))) rfl fun g15 _ => ?_
   refine Z3 ?_
   refine .round (s.1 + 1, (by first | exact g15 | exact g18)) (by omega) (by omega) (by first | (rw [typesF_l hx c1]; rfl) | (rw [typesF_i hx c1]; rfl)) ?_
   first | exact (.get rfl (VLe.of_eq (by rw [typesF_l hx c1])) (.keep 11 rfl rfl)) | exact (.get rfl (VLe.of_eq (by rw [typesF_i hx c1])) (.keep 11 rfl rfl))
  refine Z2 ?_
  refine .p (cB encU8 [127]) rfl ?_
  refine .n (opAppend (i := 0) FU.out FU.out FC.out rfl FZ.out rfl FY.out (.t rfl) (.t rfl) rfl (by first | omega | (simp <;> omega)) (by first | omega | (simp <;> omega))) rfl fun g18 _ => ?_
  refine Z3 ?_
  refine .round (s.1 + 1, (by first | exact g15 | exact g18)) (by omega) (by omega) (by first | (rw [typesF_l hx c1]; rfl) | (rw [typesF_i hx c1]; rfl)) ?_
  first | exact (.get rfl (VLe.of_eq (by rw [typesF_l hx c1])) (.keep 11 rfl rfl)) | exact (.get rfl (VLe.of_eq (by rw [typesF_i hx c1])) (.keep 11 rfl rfl))
 have hall : l.take s.1 = l := List.take_of_length_le (by omega)
 rw [hall]
 refine Z12 ?_
 refine Post.retR1 rfl (s.2) (by trivial) (OLe.sel [0] [1] rfl rfl) (.rt rfl) ?_
 exact VLe.refl _
theorem infoP_spec {r : RowD} (hp0 : RowOk r) : FnE Tryz.prog 75 [aggV (encRow r)] [] (γ := SB) (fun _ => True) (fun g => [sliceH g 1 encU8 (infoOf r).Takes]) (fun g => aggV (encInfoP (infoOf r) g)) := by
 refine In 16 Tryz.func75 fun _ _ _ => ?_
 refine Z3 ?_
 refine .n (opAlloc FZ.out) rfl fun b2 _ => ?_
 refine Z3 ?_
 refine .stagedK [(0, 0), (1, 0), (2, 0), (3, 0), (4, 0), (5, 0), (6, 0), (7, 0), (9, 0), (10, 0), (8, 2), (11, 0)] 12 2 FM.out (by kernel_rfl) (k := ?_)
 refine Z10 ?_
 refine .e rfl (cE (h := typesO_spec hp0.1 (by have := hp0.2.2.1; omega))) fun g11 h11 => ?_
 refine .p rfl (fun _ => opCall (types_spec hp0.2.1 (by have := hp0.2.2.2; omega)) FB.out (.cons (.t rfl) .nil)) ?_
 refine .fin ?_
 refine .p (OpP.le (opBuild FP.out FZ.out (.cons (.t rfl) (.cons (.t rfl) (.cons (.t rfl) (.cons (.t rfl) (.cons (.t rfl) .nil))))) rfl) (VLe.refl (aggV (encInfoP (infoOf r) g11)))) rfl ?_
 refine Z4 ?_
 refine Post.retR1 rfl (g11) (by trivial) (OLe.sel [0] [1] rfl rfl) (.ra (i := 1) FA.out FC.out rfl rfl rfl rfl) ?_
 exact VLe.refl _
variable {i : InfoD}
theorem findP_spec {code : Int} (hp0 : findI code = some i) : FnE Tryz.prog 55 [intV .i64 code] [] (γ := SB) (fun _ => True) (fun g => [sliceH g 1 encU8 i.Takes]) (fun g => tupV [aggV (encInfoP i g), propV True]) := by
 refine In 16 Tryz.func55 fun _ _ _ => ?_
 refine Z2 ?_
 refine .n (opAlloc FZ.out) rfl fun b2 _ => ?_
 refine Z6 ?_
 refine .p (cA (h := at_spec)) rfl ?_
 refine Z3 ?_
 refine .n (opAlloc FZ.out) rfl fun b4 _ => ?_
 refine Z4 ?_
 refine .share (t := 4) (i := 0) rfl rfl ?_
 refine Z7 ?_
 refine Cd (fun c0 => ?_) fun c0 => ?_
 ·
  exfalso; have hro : rowO code = none := by simpa using c0
  unfold findI at hp0; rw [hro] at hp0; cases hp0
 obtain ⟨r, hro⟩ := Option.isSome_iff_exists.1 (Classical.not_not.1 c0)
 have hfi : i = infoOf r := by unfold findI at hp0; rw [hro] at hp0; exact (Option.some.inj hp0).symm
 subst hfi
 have hok := rowO_ok hro
 simp only [hro, Option.getD_some]
 refine Z5 ?_
 refine .n (cE (h := infoP_spec hok)) rfl fun g15 h15 => ?_
 refine Z5 ?_
 refine Post.retR rfl rfl (g15) (by trivial) (OLe.sel [0] [1] rfl rfl) rfl (.cons (.ra (i := 1) FA.out FC.out rfl rfl rfl rfl) ?_ (.cons (.rt rfl) ?_ .nil))
 · exact VLe.refl _
 exact VLe.refl _
variable {x : InstrD} {cb : Nat} {bb : Nat} {bc : Nat} {m : ModD} {f : FuncD} {gs : SB}
theorem kaccess_spec {L0 : List UInt8} {B : List BkD} {k : FrC} {s : Stk} {gi : SB} (hp0 : (L0 ++ s.1).length ≤ 60000) (hp1 : CkOk m f) (hp2 : InsOk x) (hp3 : formR x.Code = 8) (hp4 : findI x.Code = some i) : FnX Tryz.prog 310 212 [addrV cb 0, aggV (encInstr x), aggV (encInfoP i gi)] (sliceH gi 1 encU8 i.Takes :: ckL cb m f gs bb bc L0 B k s) (memS (envD m f) x s = none) (γ := SB × Stk) (fun z => memS (envD m f) x s = some z.2) (fun z => ckL cb m f z.1 bb bc L0 B k z.2) (fun _ => tupV []) := by
 refine InX 50 Tryz.func212 fun _ _ _ => ?_
 obtain ⟨t0, tl, htk⟩ := takes_8 hp3
 have hin := find_some_of hp4
 have hiT : i.Takes = t0 :: tl := hin.2.2.2.2.1.trans htk
 have hgl : i.Gives.length ≤ 3 := by rw [hin.2.2.2.2.2.1]; exact (takes_len x.Code).2
 unfold encInfoP
 rw [hiT]
 refine Z3 ?_
 refine .n (opBoxOA (.t rfl)) rfl fun b5 _ => ?_
 refine Z7 ?_
 refine .x (cXi [_,_,_,_] [2,0,1,3,4] (h := kmemory_spec hp1 hp2.A0)) rfl (fun h => by rw [memS_8 hp3, show (envD m f).Wide = m.Mems.map (·.Wide) from rfl, getI_map, h]; rfl) fun g12 h12 => ?_
 refine .n (opAlloc FZ.out) rfl fun b6 _ => ?_
 refine Z3 ?_
 refine .share (t := 6) (i := 0) rfl rfl ?_
 refine Z9 ?_
 refine .x (cX (h := must_spec (e := 2) (by decide))) rfl (fun h => by rw [memS_8 hp3, show (envD m f).Wide = m.Mems.map (·.Wide) from rfl, getI_map, h12]; exact if_pos (.inl ⟨fun hw => h (.inl hw), by have : ¬ x.B ≤ 4294967295 := fun hb => h (.inr hb); omega⟩)) fun g20 h20 => ?_
 refine Z6 ?_
 refine .p (cA (h := width_spec (code := x.Code))) rfl ?_
 refine Z15 ?_
 refine .g (OpG.gT rfl rfl rfl rfl (fun hg => (opShl (s := x.Align.toNat) (.c _) (.le (.when (.t rfl) hg) (VLe.int (by have := hp2.a0; omega))) (by show _ ≤ 64; have := hp2.a31; omega)).le (VLe.int (pow_fit hg)))) rfl rfl ?_
 refine Z3 ?_
 refine .x (cX (h := must_spec (e := 5) (by decide))) rfl (fun h => by rw [memS_8 hp3, show (envD m f).Wide = m.Mems.map (·.Wide) from rfl, getI_map, h12]; exact if_pos (.inr (Classical.byContradiction fun hn => h (width_ok.2 hn)))) fun g37 h37 => ?_
 refine Z3 ?_
 refine .sliceSome 2 rfl (by simp) fun ib ic hgi => ?_
 subst hgi
 refine .drawK 4 2 FM.out (by kernel_rfl) (k := ?_)
 refine Z3 ?_
 refine .p (cA (h := kaddress_spec (l := g12))) ?_
 refine Z1 ?_
 refine .p (opIndexAddrW 0 FU.out FC.out rfl (.t rfl) (.c _) rfl (by simp)) rfl ?_
 refine .s (opStoreW (enc := encU8) (i := 2) (r := 0) (adrW g12.Wide) rfl FC.out (.t rfl) (.t rfl) rfl (show (t0 :: tl)[0]? = some t0 from rfl) rfl rfl) ?_
 refine Z2 ?_
 refine .shareIn (i := 2) (j := 1) (f := 3) rfl rfl rfl ?_
 refine Z7 ?_
 refine .x (cXi [_] [0,2,3,1] (h := kapply_spec (s := s) (g := ⟨adrW g12.Wide :: tl, i.Gives⟩) hp0 (by show i.Gives.length ≤ 60000; omega))) rfl (fun h => by rw [memS_8 hp3, show (envD m f).Wide = m.Mems.map (·.Wide) from rfl, getI_map, h12]; exact (if_neg (by rintro (⟨a, b⟩ | a); (rcases h20 with h9 | h9; exact a h9; omega); exact width_ok.1 h37 a)).trans (by rw [htk, ← hin.2.2.2.2.2.1]; exact h)) fun g49 h49 => ?_
 refine Z1 ?_
 refine .norX (Post.retR0 rfl (g49) (by exact (by rw [memS_8 hp3, show (envD m f).Wide = m.Mems.map (·.Wide) from rfl, getI_map, h12]; exact (if_neg (by rintro (⟨a, b⟩ | a); (rcases h20 with h9 | h9; exact a h9; omega); exact width_ok.1 h37 a)).trans (by rw [htk, ← hin.2.2.2.2.2.1]; exact h49))) (OLe.sel [0, 1, 2] [3] rfl rfl) rfl)
theorem kbulk_spec {L0 : List UInt8} {B : List BkD} {k : FrC} {s : Stk} {gi : SB} (hp0 : (L0 ++ s.1).length ≤ 60000) (hp1 : CkOk m f) (hp2 : InsOk x) (hp3 : formR x.Code = 9 ∨ formR x.Code = 10) : FnX Tryz.prog 310 213 [addrV cb 0, aggV (encInstr x), aggV (encInfoP i gi)] (ckL cb m f gs bb bc L0 B k s) (memS (envD m f) x s = none) (γ := SB × Stk) (fun z => memS (envD m f) x s = some z.2) (fun z => ckL cb m f z.1 bb bc L0 B k z.2) (fun _ => tupV []) := by
 refine InX 55 Tryz.func213 fun _ _ _ => ?_
 have hcs : x.Code = 63 ∨ x.Code = 64 ∨ x.Code = 64523 ∨ x.Code = 64522 := hp3.elim (fun h => by have := form_9 h; omega) (fun h => by have := form_10 h; omega)
 refine Z11 ?_
 refine .x (cX (h := kmemory_spec hp1 hp2.A0)) rfl (fun h => by (rcases hcs with h9 | h9 | h9 | h9; rw [memS_63 h9, show (envD m f).Wide = m.Mems.map (·.Wide) from rfl, getI_map, h]; rfl; rw [memS_64 h9, show (envD m f).Wide = m.Mems.map (·.Wide) from rfl, getI_map, h]; rfl; rw [memS_fill h9, show (envD m f).Wide = m.Mems.map (·.Wide) from rfl, getI_map, h]; rfl; rw [memS_copy h9, show (envD m f).Wide = m.Mems.map (·.Wide) from rfl, getI_map, h]; rfl)) fun g12 h12 => ?_
 refine .p (cA (h := kaddress_spec (l := g12))) rfl ?_
 refine Z16 ?_
 refine Cd (fun c0 => ?_) fun c0 => ?_
 ·
  refine Z3 ?_
  refine .p (cB encU8 [adrW g12.Wide]) rfl ?_
  refine .n (cE (h := kpush_spec (st := L0 ++ s.1) (l := [adrW g12.Wide]) (st2 := L0 ++ (giveS s [adrW g12.Wide]).1) (by simp only [List.length_append] at hp0 ⊢; omega) (by simp) (by simp [giveS]))) rfl fun g38 h38 => ?_
  refine Z2 ?_
  refine .norX (Post.retR0 rfl ((g38, giveS s [adrW g12.Wide])) (by exact (by rw [memS_63 c0, show (envD m f).Wide = m.Mems.map (·.Wide) from rfl, getI_map, h12]; rfl)) (fun _ _ _ h => h) rfl)
 refine Z6 ?_
 refine Cd (fun c1 => ?_) fun c1 => ?_
 ·
  refine Z4 ?_
  refine .x (cX (h := kpop_spec (s := s) (w := adrW g12.Wide))) rfl (fun h => by rw [memS_64 c1, show (envD m f).Wide = m.Mems.map (·.Wide) from rfl, getI_map, h12]; simp only [Option.map_some, Option.bind_some]; rw [tgS, tks_one, h]; rfl) fun g43 h43 => ?_
  refine Z5 ?_
  refine .p (cB encU8 [adrW g12.Wide]) rfl ?_
  refine .n (cE (h := kpush_spec (st := L0 ++ g43.1.1) (l := [adrW g12.Wide]) (st2 := L0 ++ (giveS g43.1 [adrW g12.Wide]).1) (by simp only [List.length_append] at hp0 ⊢; have := tk1_le h43; omega) (by simp) (by simp [giveS]))) rfl fun g47 h47 => ?_
  refine Z2 ?_
  refine .norX (Post.retR0 rfl ((g47, giveS g43.1 [adrW g12.Wide])) (by exact (by rw [memS_64 c1, show (envD m f).Wide = m.Mems.map (·.Wide) from rfl, getI_map, h12]; simp only [Option.map_some, Option.bind_some]; rw [tgS, tks_one, h43]; rfl)) (fun _ _ _ h => h) rfl)
 refine Z6 ?_
 refine Cd (fun c2 => ?_) fun c2 => ?_
 ·
  refine Z4 ?_
  refine .p (cB encU8 [adrW g12.Wide, 127, adrW g12.Wide]) rfl ?_
  refine .x (cX (h := kpops_spec (s := s) (l := [adrW g12.Wide, 127, adrW g12.Wide]))) rfl (fun h => by rw [memS_fill c2, show (envD m f).Wide = m.Mems.map (·.Wide) from rfl, getI_map, h12]; exact h) fun g54 h54 => ?_
  refine Z2 ?_
  refine .norX (Post.retR0 rfl ((gs, g54)) (by exact (by rw [memS_fill c2, show (envD m f).Wide = m.Mems.map (·.Wide) from rfl, getI_map, h12]; exact h54)) (fun _ _ _ h => h) rfl)
 refine Z5 ?_
 refine .x (cX (h := kmemory_spec hp1 hp2.B0)) rfl (fun h => by rw [memS_copy (by omega), show (envD m f).Wide = m.Mems.map (·.Wide) from rfl, getI_map, getI_map, h12, h]; rfl) fun g19 h19 => ?_
 refine .p (cA (h := kaddress_spec (l := g19))) rfl ?_
 refine Z8 ?_
 refine .cut (σ := Unit) (fun _ => ckL cb m f gs bb bc L0 B k s) (fun _ => [(8, intV .u8 ((adrW (g12.Wide ∧ g19.Wide) : UInt8).toNat : Int))]) (fun _ => True) ?_ ?_
 ·
  refine Z10 ?_
  refine Cd (fun c3 => ?_) fun c3 => ?_
  ·
   refine Z3 ?_
   refine .meet () trivial rfl (.get rfl (VLe.of_eq (by rw [show adrW (g12.Wide ∧ g19.Wide) = 126 from if_pos ⟨adrW_iff.1 c3.1, adrW_iff.1 c3.2⟩]; rfl)) (.keep 7 rfl rfl))
  refine Z1 ?_
  refine .meet () trivial rfl (.get rfl (VLe.of_eq (by rw [show adrW (g12.Wide ∧ g19.Wide) = 127 from if_neg (fun h => c3 ⟨adrW_iff.2 h.1, adrW_iff.2 h.2⟩)]; rfl)) (.keep 6 rfl rfl))
 intro _ _
 refine Z5 ?_
 refine .p (cB encU8 [adrW g12.Wide, adrW g19.Wide, adrW (g12.Wide ∧ g19.Wide)]) rfl ?_
 refine .x (cX (h := kpops_spec (s := s) (l := [adrW g12.Wide, adrW g19.Wide, adrW (g12.Wide ∧ g19.Wide)]))) rfl (fun h => by rw [memS_copy (by omega), show (envD m f).Wide = m.Mems.map (·.Wide) from rfl, getI_map, getI_map, h12, h19]; exact h) fun g32 h32 => ?_
 refine Z2 ?_
 refine .norX (Post.retR0 rfl ((gs, g32)) (by exact (by rw [memS_copy (by omega), show (envD m f).Wide = m.Mems.map (·.Wide) from rfl, getI_map, getI_map, h12, h19]; exact h32)) (fun _ _ _ h => h) rfl)
variable {fs : List FrC} {b : FrC}
theorem kcontrol_spec (hp0 : (stkF fs ++ b.st.1).length ≤ 60000) (hp1 : CkOk m f) (hp2 : InsOk x) (hp3 : fs.length ≤ 50000) (hp4 : FewF (fs ++ [b])) (hp5 : ctlC x.Code) : FnX Tryz.prog 310 209 [addrV cb 0, aggV (encInstr x)] (ckG cb m f gs (some (bb, bc)) (stkF fs ++ b.st.1) (bksF fs ++ [bkF (stkF fs).length b b.st])) (stepX m f x fs b = none) (γ := CkT) (fun z => stepP m f x fs b z) (fun z => ckZ cb m f z) (fun _ => propV True) := by
 refine InX 74 Tryz.func209 fun _ _ _ => ?_
 have hBl : (bksF fs).length ≤ 50000 := by rw [bksG_len]; exact hp3
 have hBl2 : (bksF fs ++ [bkF (stkF fs).length b b.st]).length ≤ 60000 := by simp; omega
 have hbr : b.res.length ≤ 20 := hp4 b (by simp)
 have hl0 : (stkF fs).length ≤ 60000 := by simp only [List.length_append] at hp0; omega
 unfold ctlC at hp5
 refine Z20 ?_
 refine Cd (fun c0 => ?_) fun c0 => ?_
 ·
  refine Z2 ?_
  refine .n (cE (h := kkill_spec (k := b) (s := b.st))) rfl fun g11 h11 => ?_
  refine Z9 ?_
  refine .retX (Post.retR1 rfl ((gs, some (bb, bc), stkF fs ++ (killS).1, bksF fs ++ [bkF (stkF fs).length b (killS)])) (by exact stepP_top (by omega) (by omega) (by unfold opensC; omega) (by rw [← labs_top fs b b.st, plS_0 (by omega)])) (fun _ _ _ h => h) (.rt rfl) ?_)
  exact VLe.refl _
 refine Z6 ?_
 refine Cd (fun c1 => ?_) fun c1 => ?_
 ·
  refine Z3 ?_
  refine .x (cX (h := kpop_spec (k := b) (s := b.st) (w := 127))) rfl (fun h => by rw [stepX_open (by unfold opensC; omega), if_pos c1, tks_one, h]; rfl) fun g15 h15 => ?_
  refine Z5 ?_
  refine .n (cE (h := kopen_spec (x := x) (B := bksF fs ++ [bkF (stkF fs).length b g15.1]) (by simp; omega) hp2.A0)) rfl fun g18 h18 => ?_
  refine Z9 ?_
  refine .retX (Post.retR1 rfl ((gs, g18, stkF fs ++ g15.1.1, (bksF fs ++ [bkF (stkF fs).length b g15.1]) ++ [bkF (stkF fs ++ g15.1.1).length ⟨x.Code = 3, x.Code = 4, resI x, ([], False)⟩ ([], False)])) (by exact ⟨_, by rw [stepX_open (by unfold opensC; omega), if_pos c1, tks_one, h15]; rfl, stOf_open fs b g15.1 x⟩) (fun _ _ _ h => h) (.rt rfl) ?_)
  exact VLe.refl _
 refine .cut (σ := Unit) (fun _ => ckG cb m f gs (some (bb, bc)) (stkF fs ++ b.st.1) (bksF fs ++ [bkF (stkF fs).length b b.st])) (fun _ => [(19, propV (x.Code = 2 ∨ x.Code = 3))]) (fun _ => True) ?_ ?_
 ·
  refine Z6 ?_
  refine Cd (fun c2 => ?_) fun c2 => ?_
  ·
   refine Z1 ?_
   refine .meet () trivial rfl (.get rfl (VLe.prop (by omega)) (.keep 2 rfl rfl))
  refine Z4 ?_
  refine .meet () trivial rfl (.get rfl (VLe.prop (by omega)) (.keep 4 rfl rfl))
 intro _ _
 refine Cd (fun c3 => ?_) fun c3 => ?_
 ·
  refine Z3 ?_
  refine .n (cE (h := kopen_spec (x := x) (B := bksF fs ++ [bkF (stkF fs).length b b.st]) hBl2 hp2.A0)) rfl fun g24 h24 => ?_
  refine Z9 ?_
  refine .retX (Post.retR1 rfl ((gs, g24, stkF fs ++ b.st.1, (bksF fs ++ [bkF (stkF fs).length b b.st]) ++ [bkF (stkF fs ++ b.st.1).length ⟨x.Code = 3, x.Code = 4, resI x, ([], False)⟩ ([], False)])) (by exact ⟨_, by rw [stepX_open (by unfold opensC; omega), if_neg c1]; rfl, stOf_open fs b b.st x⟩) (fun _ _ _ h => h) (.rt rfl) ?_)
  exact VLe.refl _
 refine Z6 ?_
 refine Cd (fun c4 => ?_) fun c4 => ?_
 ·
  refine Z2 ?_
  refine .x (cX (h := kother_spec (k := b) (s := b.st) (by omega))) rfl (fun h => stepX_else_no (by omega) h) fun g28 h28 => ?_
  refine Z9 ?_
  refine .retX (Post.retR1 rfl ((gs, g28, stkF fs, bksF fs ++ [bkF (stkF fs).length ⟨b.loop, False, b.res, ([], False)⟩ ([], False)])) (by exact ⟨_, stepX_else (by omega) h28, stOf_else fs b⟩) (fun _ _ _ h => h) (.rt rfl) ?_)
  exact VLe.refl _
 refine Z6 ?_
 refine Cd (fun c5 => ?_) fun c5 => ?_
 ·
  refine Z2 ?_
  refine .x (cX (h := kend_spec (k := b) (s := b.st) hl0 (by omega))) rfl (fun h => stepX_end_no (by omega) h) fun g32 h32 => ?_
  refine Z9 ?_
  refine .retX (Post.retR1 rfl ((g32, some (bb, bc), stkF fs ++ b.res, bksF fs)) (by exact ⟨_, stepX_end (by omega) h32, stOf_end fs b.res⟩) (fun _ _ _ h => h) (.rt rfl) ?_)
  exact VLe.refl _
 refine Z6 ?_
 refine Cd (fun c6 => ?_) fun c6 => ?_
 ·
  refine Z6 ?_
  refine .x (cXi [_] [0,2,1] (h := klabel_spec (n := x.A) hBl2 hp2.A0)) rfl (fun h => stepX_pl_no (by omega) (by omega) (by unfold opensC; omega) (by rw [← labs_top fs b b.st, plS_12 (by omega), h]; rfl)) fun g39 h39 => ?_
  refine .x (cXi [] [0,2,1] (h := kpops_spec (k := b) (s := b.st) (l := g39))) rfl (fun h => stepX_pl_no (by omega) (by omega) (by unfold opensC; omega) (by rw [← labs_top fs b b.st, plS_12 (by omega), h39, Option.bind_some, h]; rfl)) fun g40 h40 => ?_
  refine Z4 ?_
  refine .n (cE (h := kkill_spec (k := b) (s := g40))) rfl fun g42 h42 => ?_
  refine Z9 ?_
  refine .retX (Post.retR1 rfl ((gs, some (bb, bc), stkF fs ++ (killS).1, bksF fs ++ [bkF (stkF fs).length b (killS)])) (by exact stepP_top (by omega) (by omega) (by unfold opensC; omega) (by rw [← labs_top fs b b.st, plS_12 (by omega), h39, Option.bind_some, h40]; rfl)) (fun _ _ _ h => h) (.rt rfl) ?_)
  exact VLe.refl _
 refine Z6 ?_
 refine Cd (fun c7 => ?_) fun c7 => ?_
 ·
  refine Z5 ?_
  refine .x (cXi [_] [0,2,1] (h := klabel_spec (n := x.A) hBl2 hp2.A0)) rfl (fun h => stepX_pl_no (by omega) (by omega) (by unfold opensC; omega) (by rw [← labs_top fs b b.st, plS_13 (by omega), h]; rfl)) fun g48 h48 => ?_
  refine Z6 ?_
  refine .x (cXi [] [0,2,1] (h := kpop_spec (k := b) (s := b.st) (w := 127))) rfl (fun h => stepX_pl_no (by omega) (by omega) (by unfold opensC; omega) (by rw [← labs_top fs b b.st, plS_13 (by omega), h48, Option.bind_some, tgS, tks_snoc, h]; rfl)) fun g50 h50 => ?_
  refine Z6 ?_
  refine .x (cX (h := kpops_spec (k := b) (s := g50.1) (l := g48))) rfl (fun h => stepX_pl_no (by omega) (by omega) (by unfold opensC; omega) (by rw [← labs_top fs b b.st, plS_13 (by omega), h48, Option.bind_some, tgS, tks_snoc, h50, Option.bind_some, h]; rfl)) fun g53 h53 => ?_
  refine Z5 ?_
  refine .n (cE (h := kpush_spec (st := stkF fs ++ g53.1) (l := g48) (st2 := stkF fs ++ (giveS g53 g48).1) (by simp only [List.length_append] at hp0 ⊢; have := tk1_le h50; have := tks_le h53; omega) (by rw [labs_top] at h48; have := few_lab hp4 h48; omega) (by simp [giveS]))) rfl fun g56 h56 => ?_
  refine Z9 ?_
  refine .retX (Post.retR1 rfl ((g56, some (bb, bc), stkF fs ++ (giveS g53 g48).1, bksF fs ++ [bkF (stkF fs).length b (giveS g53 g48)])) (by exact stepP_top (by omega) (by omega) (by unfold opensC; omega) (by rw [← labs_top fs b b.st, plS_13 (by omega), h48, Option.bind_some, tgS, tks_snoc, h50, Option.bind_some, h53]; rfl)) (fun _ _ _ h => h) (.rt rfl) ?_)
  exact VLe.refl _
 refine Z6 ?_
 refine Cd (fun c8 => ?_) fun c8 => ?_
 ·
  refine Z3 ?_
  refine .x (cX (h := kbranch_spec (k := b) (s := b.st) hBl hp2)) rfl (fun h => stepX_pl_no (by omega) (by omega) (by unfold opensC; omega) (by rw [← labs_top fs b b.st]; exact h _ (by omega))) fun g61 h61 => ?_
  refine Z9 ?_
  refine .retX (Post.retR1 rfl ((gs, some (bb, bc), stkF fs ++ killS.1, bksF fs ++ [bkF (stkF fs).length b killS])) (by exact stepP_top (by omega) (by omega) (by unfold opensC; omega) (by rw [← labs_top fs b b.st]; exact h61 _ (by omega))) (fun _ _ _ h => h) (.rt rfl) ?_)
  exact VLe.refl _
 refine Z6 ?_
 refine Cd (fun c9 => ?_) fun c9 => ?_
 ·
  refine Z9 ?_
  refine .x (cX (h := kpops_spec (k := b) (s := b.st) (l := (sigAt m f.Sig).R))) rfl (fun h => stepX_pl_no (by omega) (by omega) (by unfold opensC; omega) (by rw [← labs_top fs b b.st, plS_15 (by omega)]; rw [show (envD m f).Own.R = (sigAt m f.Sig).R from rfl, h]; rfl)) fun g71 h71 => ?_
  refine Z4 ?_
  refine .n (cE (h := kkill_spec (k := b) (s := g71))) rfl fun g73 h73 => ?_
  refine Z9 ?_
  refine .retX (Post.retR1 rfl ((gs, some (bb, bc), stkF fs ++ (killS).1, bksF fs ++ [bkF (stkF fs).length b (killS)])) (by exact stepP_top (by omega) (by omega) (by unfold opensC; omega) (by rw [← labs_top fs b b.st, plS_15 (by omega)]; rw [show (envD m f).Own.R = (sigAt m f.Sig).R from rfl, h71]; rfl)) (fun _ _ _ h => h) (.rt rfl) ?_)
  exact VLe.refl _
 exfalso; omega
theorem kcontrolN_spec (hp0 : ¬ ctlC x.Code) : FnP Tryz.prog 209 [anyV, aggV (encInstr x)] (propV False) := by
 refine In 74 Tryz.func209 fun _ _ _ => ?_
 unfold ctlC at hp0
 refine Z20 ?_
 refine Cd (fun c0 => ?_) fun c0 => ?_
 · exfalso; omega
 refine Z6 ?_
 refine Cd (fun c1 => ?_) fun c1 => ?_
 · exfalso; omega
 refine .cut (σ := Unit) (fun _ => []) (fun _ => [(19, propV (x.Code = 2 ∨ x.Code = 3))]) (fun _ => True) ?_ ?_
 ·
  refine Z6 ?_
  refine Cd (fun c2 => ?_) fun c2 => ?_
  · exfalso; omega
  refine Z4 ?_
  refine .meet () trivial rfl (.get rfl (VLe.prop (by omega)) (.keep 4 rfl rfl))
 intro _ _
 refine Cd (fun c3 => ?_) fun c3 => ?_
 · exfalso; omega
 refine Z6 ?_
 refine Cd (fun c4 => ?_) fun c4 => ?_
 · exfalso; omega
 refine Z6 ?_
 refine Cd (fun c5 => ?_) fun c5 => ?_
 · exfalso; omega
 refine Z6 ?_
 refine Cd (fun c6 => ?_) fun c6 => ?_
 · exfalso; omega
 refine Z6 ?_
 refine Cd (fun c7 => ?_) fun c7 => ?_
 · exfalso; omega
 refine Z6 ?_
 refine Cd (fun c8 => ?_) fun c8 => ?_
 · exfalso; omega
 refine Z6 ?_
 refine Cd (fun c9 => ?_) fun c9 => ?_
 · exfalso; omega
 refine Z8 ?_
 refine Rt1 ?_
 first | exact VLe.refl _ | exact VLe.int (by omega) | exact VLe.prop (by omega) | exact VLe.prop (by simp_all) | exact VLe.prop (by simp; omega)
theorem kvariableN_spec (hp0 : ¬ varC x.Code) : FnP Tryz.prog 210 [anyV, aggV (encInstr x)] (propV False) := by
 refine In 62 Tryz.func210 fun _ _ _ => ?_
 unfold varC at hp0
 refine Z20 ?_
 refine Cd (fun c0 => ?_) fun c0 => ?_
 · exfalso; omega
 refine Z6 ?_
 refine Cd (fun c1 => ?_) fun c1 => ?_
 · exfalso; omega
 refine Z6 ?_
 refine Cd (fun c2 => ?_) fun c2 => ?_
 · exfalso; omega
 refine Z6 ?_
 refine Cd (fun c3 => ?_) fun c3 => ?_
 · exfalso; omega
 refine Z6 ?_
 refine Cd (fun c4 => ?_) fun c4 => ?_
 · exfalso; omega
 refine Z8 ?_
 refine Rt1 ?_
 first | exact VLe.refl _ | exact VLe.int (by omega) | exact VLe.prop (by omega) | exact VLe.prop (by simp_all) | exact VLe.prop (by simp; omega)
theorem kcallN_spec (hp0 : ¬ callC x.Code) : FnP Tryz.prog 211 [anyV, aggV (encInstr x)] (propV False) := by
 refine In 93 Tryz.func211 fun _ _ _ => ?_
 unfold callC at hp0
 refine Z20 ?_
 refine Cd (fun c0 => ?_) fun c0 => ?_
 · exfalso; omega
 refine Z6 ?_
 refine Cd (fun c1 => ?_) fun c1 => ?_
 · exfalso; omega
 refine Z6 ?_
 refine Cd (fun c2 => ?_) fun c2 => ?_
 · exfalso; omega
 refine Z6 ?_
 refine Cd (fun c3 => ?_) fun c3 => ?_
 · exfalso; omega
 refine Z8 ?_
 refine Rt1 ?_
 first | exact VLe.refl _ | exact VLe.int (by omega) | exact VLe.prop (by omega) | exact VLe.prop (by simp_all) | exact VLe.prop (by simp; omega)
theorem kstep_spec (hp0 : (stkF fs ++ b.st.1).length ≤ 60000) (hp1 : CkOk m f) (hp2 : InsOk x) (hp3 : fs.length ≤ 50000) (hp4 : FewF (fs ++ [b])) (hp5 : nameR x.Code ≠ []) : FnX Tryz.prog 310 193 [addrV cb 0, aggV (encInstr x)] (ckG cb m f gs (some (bb, bc)) (stkF fs ++ b.st.1) (bksF fs ++ [bkF (stkF fs).length b b.st])) (stepX m f x fs b = none) (γ := CkT) (fun z => stepP m f x fs b z) (fun z => ckZ cb m f z) (fun _ => tupV []) := by
 refine InX 54 Tryz.func193 fun _ _ _ => ?_
 obtain ⟨i, hi⟩ : ∃ i, findI x.Code = some i := Option.isSome_iff_exists.1 (find_iff.2 hp5)
 have hin := find_some_of hi
 have hgl : i.Gives.length ≤ 3 := by rw [hin.2.2.2.2.2.1]; exact (takes_len x.Code).2
 refine Z9 ?_
 refine .n (cE (h := findP_spec hi)) rfl fun g9 h9 => ?_
 refine Z3 ?_
 refine .n (opAlloc FZ.out) rfl fun b4 _ => ?_
 refine Z6 ?_
 have hcase : ctlC x.Code ∨ (¬ ctlC x.Code ∧ varC x.Code) ∨ (¬ ctlC x.Code ∧ ¬ varC x.Code ∧ callC x.Code) ∨ (¬ ctlC x.Code ∧ ¬ varC x.Code ∧ ¬ callC x.Code) := by by_cases h1 : ctlC x.Code <;> by_cases h2 : varC x.Code <;> by_cases h3 : callC x.Code <;> simp [h1, h2, h3]
 rcases hcase with hc | ⟨hc, hv⟩ | ⟨hc, hv, hk⟩ | ⟨hc, hv, hk⟩
 ·
  refine Z3 ?_
  refine .x (cXi [_,_] [2,3,4,0,1] (h := kcontrol_spec hp0 hp1 hp2 hp3 hp4 hc)) rfl (fun h => h) fun g22 h22 => ?_
  refine Z3 ?_
  refine .gskip rfl rfl rfl rfl rfl (by simp) rfl ?_
  refine .p (opPickT (.t rfl) trivial .ct) rfl ?_
  refine Z3 ?_
  refine .gskip rfl rfl rfl rfl rfl (by simp) rfl ?_
  refine .p (opPickT (.t rfl) trivial .ct) rfl ?_
  refine Z3 ?_
  refine Cd (fun c0 => ?_) fun c0 => ?_
  ·
   refine Z2 ?_
   refine .norX (Post.retR0 rfl (g22) (by exact h22) (OLe.sel [0, 1, 2] [3, 4] rfl rfl) rfl)
  exact absurd trivial c0
 ·
  refine Z3 ?_
  refine .p (opCall (kcontrolN_spec hc) FB.out (.cons (.le (.t rfl) VLe.any) (.cons (.t rfl) .nil))) rfl ?_
  refine Z3 ?_
  refine .gx rfl rfl rfl (by simp) (opCallPanG (rest := [_, _]) (kvariable_spec (k := b) (s := b.st) (labs := ((fs ++ [b]).map labF)) hp0 hp1 hp2) FB.out (.cons (.when (.t rfl) (fun h => h)) (.cons (.when (.t rfl) (fun h => h)) .nil)) (Perm.idx [2, 3, 4, 0, 1] rfl rfl)) rfl (fun h => stepX_pl_no (by unfold varC at hv; omega) (by unfold varC at hv; omega) (by unfold varC at hv; unfold opensC; omega) h.2) fun g26 h26 => ?_
  refine .p (opPickF (.t rfl) (fun h => h) (.t rfl)) rfl ?_
  refine Z3 ?_
  refine .gskip rfl rfl rfl rfl rfl (by simpa using hv) rfl ?_
  refine .p (opPickT (.t rfl) hv .ct) rfl ?_
  refine Z3 ?_
  refine Cd (fun c0 => ?_) fun c0 => ?_
  ·
   refine Z2 ?_
   refine .norX (Post.retR0 rfl ((g26.1, some (bb, bc), stkF fs ++ g26.2.1, bksF fs ++ [bkF (stkF fs).length b g26.2])) (by (rcases h26 with ⟨_, h⟩ | ⟨h, _⟩; exact stepP_top (by unfold varC at hv; omega) (by unfold varC at hv; omega) (by unfold varC at hv; unfold opensC; omega) h; exact absurd hv h)) (OLe.sel [0, 1, 2] [3, 4] rfl rfl) rfl)
  exact absurd trivial c0
 ·
  refine Z3 ?_
  refine .p (opCall (kcontrolN_spec hc) FB.out (.cons (.le (.t rfl) VLe.any) (.cons (.t rfl) .nil))) rfl ?_
  refine Z3 ?_
  refine .g (OpG.gF rfl rfl rfl rfl (fun hg => opCall (kvariableN_spec hv) FB.out (.cons (.le (.when (.t rfl) hg) VLe.any) (.cons (.when (.t rfl) hg) .nil)))) rfl rfl ?_
  refine Z4 ?_
  refine .gx rfl rfl rfl (by simp) (opCallPanG (rest := [_, _]) (kcall_spec (k := b) (s := b.st) (labs := ((fs ++ [b]).map labF)) hp0 hp1 hp2) FB.out (.cons (.when (.t rfl) (fun h => h.elim id id)) (.cons (.when (.t rfl) (fun h => h.elim id id)) .nil)) (Perm.idx [2, 3, 4, 0, 1] rfl rfl)) rfl (fun h => stepX_pl_no (by unfold callC at hk; omega) (by unfold callC at hk; omega) (by unfold callC at hk; unfold opensC; omega) h.2) fun g31 h31 => ?_
  refine .p (opPickF (.t rfl) (fun h => h.elim id id) (.t rfl)) rfl ?_
  refine Z3 ?_
  refine Cd (fun c0 => ?_) fun c0 => ?_
  ·
   refine Z2 ?_
   refine .norX (Post.retR0 rfl ((g31.1, some (bb, bc), stkF fs ++ g31.2.1, bksF fs ++ [bkF (stkF fs).length b g31.2])) (by (rcases h31 with ⟨_, h⟩ | ⟨h, _⟩; exact stepP_top (by unfold callC at hk; omega) (by unfold callC at hk; omega) (by unfold callC at hk; unfold opensC; omega) h; exact absurd hk h)) (OLe.sel [0, 1, 2] [3, 4] rfl rfl) rfl)
  exact absurd hk c0
 refine Z3 ?_
 refine .p (opCall (kcontrolN_spec hc) FB.out (.cons (.le (.t rfl) VLe.any) (.cons (.t rfl) .nil))) rfl ?_
 refine Z3 ?_
 refine .g (OpG.gF rfl rfl rfl rfl (fun hg => opCall (kvariableN_spec hv) FB.out (.cons (.le (.when (.t rfl) hg) VLe.any) (.cons (.when (.t rfl) hg) .nil)))) rfl rfl ?_
 refine Z4 ?_
 refine .g (OpG.gF rfl rfl rfl rfl (fun hg => opCall (kcallN_spec hk) FB.out (.cons (.le (.when (.t rfl) hg) VLe.any) (.cons (.when (.t rfl) hg) .nil)))) rfl rfl ?_
 refine Z4 ?_
 refine Cd (fun c0 => ?_) fun c0 => ?_
 · exfalso; simp at c0
 refine Z8 ?_
 refine Cd (fun c1 => ?_) fun c1 => ?_
 ·
  have hxf := hin.2.2.2.1
  refine Z4 ?_
  refine .x (cXi [_] [1,2,3,4,0] (h := kaccess_spec (k := b) (s := b.st) hp0 hp1 hp2 (hin.2.2.2.1.symm.trans c1) hi)) rfl (fun h => stepX_pl_no (by unfold ctlC at hc; omega) (by unfold ctlC at hc; omega) (by unfold ctlC at hc; unfold opensC; omega) ((plS_mem hc hv hk (by omega)).trans h)) fun g40 h40 => ?_
  refine Z2 ?_
  refine .norX (Post.retR0 rfl ((g40.1, some (bb, bc), stkF fs ++ g40.2.1, bksF fs ++ [bkF (stkF fs).length b g40.2])) (by exact stepP_top (by unfold ctlC at hc; omega) (by unfold ctlC at hc; omega) (by unfold ctlC at hc; unfold opensC; omega) ((plS_mem hc hv hk (by omega)).trans h40)) (OLe.sel [0, 1, 2] [3] rfl rfl) rfl)
 have hxf := hin.2.2.2.1
 refine Z13 ?_
 refine Cd (fun c2 => ?_) fun c2 => ?_
 ·
  refine Z4 ?_
  refine .x (cXi [_,_] [2,3,4,0,1] (h := kbulk_spec (k := b) (s := b.st) hp0 hp1 hp2 (c2.imp (fun h => hin.2.2.2.1.symm.trans h) (fun h => hin.2.2.2.1.symm.trans h)))) rfl (fun h => stepX_pl_no (by unfold ctlC at hc; omega) (by unfold ctlC at hc; omega) (by unfold ctlC at hc; unfold opensC; omega) ((plS_mem hc hv hk (by omega)).trans h)) fun g53 h53 => ?_
  refine Z2 ?_
  refine .norX (Post.retR0 rfl ((g53.1, some (bb, bc), stkF fs ++ g53.2.1, bksF fs ++ [bkF (stkF fs).length b g53.2])) (by exact stepP_top (by unfold ctlC at hc; omega) (by unfold ctlC at hc; omega) (by unfold ctlC at hc; unfold opensC; omega) ((plS_mem hc hv hk (by omega)).trans h53)) (OLe.sel [0, 1, 2] [3, 4] rfl rfl) rfl)
 have hff : formR x.Code < 8 ∨ 10 < formR x.Code := by have : ¬ (i.Form = 9 ∨ i.Form = 10) := c2; omega
 refine .shareIn (i := 1) (j := 0) (f := 3) rfl rfl rfl ?_
 refine Z7 ?_
 refine .x (cXi [_] [1,2,3,0] (h := kapply_spec (k := b) (s := b.st) (g := ⟨i.Takes, i.Gives⟩) hp0 (by show i.Gives.length ≤ 60000; omega))) rfl (fun h => stepX_pl_no (by unfold ctlC at hc; omega) (by unfold ctlC at hc; omega) (by unfold ctlC at hc; unfold opensC; omega) ((plS_form hc hv hk hff).trans (by rw [← hin.2.2.2.2.1, ← hin.2.2.2.2.2.1]; exact h))) fun g18 h18 => ?_
 refine Z2 ?_
 refine .norX (Post.retR0 rfl ((g18.1, some (bb, bc), stkF fs ++ g18.2.1, bksF fs ++ [bkF (stkF fs).length b g18.2])) (by exact stepP_top (by unfold ctlC at hc; omega) (by unfold ctlC at hc; omega) (by unfold ctlC at hc; unfold opensC; omega) ((plS_form hc hv hk hff).trans (by rw [← hin.2.2.2.2.1, ← hin.2.2.2.2.2.1]; exact h18))) (OLe.sel [0, 1, 2] [3] rfl rfl) rfl)
theorem assert_nil (w : World) : (Instr.typeAssert Value.nilIface 20 310 true).run Tryz.prog w = .ok (.tuple #[.agg #[.int .i64 0], .bool false]) w := by
 kernel_rfl
theorem assert_fault (e : Int) (w : World) : (Instr.typeAssert (faultV 310 e) 20 310 true).run Tryz.prog w = .ok (.tuple #[.agg #[.int .i64 e], .bool true]) w := by
 kernel_rfl
theorem catch_idle (p : Value) (w : World) :
    CallsD Tryz.prog 192 #[p] .returning w fun e u' w' => e = .returned (.tuple #[]) ∧ u' = .returning ∧ Below w.heap.size w w' := by
  refine callsD_of_wpS Tryz.func192 rfl fun c₀ cs hu => ?_
  apply wpS_seq
  apply wpS_region
  simp [wpOpsS, go_sem, recoverD, hu, Tryz.ntmps192, Exit.thenS, assert_nil]
  apply wpS_seq
  apply wpS_region
  simp [wpOpsS, go_sem, Exit.thenS]
  refine wpS_cond (t := false) (by simp [Act.eval, Array.replicate]) ?_
  simp only [Bool.false_eq_true, if_false]
  refine wpS_of_wp (wp_skip ?_)
  have hb : Below w.heap.size w (w.alloc (Obj.cells #[Value.int IntKind.i64 0] 310)) := (Below.refl _ _).alloc (Nat.le_refl _) _
  generalize w.alloc (Obj.cells #[Value.int IntKind.i64 0] 310) = w1 at hb
  cases c₀
  simp_all [bodyPostS, results, Tryz.results192]
theorem catch_fail {eb : Nat} {ch : List PanicEntry} (hc : FaultC 310 ch) :
    Catch Tryz.prog 192 (.pointer (some ⟨eb, 0, none⟩)) ch [cellsH eb [intV .i64 0]] (δ := Int) (fun e => e ≠ 0) (fun e => [cellsH eb [intV .i64 e]]) := by
  obtain ⟨e, he, rfl⟩ := hc
  intro w S F hS hF hSF hown
  obtain ⟨F1, F2, f1, f2, ⟨hFb, arr, T, hh, hn, hcs⟩, _⟩ := hown
  obtain ⟨u0, hu0, hq0⟩ := hcs 0 _ rfl
  simp only [exactV] at hq0
  subst hq0
  have harr : arr = #[.int .i64 0] := by
    refine Array.ext (by simpa using hn) fun i h1 h2 => ?_
    have : i = 0 := by simp at h2; omega
    subst this
    have h3 : arr[0]? = some arr[0] := by simp at hn; simp [hn]
    rw [h3] at hu0
    simpa using hu0
  subst harr
  refine callsD_of_wpS Tryz.func192 rfl fun c₀ cs hu => ?_
  apply wpS_seq
  apply wpS_region
  have hrec : recoverD (c₀ :: cs) = some (faultV 310 e, { c₀ with mode := .panicking [{ v := faultV 310 e, recovered := true }] } :: cs) := by simp only [recoverD, hu]
  generalize hfv : faultV 310 e = fv at hrec
  have hass : ∀ w : World, (Instr.typeAssert fv 20 310 true).run Tryz.prog w = .ok (.tuple #[.agg #[.int .i64 e], .bool true]) w := fun w => by rw [← hfv]; exact assert_fault e w
  simp [wpOpsS, go_sem, hrec, Tryz.ntmps192, Exit.thenS, hass]
  generalize hcs1 : ({ fn := c₀.fn, tmps := c₀.tmps, todo := c₀.todo, defers := c₀.defers, mode := FrameMode.panicking [{ v := fv, recovered := true }], kind := c₀.kind, roundOf := c₀.roundOf } :: cs : List Frame) = cs1
  generalize hw1 : w.alloc (Obj.cells #[Value.int IntKind.i64 e] 310) = w1
  apply wpS_seq
  apply wpS_region
  simp [wpOpsS, go_sem, Exit.thenS]
  refine wpS_cond (t := true) (by simp [Act.eval, Array.replicate]) ?_
  simp only [if_true]
  have hsit : Sit ⟨w, S, F, 11, none, []⟩ w1 S (fun k => k = w.heap.size ∨ F k) := by
    rw [← hw1]; exact (show Sit ⟨w, S, F, 11, none, []⟩ w S F from ⟨rfl, rfl, rfl, Nat.le_refl _, fun _ _ _ => rfl, hSF, hS, hF, fun k hk => .inl hk, fun k hk => .inl hk, fun _ hk => hk⟩).newOwn _
  have hF1 : ∀ k, F1 k → F k := fun k hk => (f1 k hk).1
  have hown1 : Own [cellsH w.heap.size [intV .i64 e], cellsH eb [intV .i64 0]] (fun k => k = w.heap.size ∨ F k) S w1 := by
    rw [← hw1]
    refine Own.newOwn ?_ hS hF _ (cellsH_new hS rfl fun j q hj => ?_)
    · exact ⟨F1, fun _ => False, fun k hk => ⟨hF1 k hk, fun h => h⟩, fun k hk => hk.elim, ⟨hFb, _, T, hh, hn, hcs⟩, trivial⟩
    · match j, hj with
      | 0, hj => simp at hj; subst hj; exact ⟨_, rfl, rfl⟩
      | j + 1, hj => simp at hj
  refine wpS_of_wp (wpIn_wide.1 (show Code.wpIn Fence.wide 0 _ _ _ _ _ from ?_))
  have key : ∀ {Q : Exit → Act → World → Prop}, (∀ a w', St ⟨w, S, F, 11, none, []⟩ [cellsH eb [intV .i64 e], cellsH w.heap.size [intV .i64 e]] [] a w' → Q .normal a w') →
      CodeT Tryz.prog Q ⟨w, S, F, 11, none, []⟩ (Code.region 2 #[⟨some 9, .fieldAddr 310 (.tmp 1) 0, 0, "check.go:328", #[], none⟩, ⟨some 10, .load 35 (.tmp 9), 35, "check.go:328", #[⟨0, .data⟩], none⟩, ⟨none, .store 35 (.tmp 0) (.tmp 10), 0, "check.go:328", #[⟨1, .data⟩, ⟨0, .phase⟩, ⟨1, .phase⟩], none⟩] false)
        [cellsH eb [intV .i64 0], cellsH w.heap.size [intV .i64 e]] [(0, addrV eb 0), (1, addrV w.heap.size 0)] := by
    intro Q hQ
    refine CodeT.region (.p (opFieldO FF.out (.t rfl)) rfl <| .p (opLoadO (i := 1) FA.out (.t rfl) rfl rfl) rfl <| .s (opStoreO (i := 0) FC.out (.t rfl) (.t rfl) rfl rfl) <| .nil ?_)
    exact fun a w' hst => hQ a w' (hst.mono (fun _ _ _ _ t q h => by cases h))
  refine key (fun a w' hst => ?_) _ _ ⟨rfl, by simp, S, _, hsit, hown1.perm (List.Perm.swap _ _ _), ?_⟩
  · obtain ⟨h1, h2, S', F', h3, h4, h5⟩ := hst
    refine ⟨h1, _, hcs1.symm, .tuple #[], ?_, rfl, ⟨fv, rfl⟩, S', F', e, he, ⟨h3.os, h3.tape, h3.output, h3.size, h3.kept, h3.disj, h3.domS, h3.domF, h3.own, h3.shr, h3.base⟩, ?_⟩
    · simp [results, Tryz.results192]
    · obtain ⟨G1, G2, g1, g2, g3, g4⟩ := h4
      exact ⟨G1, fun _ => False, fun k hk => ⟨(g1 k hk).1, fun h => h⟩, fun k hk => hk.elim, g3, trivial⟩
  · intro t q hl
    rw [look_cons, look_cons] at hl
    split at hl
    · rename_i h0; subst h0; cases hl; simp [Array.replicate, exactV]
    split at hl
    · rename_i h1; subst h1; cases hl; simp [Array.replicate, exactV]
    · cases hl
theorem clos1 {f : FuncId} {v : Value} : VLe (closV f [exactV v]) (exactV (.func (.func f) #[] #[v])) := fun S w u ⟨lb, hv, h1, h2⟩ => by
 match lb, h1, h2 with
 | [x], _, h2 =>
  have := h2 0 _ x rfl rfl
  simp only [exactV] at this
  subst this; exact hv
def safeP (m : ModD) (f : FuncD) (x : InstrD) (fs : List FrC) (b : FrC) (g : Option CkT × Int) : Prop := match g.1 with | some z => g.2 = 0 ∧ stepP m f x fs b z | none => g.2 ≠ 0 ∧ stepX m f x fs b = none
abbrev safeH (cb : Nat) (m : ModD) (f : FuncD) (g : Option CkT × Int) : List HP := match g.1 with | some z => ckZ cb m f z | none => []
theorem ksafe_spec (hp0 : (stkF fs ++ b.st.1).length ≤ 60000) (hp1 : CkOk m f) (hp2 : InsOk x) (hp3 : fs.length ≤ 50000) (hp4 : FewF (fs ++ [b])) (hp5 : nameR x.Code ≠ []) :
    FnE Tryz.prog 170 [addrV cb 0, aggV (encInstr x)] (ckG cb m f gs (some (bb, bc)) (stkF fs ++ b.st.1) (bksF fs ++ [bkF (stkF fs).length b b.st])) (γ := Option CkT × Int) (safeP m f x fs b) (safeH cb m f) (fun g => intV .i64 g.2) := by
  refine FnE.introLA 9 Tryz.func170 rfl rfl rfl fun w0 S0 M => ?_
  refine CodeT.seq ?_
  refine CodeT.region (.p (opBoxA (.t rfl)) rfl <| .n (opAlloc FZ.out) rfl <| fun b4 _ => .nil ?_)
  refine EndT.thenN ?_
  refine CodeT.seq ?_
  refine CodeT.region (.p (opMakeClos (.cons (.t rfl) .nil)) rfl <| .deferLA rfl (.le (.t rfl) clos1) <| .nil ?_)
  refine EndT.thenN ?_
  refine CodeT.seq ?_
  refine CodeT.region (.p (opMove (.t rfl)) rfl <| .p (opLoadA FA.out FC.out rfl (.t rfl) rfl) rfl <|
    .xd (opCallPan (rest := [cellsH b4 [exactV (.int .i64 0)]]) (kstep_spec hp0 hp1 hp2 hp3 hp4 hp5) FB.out (.cons (.t rfl) (.cons (.t rfl) .nil)) (Perm.idx [1, 2, 3, 0] rfl rfl)) rfl (fun ch hD hc => ?_) (fun z hz => .nil ?_))
  · refine fun a w hst => EndT.panLA (c := ⟨w0, S0, M, 9, none, []⟩) (φ := safeP m f x fs b) (hs' := safeH cb m f) (q := fun g => intV .i64 g.2) (catch_fail hc) rfl rfl FB.out (fun e he => ?_) a w hst
    refine Post.retR1 rfl (none, e) ⟨he, hD⟩ (fun _ _ _ _ => trivial) (.rc (i := 0) FA.out rfl rfl rfl) ?_
    exact VLe.refl _
  refine EndT.thenN ?_
  refine CodeT.seq ?_
  refine CodeT.region (.s (opStoreO (i := 3) FC.out (.t rfl) (.c _) rfl rfl) <| .nil ?_)
  refine EndT.thenN ?_
  refine CodeT.ret ?_
  refine EndT.retLA (c := ⟨w0, S0, M, 9, none, []⟩) (fun w => catch_idle _ w) rfl rfl FB.out ?_
  refine Post.retR1 rfl (some z, 0) ⟨rfl, hz⟩ (OLe.sel [0, 1, 2] [3] rfl rfl) (.rc (i := 3) FA.out rfl rfl rfl) ?_
  exact VLe.refl _
theorem len64_spec {a : Nat} (hp0 : a < 18446744073709551616) : FnP Tryz.prog 135 [uV a] (iV (blN a : Int)) := by
 refine In 25 Tryz.func135 fun _ _ _ => ?_
 refine Z5 ?_
 refine .cut (σ := Nat × Nat) (fun _ => []) (fun g => [(0, uV g.1), (2, iV (g.2 : Int))]) (fun g => blN a = blN g.1 + g.2 ∧ g.1 < 4294967296 ∧ g.2 ≤ 32) ?_ ?_
 ·
  refine Z6 ?_
  refine Cd (fun c0 => ?_) fun c0 => ?_
  ·
   refine Z3 ?_
   refine .p (opShrN (s := 32) (.t rfl) (.c _) (by decide)) rfl ?_
   refine Z6 ?_
   refine .meet (a / 2 ^ 32, 32) ⟨bl_div (by omega), by omega, by omega⟩ rfl (.get rfl (VLe.refl _) (.get rfl (VLe.refl _) (.keep 6 rfl rfl)))
  refine Z1 ?_
  refine .meet (a, 0) ⟨rfl, by omega, by omega⟩ rfl (.get rfl (VLe.refl _) (.get rfl (VLe.refl _) (.keep 2 rfl rfl)))
 intro ⟨x, n⟩ ⟨h1, h2, h3⟩
 simp only at h1 h2 h3 ⊢
 refine .cut (σ := Nat × Nat) (fun _ => []) (fun g => [(0, uV g.1), (2, iV (g.2 : Int))]) (fun g => blN a = blN g.1 + g.2 ∧ g.1 < 65536 ∧ g.2 ≤ 48) ?_ ?_
 ·
  refine Z6 ?_
  refine Cd (fun c1 => ?_) fun c1 => ?_
  ·
   refine Z3 ?_
   refine .p (opShrN (s := 16) (.t rfl) (.c _) (by decide)) rfl ?_
   refine Z8 ?_
   refine .meet (x / 2 ^ 16, n + 16) ⟨by have := bl_div (a := x) (k := 16) (by omega); simp only; omega, by omega, by omega⟩ rfl (.get rfl (VLe.refl _) (.get rfl (VLe.refl _) (.keep 8 rfl rfl)))
  refine Z1 ?_
  refine .meet (x, n) ⟨h1, by omega, by omega⟩ rfl (.get rfl (VLe.refl _) (.get rfl (VLe.refl _) (.keep 2 rfl rfl)))
 intro ⟨y, m⟩ ⟨k1, k2, k3⟩
 simp only at k1 k2 k3 ⊢
 refine .cut (σ := Nat × Nat) (fun _ => []) (fun g => [(0, uV g.1), (2, iV (g.2 : Int))]) (fun g => blN a = blN g.1 + g.2 ∧ g.1 < 256 ∧ g.2 ≤ 56) ?_ ?_
 ·
  refine Z6 ?_
  refine Cd (fun c2 => ?_) fun c2 => ?_
  ·
   refine Z3 ?_
   refine .p (opShrN (s := 8) (.t rfl) (.c _) (by decide)) rfl ?_
   refine Z8 ?_
   refine .meet (y / 2 ^ 8, m + 8) ⟨by have := bl_div (a := y) (k := 8) (by omega); simp only; omega, by omega, by omega⟩ rfl (.get rfl (VLe.refl _) (.get rfl (VLe.refl _) (.keep 8 rfl rfl)))
  refine Z1 ?_
  refine .meet (y, m) ⟨k1, by omega, by omega⟩ rfl (.get rfl (VLe.refl _) (.get rfl (VLe.refl _) (.keep 2 rfl rfl)))
 intro ⟨z, q⟩ ⟨j1, j2, j3⟩
 simp only at j1 j2 j3 ⊢
 have hbz := bl_le (a := z) (n := 8) (by omega)
 refine Z5 ?_
 refine .p (opIndexS FU.out (.s len8L (by decide +kernel) (by decide)) (.t rfl) rfl (len8_at j2)) rfl ?_
 refine .p (opConvF FU.out FU.out (.t rfl) (fits_i64 (by rw [bl8 z j2]; omega) (by rw [bl8 z j2]; omega))) rfl ?_
 refine .p (opAddF (.t rfl) (.t rfl) (fits_i64 (by rw [bl8 z j2]; omega) (by rw [bl8 z j2]; omega))) rfl ?_
 refine Z4 ?_
 refine Rt1 ?_
 exact VLe.int (by rw [bl8 z j2]; omega)
theorem iform_spec : FnP Tryz.prog 205 [aggV (encInstr x)] (intV .i64 (formI x)) := by
 refine In 15 Tryz.func205 fun _ _ _ => ?_
 refine Z10 ?_
 refine .p (cA (h := find_spec)) rfl ?_
 refine Z3 ?_
 refine .n (opAlloc FZ.out) rfl fun b3 _ => ?_
 refine Z4 ?_
 refine .share (t := 3) (i := 0) rfl rfl ?_
 refine Z7 ?_
 refine Cd (fun c0 => ?_) fun c0 => ?_
 ·
  have hf : findI x.Code = none := by simpa using c0
  refine Z7 ?_
  refine Rt1 ?_
  exact VLe.int (by unfold formI; rw [hf]; rfl)
 obtain ⟨i, hf⟩ := Option.isSome_iff_exists.1 (Classical.not_not.1 c0)
 refine Z10 ?_
 refine Rt1 ?_
 exact VLe.int (by unfold formI; rw [hf]; rfl)
theorem ibare_spec {b al l : Int} : FnP Tryz.prog 217 [aggV (encInstr x), intV .u64 (b), intV .i64 (al), intV .i64 (l)] (propV (x.B = b ∧ x.Align = al ∧ (x.L.length : Int) = l)) := by
 refine In 26 Tryz.func217 fun _ _ _ => ?_
 refine Z29 ?_
 refine Rt1 ?_
 exact VLe.prop and_assoc
variable {n : Int}
theorem iblocked_spec : FnP Tryz.prog 218 [intV .u64 (n)] (propV (n = 64 ∨ n = 127 ∨ n = 126)) := by
 refine In 13 Tryz.func218 fun _ _ _ => ?_
 refine Z21 ?_
 refine Rt1 ?_
 exact VLe.prop or_assoc
theorem ismall_spec : FnP Tryz.prog 219 [intV .u64 (n)] (propV (sml n)) := by
 refine In 5 Tryz.func219 fun _ _ _ => ?_
 refine Z13 ?_
 refine Rt1 ?_
 exact VLe.refl _
theorem iright1_spec : FnP Tryz.prog 221 [intV .u64 (n)] (propV (¬ sml n)) := by
 refine In 6 Tryz.func221 fun _ _ _ => ?_
 refine Z8 ?_
 refine .p (cA (h := ismall_spec)) rfl ?_
 refine Z5 ?_
 refine Rt1 ?_
 exact VLe.refl _
theorem idxU64_spec {l : List Int} {p : Int → Prop} : FnP Tryz.prog 239 [sliceV 1 encU64 l, funV Tryz.prog (fun _ : Int => True) (fun x => [intV .u64 x]) (fun x => propV (p x))] (intV .i64 (idxF p l)) := by
 refine In 19 Tryz.func239 fun _ _ _ => ?_
 refine .fact (t := 0) rfl (fun S w v h => sliceV_len h) fun hlen => ?_
 refine Z14 ?_
 refine .loopO (σ := Nat) (fun _ => []) (fun k => [(8, intV .i64 (k : Int))]) (fun k => k ≤ l.length ∧ NotB p l k) (fun k => l.length - k) 0 ⟨by omega, NotB.zero p l⟩ rfl ?_ ?_
 · exact (.get rfl (VLe.refl _) (.refl _ _))
 rintro k ⟨hk, hnot⟩
 refine Z6 ?_
 refine Cd (fun c0 => ?_) fun c0 => ?_
 ·
  obtain ⟨x, hx⟩ := getElem?_lt (xs := l) (k := k) (by omega)
  refine Z15 ?_
  refine .p (cI _) rfl ?_
  refine Z1 ?_
  refine .p (cV x) rfl ?_
  refine Z2 ?_
  refine Cd (fun c1 => ?_) fun c1 => ?_
  ·
   refine Z12 ?_
   refine Rt1 ?_
   exact VLe.int (idxF_at hx (by assumption) hnot).symm
  refine Z7 ?_
  refine .round (k + 1) ⟨by omega, hnot.succ hx (by assumption)⟩ (by omega) rfl ?_
  exact (.get rfl (VLe.int (by omega)) (.keep 12 rfl rfl))
 refine Z11 ?_
 refine Rt1 ?_
 exact VLe.int (idxF_none (hnot.all (by omega))).symm
theorem conU64_spec {l : List Int} {p : Int → Prop} : FnP Tryz.prog 220 [sliceV 1 encU64 l, funV Tryz.prog (fun _ : Int => True) (fun x => [intV .u64 x]) (fun x => propV (p x))] (propV (∃ x ∈ l, p x)) := by
 refine In 9 Tryz.func220 fun _ _ _ => ?_
 refine Z9 ?_
 refine .p (cA (h := idxU64_spec)) rfl ?_
 refine Z5 ?_
 refine Rt1 ?_
 exact VLe.prop idxF_nonneg
theorem iright_spec (hp0 : 0 ≤ x.A) (hp1 : 0 ≤ x.B) : FnP Tryz.prog 201 [aggV (encInstr x)] (propV (rightI x)) := by
 refine In 114 Tryz.func201 fun _ _ _ => ?_
 have hR := right_at hp0 hp1
 generalize hF : formI x = fi at hR
 refine Z10 ?_
 refine .p ((cA (h := iform_spec)).le (VLe.int hF)) rfl ?_
 refine Z9 ?_
 refine Cd (fun c0 => ?_) fun c0 => ?_
 ·
  refine Z7 ?_
  refine .g (OpG.gT rfl rfl rfl rfl (fun hg => opCall (ibare_spec) FB.out (.cons (.when (.t rfl) hg) (.cons (.c _) (.cons (.c _) (.cons (.c _) .nil)))))) rfl rfl ?_
  refine Z7 ?_
  refine Rt1 ?_
  exact VLe.prop (by rw [hR]; unfold rightF bareI; simp [*, List.length_eq_zero_iff, Int.natCast_eq_zero, and_assoc, sml] <;> omega)
 refine Z6 ?_
 refine Cd (fun c1 => ?_) fun c1 => ?_
 ·
  refine Z4 ?_
  refine .p (cA (h := iblocked_spec)) rfl ?_
  refine Z2 ?_
  refine .g (OpG.gT rfl rfl rfl rfl (fun hg => opCall (ibare_spec) FB.out (.cons (.when (.t rfl) hg) (.cons (.c _) (.cons (.c _) (.cons (.c _) .nil)))))) rfl rfl ?_
  refine Z7 ?_
  refine Rt1 ?_
  exact VLe.prop (by rw [hR]; unfold rightF bareI; simp [*, List.length_eq_zero_iff, Int.natCast_eq_zero, and_assoc, sml] <;> omega)
 refine .cut (σ := Unit) (fun _ => []) (fun _ => [(24, propV (fi = 2 ∨ fi = 4 ∨ fi = 6 ∨ fi = 7 ∨ fi = 9))]) (fun _ => True) ?_ ?_
 ·
  refine Z6 ?_
  refine Cd (fun c2 => ?_) fun c2 => ?_
  ·
   refine Z1 ?_
   refine .meet () trivial rfl (.get rfl (VLe.prop (by omega)) (.keep 2 rfl rfl))
  refine Z6 ?_
  refine Cd (fun c3 => ?_) fun c3 => ?_
  ·
   refine Z1 ?_
   refine .meet () trivial rfl (.get rfl (VLe.prop (by omega)) (.keep 4 rfl rfl))
  refine Z6 ?_
  refine Cd (fun c4 => ?_) fun c4 => ?_
  ·
   refine Z1 ?_
   refine .meet () trivial rfl (.get rfl (VLe.prop (by omega)) (.keep 6 rfl rfl))
  refine Z6 ?_
  refine Cd (fun c5 => ?_) fun c5 => ?_
  ·
   refine Z1 ?_
   refine .meet () trivial rfl (.get rfl (VLe.prop (by omega)) (.keep 8 rfl rfl))
  refine Z4 ?_
  refine .meet () trivial rfl (.get rfl (VLe.prop (by omega)) (.keep 10 rfl rfl))
 intro _ _
 refine Cd (fun c6 => ?_) fun c6 => ?_
 ·
  refine Z4 ?_
  refine .p (cA (h := ismall_spec)) rfl ?_
  refine Z2 ?_
  refine .g (OpG.gT rfl rfl rfl rfl (fun hg => opCall (ibare_spec) FB.out (.cons (.when (.t rfl) hg) (.cons (.c _) (.cons (.c _) (.cons (.c _) .nil)))))) rfl rfl ?_
  refine Z7 ?_
  refine Rt1 ?_
  exact VLe.prop (by rw [hR]; unfold rightF bareI; simp [*, List.length_eq_zero_iff, Int.natCast_eq_zero, and_assoc, sml] <;> omega)
 refine Z6 ?_
 refine Cd (fun c7 => ?_) fun c7 => ?_
 ·
  refine Z4 ?_
  refine .p (opCall (conU64_spec (l := x.L) (p := fun n => ¬ sml n)) FB.out (.cons (.t rfl) (.cons (.le (.f _) (funV_of FB.out (fun (n : Int) (_ : True) => iright1_spec (n := n)))) .nil))) rfl ?_
  refine Z7 ?_
  refine .p (cA (h := ismall_spec)) rfl ?_
  refine Z15 ?_
  refine .g (OpG.gT rfl rfl rfl rfl (fun hg => opCall (ibare_spec) FB.out (.cons (.when (.t rfl) hg) (.cons (.c _) (.cons (.c _) (.cons (.when (.t rfl) hg) .nil)))))) rfl rfl ?_
  refine Z7 ?_
  refine Rt1 ?_
  exact VLe.prop (by rw [hR]; unfold rightF bareI; simp [*, List.length_eq_zero_iff, Int.natCast_eq_zero, and_assoc, sml] <;> omega)
 refine .cut (σ := Unit) (fun _ => []) (fun _ => [(62, propV (fi = 5 ∨ fi = 10))]) (fun _ => True) ?_ ?_
 ·
  refine Z6 ?_
  refine Cd (fun c8 => ?_) fun c8 => ?_
  ·
   refine Z1 ?_
   refine .meet () trivial rfl (.get rfl (VLe.prop (by omega)) (.keep 2 rfl rfl))
  refine Z4 ?_
  refine .meet () trivial rfl (.get rfl (VLe.prop (by omega)) (.keep 4 rfl rfl))
 intro _ _
 refine Cd (fun c9 => ?_) fun c9 => ?_
 ·
  refine Z4 ?_
  refine .p (cA (h := ismall_spec)) rfl ?_
  refine Z3 ?_
  refine .g (OpG.gT rfl rfl rfl rfl (fun hg => opCall (ismall_spec) FB.out (.cons (.when (.t rfl) hg) .nil))) rfl rfl ?_
  refine Z5 ?_
  refine .g (OpG.gT rfl rfl rfl rfl (fun hg => opCall (ibare_spec) FB.out (.cons (.when (.t rfl) hg) (.cons (.when (.t rfl) hg) (.cons (.c _) (.cons (.c _) .nil)))))) rfl rfl ?_
  refine Z7 ?_
  refine Rt1 ?_
  exact VLe.prop (by rw [hR]; unfold rightF bareI; simp [*, List.length_eq_zero_iff, Int.natCast_eq_zero, and_assoc, sml] <;> omega)
 refine Z6 ?_
 refine Cd (fun c10 => ?_) fun c10 => ?_
 ·
  refine Z4 ?_
  refine .p (cA (h := ismall_spec)) rfl ?_
  refine Z22 ?_
  refine Rt1 ?_
  exact VLe.prop (by rw [hR]; unfold rightF bareI; simp [*, List.length_eq_zero_iff, Int.natCast_eq_zero, and_assoc, sml] <;> omega)
 refine Z6 ?_
 refine Cd (fun c11 => ?_) fun c11 => ?_
 ·
  refine Z8 ?_
  refine .g (OpG.gF rfl rfl rfl rfl (fun hg => opCall (ismall_spec) FB.out (.cons (.when (.t rfl) hg) .nil))) rfl rfl ?_
  refine Z3 ?_
  refine .g (OpG.gT rfl rfl rfl rfl (fun hg => opCall (ibare_spec) FB.out (.cons (.when (.t rfl) hg) (.cons (.c _) (.cons (.c _) (.cons (.c _) .nil)))))) rfl rfl ?_
  refine Z7 ?_
  refine Rt1 ?_
  exact VLe.prop (by rw [hR]; unfold rightF bareI; simp [*, List.length_eq_zero_iff, Int.natCast_eq_zero, and_assoc, sml] <;> omega)
 refine Z9 ?_
 refine Rt1 ?_
 exact VLe.prop (by rw [hR]; unfold rightF bareI; simp [*, List.length_eq_zero_iff, Int.natCast_eq_zero, and_assoc, sml] <;> omega)
variable {g : SB} {xs : List UInt8}
theorem lput_spec {n : Nat} (hp0 : n < 18446744073709551616) (hp1 : xs.length ≤ 100000) : FnE Tryz.prog 190 [exactV (sval g xs.length), intV .u64 ((n : Int))] [sliceH g 1 encU8 xs] (γ := SB × List UInt8) (fun z => z.2.length = xs.length + lenU n) (fun z => [sliceH z.1 1 encU8 z.2]) (fun z => exactV (sval z.1 z.2.length)) := by
 refine In 21 Tryz.func190 fun _ _ _ => ?_
 have hl10 := lenU_64 hp0
 refine Z7 ?_
 refine .loopO (σ := SB × List UInt8 × Nat) (fun z => [sliceH z.1 1 encU8 z.2.1]) (fun z => [(0, exactV (sval z.1 z.2.1.length)), (1, intV .u64 (z.2.2 : Int))]) (fun z => z.2.1.length + lenU z.2.2 = xs.length + lenU n ∧ z.2.2 ≤ n) (fun z => z.2.2) (g, xs, n) ⟨rfl, Nat.le_refl _⟩ rfl ?_ ?_
 · exact (.get rfl (VLe.refl _) (.get rfl (VLe.refl _) (.refl _ _)))
 rintro ⟨g1, ys, j⟩ ⟨hl, hk⟩
 simp only at hl hk ⊢
 refine Z7 ?_
 refine Cd (fun c0 => ?_) fun c0 => ?_
 ·
  refine Z7 ?_
  refine .p ((opConv FU.out FU.out (.t rfl)).le (VLe.int (show _ = ((j % 256 : Nat) : Int) by rw [u8_wr]; omega))) rfl ?_
  refine .p (opAnd_u8 (b := 127) (by omega) (by decide) (.t rfl) (.c _)) rfl ?_
  refine .p ((opOr_u8 (b := 128) (an127 _) (by decide) (.t rfl) (.c _)).le (u8_nt (or_128 (an127 _)))) rfl ?_
  refine .p (cB encU8 [(UInt8.ofNat ((j % 256 &&& 127) ||| 128))]) rfl ?_
  refine .n (opAppend (i := 0) FU.out FU.out FC.out rfl FZ.out rfl FY.out (.t rfl) (.t rfl) rfl (by simp only [List.length_cons, List.length_nil]; omega) (by simp only [List.length_cons, List.length_nil]; omega)) rfl fun g13 _ => ?_
  refine Z5 ?_
  refine .p ((opShrN (s := 7) (.t rfl) (.c _) (by decide)).le (VLe.int (show ((j / 2 ^ 7 : Nat) : Int) = ((j / 128 : Nat) : Int) from rfl))) rfl ?_
  refine Z3 ?_
  refine .round (g13, ys ++ [(UInt8.ofNat ((j % 256 &&& 127) ||| 128))], j / 128) ⟨by (show (ys ++ [_]).length + lenU (j / 128) = _; rw [List.length_append]; simp only [List.length_cons, List.length_nil]; have := lenU_ge (n := j) (by omega); omega), by show j / 128 ≤ n; omega⟩ (by show j / 128 < j; omega) rfl ?_
  exact (.get rfl (VLe.refl _) (.get rfl (VLe.refl _) ((.keep 15 rfl rfl))))
 refine Z9 ?_
 refine .p ((opConv FU.out FU.out (.t rfl)).le (VLe.trans (VLe.int (show _ = ((j : Nat) : Int) by rw [u8_wr]; omega)) (u8_nt (by omega)))) rfl ?_
 refine .p (cB encU8 [UInt8.ofNat j]) rfl ?_
 refine .n (opAppend (i := 0) FU.out FU.out FC.out rfl FZ.out rfl FY.out (.t rfl) (.t rfl) rfl (by simp only [List.length_cons, List.length_nil]; omega) (by simp only [List.length_cons, List.length_nil]; omega)) rfl fun g20 _ => ?_
 refine Z4 ?_
 refine Post.retR1 rfl ((g20, ys ++ [UInt8.ofNat j])) (by exact (by (show (ys ++ [_]).length = _; rw [List.length_append]; simp only [List.length_cons, List.length_nil]; have := lenU_lt (n := j) (by omega); omega))) (fun _ _ _ h => h) (.rt rfl) ?_
 exact VLe.refl _
theorem lcount_spec {a : Nat} (hp0 : a ≤ 1000) : FnP Tryz.prog 253 [intV .i64 ((a : Int))] (intV .i64 ((((a + 6) / 7 : Nat) : Int))) := by
 refine In 7 Tryz.func253 fun _ _ _ => ?_
 refine Z10 ?_
 refine .p (opQuo (.t rfl) (.c _) (by omega) (by omega) fits_z) rfl ?_
 refine Z4 ?_
 refine Rt1 ?_
 exact VLe.int (by omega)
theorem lsizeS_spec (hp0 : -9223372036854775808 ≤ n) (hp1 : n ≤ 9223372036854775807) : FnP Tryz.prog 244 [intV .i64 (n)] (intV .i64 ((lenS n : Int))) := by
 refine In 12 Tryz.func244 fun _ _ _ => ?_
 refine Z5 ?_
 refine .cut (σ := Unit) (fun _ => []) (fun _ => [(0, intV .i64 (if n < 0 then -n - 1 else n))]) (fun _ => True) ?_ ?_
 ·
  refine Z6 ?_
  refine Cd (fun c0 => ?_) fun c0 => ?_
  ·
   refine Z2 ?_
   refine .p (opNot_i64 hp0 hp1 (.t rfl)) rfl ?_
   refine Z2 ?_
   refine .meet () trivial rfl (.get rfl (VLe.int (by rw [if_pos c0])) (.keep 5 rfl rfl))
  refine Z1 ?_
  refine .meet () trivial rfl (.get rfl (VLe.int (by rw [if_neg c0])) (.keep 2 rfl rfl))
 intro _ _
 have ht : 0 ≤ (if n < 0 then -n - 1 else n) ∧ (if n < 0 then -n - 1 else n) ≤ 9223372036854775807 := by split <;> omega
 generalize htn : (if n < 0 then -n - 1 else n) = t at ht
 have hb64 := bl_64 (a := t.toNat) (by omega)
 have hls : lenS n = (blN t.toNat + 7) / 7 := by rw [lenS_at, ← htn]; split <;> rfl
 refine Z4 ?_
 refine .p (opCall (len64_spec (a := t.toNat) (by omega)) FB.out (.cons (.le (.t rfl) (VLe.int (show t = ((t.toNat : Nat) : Int) by omega))) .nil)) rfl ?_
 refine .p ((opAddF (.t rfl) (.c _) fits_z).le (VLe.int (show _ = ((blN t.toNat + 1 : Nat) : Int) by omega))) rfl ?_
 refine .p (cA (h := lcount_spec (a := blN t.toNat + 1) (by omega))) rfl ?_
 refine Z4 ?_
 refine Rt1 ?_
 exact VLe.int (by rw [hls])
theorem lputS_spec (hp0 : -9223372036854775808 ≤ n) (hp1 : n ≤ 9223372036854775807) (hp2 : xs.length ≤ 100000) : FnE Tryz.prog 223 [exactV (sval g xs.length), intV .i64 (n)] [sliceH g 1 encU8 xs] (γ := SB × List UInt8) (fun z => z.2.length = xs.length + lenS n) (fun z => [sliceH z.1 1 encU8 z.2]) (fun z => exactV (sval z.1 z.2.length)) := by
 refine In 27 Tryz.func223 fun _ _ _ => ?_
 have hl10 := lenS_64 hp0 (by omega : n < 9223372036854775808)
 have hl0 := lenS_pos n
 refine Z9 ?_
 refine .p (cA (h := lsizeS_spec hp0 hp1)) rfl ?_
 refine Z4 ?_
 refine .loopO (σ := SB × List UInt8 × Nat × Int) (fun z => [sliceH z.1 1 encU8 z.2.1]) (fun z => [(0, exactV (sval z.1 z.2.1.length)), (1, intV .i64 z.2.2.2), (5, intV .i64 (z.2.2.1 : Int))]) (fun z => z.2.1.length + z.2.2.1 = xs.length + lenS n ∧ 1 ≤ z.2.2.1) (fun z => z.2.2.1) (g, xs, lenS n, n) ⟨rfl, hl0⟩ rfl ?_ ?_
 · exact (.get rfl (VLe.refl _) (.get rfl (VLe.refl _) (.get rfl (VLe.refl _) (.refl _ _))))
 rintro ⟨g1, ys, j, v⟩ ⟨hl, hk⟩
 simp only at hl hk ⊢
 refine Z7 ?_
 refine Cd (fun c0 => ?_) fun c0 => ?_
 ·
  refine Z8 ?_
  refine .p ((opConv FU.out FU.out (.t rfl)).le (VLe.int (show _ = (((v % 256).toNat % 256 : Nat) : Int) by rw [u8_wr]; omega))) rfl ?_
  refine .p (opAnd_u8 (b := 127) (by omega) (by decide) (.t rfl) (.c _)) rfl ?_
  refine .p ((opOr_u8 (b := 128) (an127 _) (by decide) (.t rfl) (.c _)).le (u8_nt (or_128 (an127 _)))) rfl ?_
  refine .p (cB encU8 [(UInt8.ofNat (((v % 256).toNat % 256 &&& 127) ||| 128))]) rfl ?_
  refine .n (opAppend (i := 0) FU.out FU.out FC.out rfl FZ.out rfl FY.out (.t rfl) (.t rfl) rfl (by simp only [List.length_cons, List.length_nil]; omega) (by simp only [List.length_cons, List.length_nil]; omega)) rfl fun g18 _ => ?_
  refine Z5 ?_
  refine .p (opShr (s := 7) (.t rfl) (.c _) (by decide)) rfl ?_
  refine Z9 ?_
  refine .round (g18, ys ++ [(UInt8.ofNat (((v % 256).toNat % 256 &&& 127) ||| 128))], j - 1, v / 2 ^ 7) ⟨by (show (ys ++ [_]).length + (j - 1) = _; rw [List.length_append]; simp only [List.length_cons, List.length_nil]; omega), by show 1 ≤ j - 1; omega⟩ (by show j - 1 < j; omega) rfl ?_
  exact (.get rfl (VLe.refl _) (.get rfl (VLe.refl _) (.get rfl (VLe.int (by show (_ : Int) = ((j - 1 : Nat) : Int); omega)) ((.keep 19 rfl rfl)))))
 refine Z9 ?_
 refine .p ((opConv FU.out FU.out (.t rfl)).le (VLe.int (show _ = (((v % 256).toNat % 256 : Nat) : Int) by rw [u8_wr]; omega))) rfl ?_
 refine .p ((opAnd_u8 (b := 127) (by omega) (by decide) (.t rfl) (.c _)).le (u8_nt (an127 _))) rfl ?_
 refine .p (cB encU8 [UInt8.ofNat ((v % 256).toNat % 256 &&& 127)]) rfl ?_
 refine .n (opAppend (i := 0) FU.out FU.out FC.out rfl FZ.out rfl FY.out (.t rfl) (.t rfl) rfl (by simp only [List.length_cons, List.length_nil]; omega) (by simp only [List.length_cons, List.length_nil]; omega)) rfl fun g26 _ => ?_
 refine Z4 ?_
 refine Post.retR1 rfl ((g26, ys ++ [UInt8.ofNat ((v % 256).toNat % 256 &&& 127)])) (by exact (by (show (ys ++ [_]).length = _; rw [List.length_append]; simp only [List.length_cons, List.length_nil]; omega))) (fun _ _ _ h => h) (.rt rfl) ?_
 exact VLe.refl _
theorem iputs_spec {l : List Int} (hp0 : ∀ n ∈ l, 0 ≤ n ∧ n < 18446744073709551616) (hp1 : xs.length ≤ 50000) (hp2 : l.length ≤ 200) : FnE Tryz.prog 206 [exactV (sval g xs.length), sliceV 1 encU64 l] [sliceH g 1 encU8 xs] (γ := SB × List UInt8) (fun z => z.2.length = xs.length + sumU l) (fun z => [sliceH z.1 1 encU8 z.2]) (fun z => exactV (sval z.1 z.2.length)) := by
 refine In 18 Tryz.func206 fun _ _ _ => ?_
 refine Z14 ?_
 refine .loopO (σ := SB × List UInt8 × Nat) (fun z => [sliceH z.1 1 encU8 z.2.1]) (fun z => [(0, exactV (sval z.1 z.2.1.length)), (9, intV .i64 (z.2.2 : Int))]) (fun z => z.2.1.length = xs.length + sumU (l.take z.2.2) ∧ z.2.2 ≤ l.length) (fun z => l.length - z.2.2) (g, xs, 0) ⟨by simp [sumU], Nat.zero_le _⟩ rfl ?_ ?_
 · exact (.get rfl (VLe.refl _) (.get rfl (VLe.refl _) (.refl _ _)))
 rintro ⟨g1, ys, j⟩ ⟨hl, hk⟩
 simp only at hl hk ⊢
 have hsu := sumU_le (l.take j) (fun n hn => hp0 n (List.mem_of_mem_take hn))
 have htl : (l.take j).length ≤ l.length := by simp; omega
 refine Z6 ?_
 refine Cd (fun c0 => ?_) fun c0 => ?_
 ·
  obtain ⟨x, hx⟩ := getElem?_lt (xs := l) (k := j) (by omega)
  obtain ⟨hx0, hx64⟩ := hp0 x (List.mem_of_getElem? hx)
  refine Z6 ?_
  refine .p (cI j (h := hx)) rfl ?_
  refine Z7 ?_
  refine .n (opCallE (rest := []) (lput_spec (n := x.toNat) (by omega) (by omega)) FB.out (.cons (.t rfl) (.cons (.le (.t rfl) (VLe.int (show x = ((x.toNat : Nat) : Int) by omega))) .nil)) (Perm.idx [0] rfl rfl)) rfl fun g15 h15 => ?_
  refine Z8 ?_
  refine .round (g15.1, g15.2, j + 1) ⟨by (show g15.2.length = _; rw [h15, hl, ← take_snoc hx, sumU_snoc]; unfold lenUI; omega), by show j + 1 ≤ _; omega⟩ (by show l.length - (j + 1) < l.length - j; omega) rfl ?_
  exact (.get rfl (VLe.refl _) (.get rfl (VLe.int (by show (_ : Int) = ((j + 1 : Nat) : Int); omega)) ((.keep 12 rfl rfl))))
 have hjl : l.take j = l := List.take_of_length_le (by omega)
 refine Z12 ?_
 refine Post.retR1 rfl ((g1, ys)) (by exact (by (show ys.length = _; rw [hl, hjl]))) (fun _ _ _ h => h) (.rt rfl) ?_
 exact VLe.refl _
theorem ihead_spec (hp0 : nameR x.Code ≠ []) : FnE Tryz.prog 204 [aggV (encInstr x)] [] (γ := SB × List UInt8) (fun z => z.2.length = headN x) (fun z => [sliceH z.1 1 encU8 z.2]) (fun z => exactV (sval z.1 z.2.length)) := by
 refine In 16 Tryz.func204 fun _ _ _ => ?_
 have hci := code_in hp0
 refine Z14 ?_
 refine Cd (fun c0 => ?_) fun c0 => ?_
 ·
  refine Z4 ?_
  refine .p ((opConv FU.out FU.out (.t rfl)).le (VLe.trans (VLe.int (show _ = ((x.Code.toNat : Nat) : Int) by rw [u8_wr]; omega)) (u8_nt (by omega)))) rfl ?_
  refine .n (opBuildSliceO encU8 [UInt8.ofNat x.Code.toNat] FU.out FC.out rfl FZ.out rfl (.cons (.t rfl) .nil) rfl rfl rfl rfl rfl) rfl fun g9 _ => ?_
  refine Z5 ?_
  refine Post.retR1 rfl ((g9, [UInt8.ofNat x.Code.toNat])) (by exact (by unfold headN; rw [if_neg (by omega)]; rfl)) (fun _ _ _ h => h) (.rt rfl) ?_
  exact VLe.refl _
 refine Z4 ?_
 refine .n (opBuildSliceO encU8 [252] FU.out FC.out rfl FZ.out rfl (.cons (.c _) .nil) rfl rfl rfl rfl rfl) rfl fun g10 _ => ?_
 refine Z4 ?_
 refine .n (opCallE (rest := []) (lput_spec (xs := [252]) (n := (x.Code - 64512).toNat) (by omega) (by simp)) FB.out (.cons (.t rfl) (.cons (.le (.t rfl) (VLe.int (show x.Code - 64512 = (((x.Code - 64512).toNat : Nat) : Int) by omega))) .nil)) (Perm.idx [0] rfl rfl)) rfl fun g15 h15 => ?_
 refine Z4 ?_
 refine Post.retR1 rfl (g15) (by exact (by rw [h15]; unfold headN; rw [if_pos (by omega)]; rfl)) (fun _ _ _ h => h) (.rt rfl) ?_
 exact VLe.refl _
theorem imem_spec (hp0 : 0 ≤ x.A) (hp1 : x.A < 18446744073709551616) (hp2 : 0 ≤ x.B) (hp3 : x.B < 18446744073709551616) (hp4 : 0 ≤ x.Align) (hp5 : x.Align ≤ 31) (hp6 : xs.length ≤ 50000) : FnE Tryz.prog 207 [aggV (encInstr x), exactV (sval g xs.length)] [sliceH g 1 encU8 xs] (γ := SB × List UInt8) (fun z => z.2.length = xs.length + memN x) (fun z => [sliceH z.1 1 encU8 z.2]) (fun z => exactV (sval z.1 z.2.length)) := by
 refine In 27 Tryz.func207 fun _ _ _ => ?_
 refine Z14 ?_
 refine Cd (fun c0 => ?_) fun c0 => ?_
 ·
  refine Z8 ?_
  refine .p (cB encU64 [x.Align, x.B]) rfl ?_
  refine .n (cE (h := iputs_spec (l := [x.Align, x.B]) (by simp; omega) hp6 (by simp))) rfl fun g15 h15 => ?_
  refine Z5 ?_
  refine Post.retR1 rfl (g15) (by exact (by rw [h15]; unfold memN; rw [if_pos c0]; simp [sumU])) (fun _ _ _ h => h) (.rt rfl) ?_
  exact VLe.refl _
 refine Z13 ?_
 refine .p (cB encU64 [x.Align + 64, x.A, x.B]) rfl ?_
 refine .n (cE (h := iputs_spec (l := [x.Align + 64, x.A, x.B]) (by simp; omega) hp6 (by simp))) rfl fun g26 h26 => ?_
 refine Z4 ?_
 refine Post.retR1 rfl (g26) (by exact (by rw [h26]; unfold memN; rw [if_neg c0]; simp [sumU]; omega)) (fun _ _ _ h => h) (.rt rfl) ?_
 exact VLe.refl _
theorem iword_spec (hp0 : 0 ≤ x.A) (hp1 : x.A < 18446744073709551616) (hp2 : x.Code = 65 ∨ x.Code = 66) (hp3 : x.Code = 65 → x.A ≤ 4294967295) (hp4 : xs.length ≤ 50000) : FnE Tryz.prog 208 [aggV (encInstr x), exactV (sval g xs.length)] [sliceH g 1 encU8 xs] (γ := SB × List UInt8) (fun z => z.2.length = xs.length + lenS (wordV x)) (fun z => [sliceH z.1 1 encU8 z.2]) (fun z => exactV (sval z.1 z.2.length)) := by
 refine In 19 Tryz.func208 fun _ _ _ => ?_
 refine Z10 ?_
 refine .p ((opConv FU.out FU.out (.t rfl)).le (VLe.int (wrap_64 hp0 hp1))) rfl ?_
 refine Z3 ?_
 refine .cut (σ := Unit) (fun _ => [sliceH g 1 encU8 xs]) (fun _ => [(5, intV .i64 (wordV x))]) (fun _ => True) ?_ ?_
 ·
  refine Z7 ?_
  refine Cd (fun c0 => ?_) fun c0 => ?_
  ·
   refine Z3 ?_
   refine .p ((opConv FU.out FU.out (.t rfl)).le (VLe.int (wrap_32 hp0 (hp3 (by omega))))) rfl ?_
   refine .p (opConvF FU.out FU.out (.t rfl) (fits_i64 (by split <;> omega) (by split <;> omega))) rfl ?_
   refine Z2 ?_
   refine .meet () trivial rfl (.get rfl (VLe.int (by rw [show wordV x = (if x.A < 2147483648 then x.A else x.A - 4294967296) from if_pos (by omega)])) (.keep 8 rfl rfl))
  refine Z1 ?_
  refine .meet () trivial rfl (.get rfl (VLe.int (by rw [show wordV x = (if x.A < 9223372036854775808 then x.A else x.A - 18446744073709551616) from if_neg (by omega)])) (.keep 3 rfl rfl))
 intro _ _
 have hwv : -9223372036854775808 ≤ wordV x ∧ wordV x ≤ 9223372036854775807 := by unfold wordV; (repeat split) <;> omega
 refine Z4 ?_
 refine .n (cE (h := lputS_spec (n := wordV x) hwv.1 hwv.2 (by omega))) rfl fun g18 h18 => ?_
 refine Z4 ?_
 refine Post.retR1 rfl (g18) (by exact h18) (fun _ _ _ h => h) (.rt rfl) ?_
 exact VLe.refl _
theorem iencode_spec (hp0 : InsOk x) (hp1 : rightI x) : FnE Tryz.prog 191 [aggV (encInstr x)] [] (γ := List UInt8) (fun l => l.length = lenI x) (fun _ => []) (fun l => tupV [sliceV 1 encU8 l, intV .i64 0]) := by
 refine In 68 Tryz.func191 fun _ _ _ => ?_
 obtain ⟨hf, hne⟩ := right_form hp0.A0 hp0.B0 hp1
 obtain ⟨r1, r2, r3, r4, r5, r6⟩ := id hp1
 have hL100 : x.L.length ≤ 100 := r6.elim (fun h => by rw [h]; simp) (fun h => h.2)
 have hA0 := hp0.A0
 have hA64 := hp0.A64
 have hB0 := hp0.B0
 have hB64 := hp0.B64
 have hfb := form_bound x.Code
 have hhd : headN x ≤ 20 := by unfold headN lenUI; split <;> (try have := lenU_64 (n := (x.Code - 64512).toNat) (by have := code_in hne; omega)) <;> omega
 refine Z11 ?_
 refine .p (cA (h := iright_spec hp0.A0 hp0.B0)) rfl ?_
 refine Z3 ?_
 refine Cd (fun c0 => ?_) fun c0 => ?_
 · exact absurd hp1 c0
 refine Z5 ?_
 refine .n (cE (h := ihead_spec hne)) rfl fun g9 h9 => ?_
 refine Z3 ?_
 refine .cut (σ := SB × List UInt8) (fun z => [sliceH z.1 1 encU8 z.2]) (fun z => [(4, exactV (sval z.1 z.2.length))]) (fun z => z.2.length = lenI x) ?_ ?_
 ·
  refine Z3 ?_
  refine .p ((cA (h := iform_spec)).le (VLe.int hf)) rfl ?_
  refine Z9 ?_
  refine Cd (fun c1 => ?_) fun c1 => ?_
  ·
   refine Z4 ?_
   refine .p ((opConv FU.out FU.out (.t rfl)).le (VLe.trans (VLe.int (show _ = ((x.A.toNat % 256 : Nat) : Int) by rw [u8_wr]; omega)) (u8_nt (by omega)))) rfl ?_
   refine .p (cB encU8 [UInt8.ofNat (x.A.toNat % 256)]) rfl ?_
   refine .n (opAppend (i := 0) FU.out FU.out FC.out rfl FZ.out rfl FY.out (.t rfl) (.t rfl) rfl (by simp only [List.length_cons, List.length_nil]; omega) (by simp only [List.length_cons, List.length_nil]; omega)) rfl fun g19 _ => ?_
   refine Z3 ?_
   refine .meet (g19, g9.2 ++ [UInt8.ofNat (x.A.toNat % 256)]) (by (show ((g19, g9.2 ++ [UInt8.ofNat (x.A.toNat % 256)])).2.length = lenI x; rw [lenI_eq]; rw [if_pos c1]; simp [h9])) rfl (.get rfl (VLe.refl _) (.keep 11 rfl rfl))
  refine .cut (σ := Unit) (fun _ => [sliceH g9.1 1 encU8 g9.2]) (fun _ => [(20, propV (formR x.Code = 2 ∨ formR x.Code = 4 ∨ formR x.Code = 6 ∨ formR x.Code = 7 ∨ formR x.Code = 9))]) (fun _ => True) ?_ ?_
  ·
   refine Z6 ?_
   refine Cd (fun c2 => ?_) fun c2 => ?_
   ·
    refine Z1 ?_
    refine .meet () trivial rfl (.get rfl (VLe.prop (by omega)) (.keep 2 rfl rfl))
   refine Z6 ?_
   refine Cd (fun c3 => ?_) fun c3 => ?_
   ·
    refine Z1 ?_
    refine .meet () trivial rfl (.get rfl (VLe.prop (by omega)) (.keep 4 rfl rfl))
   refine Z6 ?_
   refine Cd (fun c4 => ?_) fun c4 => ?_
   ·
    refine Z1 ?_
    refine .meet () trivial rfl (.get rfl (VLe.prop (by omega)) (.keep 6 rfl rfl))
   refine Z6 ?_
   refine Cd (fun c5 => ?_) fun c5 => ?_
   ·
    refine Z1 ?_
    refine .meet () trivial rfl (.get rfl (VLe.prop (by omega)) (.keep 8 rfl rfl))
   refine Z4 ?_
   refine .meet () trivial rfl (.get rfl (VLe.prop (by omega)) (.keep 10 rfl rfl))
  intro _ _
  refine Cd (fun c6 => ?_) fun c6 => ?_
  ·
   refine Z4 ?_
   refine .p (cB encU64 [x.A]) rfl ?_
   refine .n (cE (h := iputs_spec (l := [x.A]) (by simp; omega) (by omega) (by simp))) rfl fun g30 h30 => ?_
   refine Z3 ?_
   refine .meet g30 (by (show (g30).2.length = lenI x; rw [h30, h9, lenI_eq]; rw [if_neg c1, if_pos c6]; simp [sumU])) rfl (.get rfl (VLe.refl _) (.keep 11 rfl rfl))
  refine Z6 ?_
  refine Cd (fun c7 => ?_) fun c7 => ?_
  ·
   refine .stagedK [(0, 0), (1, 0), (2, 0), (3, 0), (4, 0), (5, 0), (7, 0), (8, 0), (10, 0), (11, 0), (12, 0), (6, 2), (9, 2)] 13 2 FM.out (by kernel_rfl) (k := ?_)
   refine Z5 ?_
   refine .p rfl (fun _ => opBuildSlice (enc := encU64) [(x.L.length : Int)] FU.out FC.out rfl FZ.out rfl (.cons (.t rfl) .nil) rfl rfl rfl rfl rfl) ?_
   refine Z4 ?_
   refine .p rfl (fun _ => opBuildSlice (enc := encU64) [x.A] FU.out FC.out rfl FZ.out rfl (.cons (.t rfl) .nil) rfl rfl rfl rfl rfl) ?_
   refine .e rfl (cE (h := iputs_spec (l := [(x.L.length : Int)]) (by simp; omega) (by omega) (by simp))) fun g39 h39 => ?_
   refine .e rfl (cE (h := iputs_spec (l := x.L) (fun n hn => ⟨hp0.L0 n hn, by have h9 : n ≤ 4294967295 := r5 n hn; omega⟩) (by rw [h39, h9]; have := sumU_le [(x.L.length : Int)] (by simp; omega); simp only [List.length_cons, List.length_nil] at this; omega) (by omega))) fun g42 h42 => ?_
   refine .fin ?_
   refine .n (cE (h := iputs_spec (l := [x.A]) (by simp; omega) (by rw [h42, h39, h9]; have := sumU_le [(x.L.length : Int)] (by simp; omega); have h8 := sumU_le x.L (fun n hn => ⟨hp0.L0 n hn, by have h9 : n ≤ 4294967295 := r5 n hn; omega⟩); simp only [List.length_cons, List.length_nil] at this; omega) (by simp))) rfl fun g46 h46 => ?_
   refine Z3 ?_
   refine .meet g46 (by (show (g46).2.length = lenI x; rw [h46, h42, h39, h9, lenI_eq]; rw [if_neg c1, if_neg c6, if_pos c7]; simp [sumU, lenUI]; omega)) rfl (.get rfl (VLe.refl _) (.keep 22 rfl rfl))
  refine .cut (σ := Unit) (fun _ => [sliceH g9.1 1 encU8 g9.2]) (fun _ => [(47, propV (formR x.Code = 5 ∨ formR x.Code = 10))]) (fun _ => True) ?_ ?_
  ·
   refine Z6 ?_
   refine Cd (fun c8 => ?_) fun c8 => ?_
   ·
    refine Z1 ?_
    refine .meet () trivial rfl (.get rfl (VLe.prop (by omega)) (.keep 2 rfl rfl))
   refine Z4 ?_
   refine .meet () trivial rfl (.get rfl (VLe.prop (by omega)) (.keep 4 rfl rfl))
  intro _ _
  refine Cd (fun c9 => ?_) fun c9 => ?_
  ·
   refine Z6 ?_
   refine .p (cB encU64 [x.A, x.B]) rfl ?_
   refine .n (cE (h := iputs_spec (l := [x.A, x.B]) (by simp; omega) (by omega) (by simp))) rfl fun g56 h56 => ?_
   refine Z3 ?_
   refine .meet g56 (by (show (g56).2.length = lenI x; rw [h56, h9, lenI_eq]; rw [if_neg c1, if_neg c6, if_neg c7, if_pos c9]; simp [sumU])) rfl (.get rfl (VLe.refl _) (.keep 16 rfl rfl))
  refine Z6 ?_
  refine Cd (fun c10 => ?_) fun c10 => ?_
  ·
   refine Z3 ?_
   refine .n (cE (h := imem_spec hA0 hA64 hB0 hB64 hp0.a0 hp0.a31 (by omega))) rfl fun g61 h61 => ?_
   refine Z3 ?_
   refine .meet g61 (by (show (g61).2.length = lenI x; rw [h61, h9, lenI_eq]; rw [if_neg c1, if_neg c6, if_neg c7, if_neg c9, if_pos c10])) rfl (.get rfl (VLe.refl _) (.keep 14 rfl rfl))
  refine Z6 ?_
  refine Cd (fun c11 => ?_) fun c11 => ?_
  ·
   refine Z3 ?_
   refine .n (cE (h := iword_spec hA0 hA64 (form_11 c11) (fun h65 => Classical.byContradiction fun h9 => r2 (.inr (.inl ⟨h65, h9⟩))) (by omega))) rfl fun g66 h66 => ?_
   refine Z3 ?_
   refine .meet g66 (by (show (g66).2.length = lenI x; rw [h66, h9, lenI_eq]; rw [if_neg c1, if_neg c6, if_neg c7, if_neg c9, if_neg c10, if_pos c11])) rfl (.get rfl (VLe.refl _) (.keep 16 rfl rfl))
  refine Z2 ?_
  refine .meet g9 (by (show (g9).2.length = lenI x; rw [h9, lenI_eq]; rw [if_neg c1, if_neg c6, if_neg c7, if_neg c9, if_neg c10, if_neg c11]; rfl)) rfl (.get rfl (VLe.refl _) (.keep 12 rfl rfl))
 intro z hz
 refine Z1 ?_
 refine .shareS (t := 4) (i := 0) (g := z.1) (xs := z.2) rfl rfl ?_
 refine Z7 ?_
 refine Post.retR rfl rfl (z.2) (by exact hz) (fun _ _ _ h => h) rfl (.cons (.rt rfl) ?_ (.cons (.rt rfl) ?_ .nil))
 · exact VLe.refl _
 exact VLe.refl _
theorem copens_spec : FnP Tryz.prog 240 [aggV (encInstr x)] (propV (opensC x.Code)) := by
 refine In 16 Tryz.func240 fun _ _ _ => ?_
 refine Z25 ?_
 refine Rt1 ?_
 exact VLe.prop or_assoc
variable {l : List InstrD} {nb : Nat}
theorem ntop_spec {pb pc p : Nat} {go : SB} {sp : List SpD} {o : List Nat} {cl : Prop} {dp : Int} {s : SpD} (hp0 : sp[p]? = some s) : FnE Tryz.prog 252 [addrV nb 0] (nsH nb l ⟨some (pb, pc), go, sp, o ++ [p], cl, dp⟩) (γ := Unit) (fun _ => True) (fun _ => nsH nb l ⟨some (pb, pc), go, sp, o ++ [p], cl, dp⟩) (fun _ => tupV [addrV pb (p * 3), propV True]) := by
 refine In 27 Tryz.func252 fun _ _ _ => ?_
 refine .sliceSome 2 rfl (by simp) fun qb qc hq => ?_
 simp only at hq
 subst hq
 refine .sliceLe 2 rfl fun hol => ?_
 simp only [List.length_append, List.length_cons, List.length_nil] at hol
 have hps := (List.getElem?_eq_some_iff.1 hp0).1
 refine Z17 ?_
 refine Cd (fun c0 => ?_) fun c0 => ?_
 · exfalso; simp at c0; omega
 refine Z3 ?_
 refine .drawK 16 3 FM.out (by kernel_rfl) (k := ?_)
 refine Z13 ?_
 refine .p (opSubF (.t rfl) (.c _) (fits_i64 (by simp <;> omega) (by simp <;> omega))) ?_
 refine .p (opIndexAddrW o.length FU.out FC.out rfl (.t rfl) (.t rfl) (by simp) (by simp)) ?_
 refine .p (opLoadW (i := 2) (r := 0) FA.out (.t rfl) rfl (snoc_at (o := o) (p := p)) rfl) ?_
 refine Z1 ?_
 refine .p (opIndexAddrW p FU.out FC.out rfl (.t rfl) (.t rfl) rfl hps) rfl ?_
 refine Z5 ?_
 refine Rt2 ?_ ?_
 · exact VLe.refl _
 exact VLe.refl _
theorem ntopN_spec {gp go : SB} {sp : List SpD} {cl : Prop} {dp : Int} : FnE Tryz.prog 252 [addrV nb 0] (nsH nb l ⟨gp, go, sp, [], cl, dp⟩) (γ := Unit) (fun _ => True) (fun _ => nsH nb l ⟨gp, go, sp, [], cl, dp⟩) (fun _ => tupV [exactV (.pointer none), propV False]) := by
 refine In 27 Tryz.func252 fun _ _ _ => ?_
 refine Z17 ?_
 refine Cd (fun c0 => ?_) fun c0 => ?_
 ·
  refine Z8 ?_
  refine Rt2 ?_ ?_
  · exact VLe.refl _
  exact VLe.refl _
 exact absurd rfl c0
variable {z : NsT}
theorem nbegin_spec {i : Nat} (hp0 : z.op.length ≤ 64) (hp1 : z.sp.length ≤ 50000) : FnE Tryz.prog 241 [addrV nb 0, intV .i64 ((i : Int))] (nsH nb l z) (γ := Int × NsT) (fun g => (z.op.length = 64 ∧ g.1 ≠ 0) ∨ (z.op.length ≠ 64 ∧ g.1 = 0 ∧ g.2.sp = z.sp ++ [((i : Int), -1, -1)] ∧ g.2.op = z.op ++ [z.sp.length] ∧ g.2.cl = z.cl)) (fun g => nsH nb l g.2) (fun g => intV .i64 g.1) := by
 refine In 49 Tryz.func241 fun _ _ _ => ?_
 refine Z16 ?_
 refine Cd (fun c0 => ?_) fun c0 => ?_
 ·
  refine Z7 ?_
  refine Post.retR1 rfl ((15, z)) (by exact .inl ⟨by omega, by show (15 : Int) ≠ 0; decide⟩) (fun _ _ _ h => h) (.rt rfl) ?_
  exact VLe.refl _
 refine Z3 ?_
 refine .stagedK [(0, 0), (1, 0), (2, 0), (3, 0), (4, 1), (5, 0), (6, 0), (7, 0), (8, 1), (9, 1), (10, 0), (11, 2)] 12 3 FM.out (by kernel_rfl) (k := ?_)
 refine Z10 ?_
 refine .p rfl (fun _ => opBuildSlice (enc := encNt) [z.sp.length] FU.out FC.out rfl FZ.out rfl (.cons (.t rfl) .nil) rfl rfl rfl rfl rfl) ?_
 refine .e rfl (opAppend (i := 2) FU.out FU.out FC.out rfl FZ.out rfl FY.out (.t rfl) (.t rfl) rfl (by simp only [List.length_cons, List.length_nil]; omega) (by simp only [List.length_cons, List.length_nil]; omega)) fun g22 _ => ?_
 refine .fin ?_
 refine Z14 ?_
 refine .p (cB encSpan3 [((i : Int), -1, -1)]) rfl ?_
 refine .n (opAppend (i := 1) FU.out FU.out FC.out rfl FZ.out rfl FY.out (.t rfl) (.t rfl) rfl (by simp only [List.length_cons, List.length_nil]; omega) (by simp only [List.length_cons, List.length_nil]; omega)) rfl fun g33 _ => ?_
 refine Z6 ?_
 refine .drawK 11 3 FM.out (by kernel_rfl) (k := ?_)
 refine Z23 ?_
 refine Post.retR1 rfl ((0, ⟨g33, g22, z.sp ++ [((i : Int), -1, -1)], z.op ++ [z.sp.length], z.cl, max z.dp ((z.op ++ [z.sp.length]).length : Int)⟩)) (by exact .inr ⟨by omega, rfl, rfl, rfl, rfl⟩) (fun _ _ _ h => h) (.rt rfl) ?_
 exact VLe.refl _
variable {rs : List (Int × Bool)} {j : Nat}
theorem nother_spec (hp0 : NestR l z.sp z.op rs) (hp1 : z.op.length ≤ 64) (hp2 : z.sp.length ≤ 50000) (hp3 : ¬ z.cl) : FnE Tryz.prog 242 [addrV nb 0, intV .i64 ((j : Int))] (nsH nb l z) (γ := Int × NsT) (fun g => nsP l False rs 5 (z.sp.length + 1) g.1 g.2) (fun g => nsH nb l g.2) (fun g => intV .i64 g.1) := by
 refine In 39 Tryz.func242 fun _ _ _ => ?_
 refine Z6 ?_
 rcases List.eq_nil_or_concat z.op with hop | ⟨o, p, hop⟩
 have hrs : rs = [] := by have := hp0.len; rw [hop] at this; exact List.eq_nil_of_length_eq_zero this.symm
 obtain ⟨gp, go, sp, op, cl, dp⟩ := z
 simp only at hop hp0 hp1 hp2 hp3
 subst hop
 subst hrs
 rotate_left
 obtain ⟨gp, go, sp, op, cl, dp⟩ := z
 simp only [List.concat_eq_append] at hop hp0 hp1 hp2 hp3
 subst hop
 obtain ⟨rs2, ce, hrs⟩ : ∃ rs2 ce, rs = rs2 ++ [ce] := snoc_of (fun e => by have := hp0.len; rw [e] at this; simp at this)
 obtain ⟨cb, ce⟩ := ce
 subst hrs
 obtain ⟨bi, el, en, y, hs, hy, hyc, hce⟩ := hp0.top
 simp only at hyc hce
 refine .sliceSome 1 rfl (fun e => by (have h9 := (List.getElem?_eq_some_iff.1 hs).1; simp only at e; rw [e] at h9; simp at h9)) fun pb pc hgp => ?_
 simp only at hgp
 subst hgp
 ·
  refine Z2 ?_
  refine .n ((cE (h := ntop_spec hs)).same (fun _ _ => OLe.refl _) (fun _ _ => VLe.refl _)) rfl fun _ _ => ?_
  refine Z9 ?_
  refine .drawK 11 12 FM.out (by kernel_rfl) (k := ?_)
  refine Z10 ?_
  refine .cons (OpG.gF rfl rfl rfl rfl (fun hg => opLoadW (i := 1) (r := 0) FA.out (.when (.t rfl) hg) rfl hs rfl)) ?_
  refine Z1 ?_
  refine .g (OpG.gF rfl rfl rfl rfl (fun hg => opIndexAddr (j := bi) FU.out FC.out rfl (.when (.t rfl) hg) (.when (.t rfl) hg) rfl hy)) rfl rfl ?_
  refine Z8 ?_
  refine .g (OpG.gF rfl rfl rfl rfl (fun hg => opLoadW (i := 1) (r := 1) FA.out (.when (.t rfl) hg) rfl hs rfl)) rfl rfl ?_
  refine Z4 ?_
  refine Cd (fun c0 => ?_) fun c0 => ?_
  ·
   refine Z7 ?_
   refine Post.retR1 rfl ((4, ⟨some (pb, pc), go, sp, o ++ [p], cl, dp⟩)) (by exact .inr ⟨by show (4 : Int) ≠ 0; decide, fun r h => by (have h9 := (nrunC_else.1 h).1; rcases c0 with (h8 | h8) | h8; exact h8 trivial; exact h8 (hyc.trans h9.1); have h7 := hce.2 h8; rw [h9.2] at h7; cases h7)⟩) (fun _ _ _ h => h) (.rt rfl) ?_
   exact VLe.refl _
  refine Z8 ?_
  refine .s (opStoreW (enc := encSpan3) (i := 1) (r := 1) ((bi : Int), (j : Int), en) rfl FC.out (.t rfl) (.t rfl) rfl hs rfl rfl) ?_
  refine Z2 ?_
  refine .own (hs' := nsH nb l ⟨some (pb, pc), go, sp.set p ((bi : Int), (j : Int), en), o ++ [p], cl, dp⟩) (OLe.of_eq (by simp)) ?_
  refine Z6 ?_
  refine Post.retR1 rfl ((0, ⟨some (pb, pc), go, sp.set p ((bi : Int), (j : Int), en), o ++ [p], cl, dp⟩)) (by exact .inl ⟨rfl, by (show (sp.set p _).length ≤ sp.length + 1; rw [List.length_set]; omega), hp1, rs2 ++ [(cb, true)], hp0.other hs hy hyc, fun r => by (show nrunC False (rs2 ++ [(cb, ce)]) (5 :: r) ↔ nrunC cl (rs2 ++ [(cb, true)]) r; rw [nrunC_else]; have h4 : cb = 4 := hyc.symm.trans (Classical.byContradiction fun h => c0 (.inl (.inr h))); have hf : ce = false := Bool.eq_false_iff.2 (fun h8 => c0 (.inr (hce.1 h8))); rw [show (cl = False) from eq_false hp3]; exact ⟨fun h => h.2, fun h => ⟨⟨h4, hf⟩, h⟩⟩)⟩) (fun _ _ _ h => h) (.rt rfl) ?_
  exact VLe.refl _
 refine Z2 ?_
 refine .n ((cE (h := ntopN_spec)).same (fun _ _ => OLe.refl _) (fun _ _ => VLe.refl _)) rfl fun _ _ => ?_
 refine Z9 ?_
 refine .drawK 11 12 FM.out (by kernel_rfl) (k := ?_)
 refine Z3 ?_
 refine .cons (OpG.gF rfl rfl rfl rfl (fun hg => opNo (q := anyV) (hg (fun h => h)))) ?_
 refine .cons (OpG.gF rfl rfl rfl rfl (fun hg => opNo (q := anyV) (hg (fun h => h)))) ?_
 refine .cons (OpG.gF rfl rfl rfl rfl (fun hg => opNo (q := anyV) (hg (fun h => h)))) ?_
 refine .cons (OpG.gF rfl rfl rfl rfl (fun hg => opNo (q := anyV) (hg (fun h => h)))) ?_
 refine .cons (OpG.gF rfl rfl rfl rfl (fun hg => opNo (q := anyV) (hg (fun h => h)))) ?_
 refine .cons (OpG.gF rfl rfl rfl rfl (fun hg => opNo (q := anyV) (hg (fun h => h)))) ?_
 refine .cons (OpG.gF rfl rfl rfl rfl (fun hg => opNo (q := anyV) (hg (fun h => h)))) ?_
 refine .cons (OpG.gF rfl rfl rfl rfl (fun hg => opNo (q := anyV) (hg (fun h => h)))) ?_
 refine Z1 ?_
 refine .g (OpG.gF rfl rfl rfl rfl (fun hg => opNo (q := anyV) (hg (fun h => h)))) rfl rfl ?_
 refine .g (OpG.gF rfl rfl rfl rfl (fun hg => opNo (q := anyV) (hg (fun h => h)))) rfl rfl ?_
 refine .g (OpG.gF rfl rfl rfl rfl (fun hg => opNo (q := anyV) (hg (fun h => h)))) rfl rfl ?_
 refine .g (OpG.gF rfl rfl rfl rfl (fun hg => opNo (q := propV True) (hg (fun h => h)))) rfl rfl ?_
 refine Z2 ?_
 refine .g (OpG.gF rfl rfl rfl rfl (fun hg => opNo (q := anyV) (hg (.inl (fun h => h))))) rfl rfl ?_
 refine .g (OpG.gF rfl rfl rfl rfl (fun hg => opNo (q := anyV) (hg (.inl (fun h => h))))) rfl rfl ?_
 refine .g (OpG.gF rfl rfl rfl rfl (fun hg => opNo (q := anyV) (hg (.inl (fun h => h))))) rfl rfl ?_
 refine .g (OpG.gF rfl rfl rfl rfl (fun hg => opNo (q := anyV) (hg (.inl (fun h => h))))) rfl rfl ?_
 refine .g (OpG.gF rfl rfl rfl rfl (fun hg => opNo (q := propV True) (hg (.inl (fun h => h))))) rfl rfl ?_
 refine Z3 ?_
 refine Cd (fun c0 => ?_) fun c0 => ?_
 ·
  refine Z7 ?_
  refine Post.retR1 rfl ((4, ⟨gp, go, sp, [], cl, dp⟩)) (by exact .inr ⟨by show (4 : Int) ≠ 0; decide, fun r => nrunC_else_no⟩) (fun _ _ _ h => h) (.rt rfl) ?_
  exact VLe.refl _
 exact absurd (.inl (.inl (fun h => h))) c0
theorem nend_spec (hp0 : NestR l z.sp z.op rs) (hp1 : z.op.length ≤ 64) (hp2 : z.sp.length ≤ 50000) (hp3 : ¬ z.cl) : FnE Tryz.prog 243 [addrV nb 0, intV .i64 ((j : Int))] (nsH nb l z) (γ := NsT) (fun g => nsP l False rs 11 (z.sp.length + 1) 0 g) (fun g => nsH nb l g) (fun g => tupV []) := by
 refine In 34 Tryz.func243 fun _ _ _ => ?_
 refine Z1 ?_
 rcases List.eq_nil_or_concat z.op with hop | ⟨o, p, hop⟩
 have hrs : rs = [] := by have := hp0.len; rw [hop] at this; exact List.eq_nil_of_length_eq_zero this.symm
 obtain ⟨gp, go, sp, op, cl, dp⟩ := z
 simp only at hop hp0 hp1 hp2 hp3
 subst hop
 subst hrs
 rotate_left
 obtain ⟨gp, go, sp, op, cl, dp⟩ := z
 simp only [List.concat_eq_append] at hop hp0 hp1 hp2 hp3
 subst hop
 obtain ⟨rs2, ce, hrs⟩ : ∃ rs2 ce, rs = rs2 ++ [ce] := snoc_of (fun e => by have := hp0.len; rw [e] at this; simp at this)
 obtain ⟨cb, ce⟩ := ce
 subst hrs
 obtain ⟨bi, el, en, y, hs, hy, hyc, hce⟩ := hp0.top
 simp only at hyc hce
 refine .sliceSome 1 rfl (fun e => by (have h9 := (List.getElem?_eq_some_iff.1 hs).1; simp only at e; rw [e] at h9; simp at h9)) fun pb pc hgp => ?_
 simp only at hgp
 subst hgp
 ·
  refine Z2 ?_
  refine .n ((cE (h := ntop_spec hs)).same (fun _ _ => OLe.refl _) (fun _ _ => VLe.refl _)) rfl fun _ _ => ?_
  refine Z14 ?_
  refine Cd (fun c0 => ?_) fun c0 => ?_
  · exact absurd trivial c0
  refine Z8 ?_
  refine .s (opStoreW (enc := encSpan3) (i := 1) (r := 2) ((bi : Int), el, (j : Int)) rfl FC.out (.t rfl) (.t rfl) rfl hs rfl rfl) ?_
  refine Z2 ?_
  refine .own (hs' := nsH nb l ⟨some (pb, pc), go, sp.set p ((bi : Int), el, (j : Int)), o ++ [p], cl, dp⟩) (OLe.of_eq (by simp)) ?_
  refine .drawK 12 3 FM.out (by kernel_rfl) (k := ?_)
  refine Z10 ?_
  refine .p (opSubF (.t rfl) (.c _) (fits_i64 (by simp only [List.length_append, List.length_cons, List.length_nil] at *; omega) (by simp only [List.length_append, List.length_cons, List.length_nil] at *; omega))) ?_
  refine .p (opSliceOwn (i := 2) (h := o.length) FU.out FC.out rfl (.t rfl) (.t rfl) (by simp) rfl rfl (by simp)) ?_
  refine Z5 ?_
  refine .own (OLe.cons _ (OLe.cons _ (OLe.cutS o (pre_app _ _)))) ?_
  refine Post.retR0 rfl (⟨some (pb, pc), go, sp.set p ((bi : Int), el, (j : Int)), o, cl, dp⟩) (by exact .inl ⟨rfl, by (show (sp.set p _).length ≤ sp.length + 1; rw [List.length_set]; omega), by (show o.length ≤ 64; simp only [List.length_append, List.length_cons, List.length_nil] at hp1; omega), rs2, hp0.pop _, fun r => by (show nrunC False (rs2 ++ [(cb, ce)]) (11 :: r) ↔ nrunC cl rs2 r; rw [nrunC_end, show (cl = False) from eq_false hp3])⟩) (fun _ _ _ h => h) rfl
 refine Z2 ?_
 refine .n ((cE (h := ntopN_spec)).same (fun _ _ => OLe.refl _) (fun _ _ => VLe.refl _)) rfl fun _ _ => ?_
 refine Z14 ?_
 refine Cd (fun c0 => ?_) fun c0 => ?_
 ·
  refine Z10 ?_
  refine Post.retV rfl (⟨gp, go, sp, [], True, dp⟩) (by exact .inl ⟨rfl, Nat.le_succ _, by simp, [], NestR.nil _ _, fun r => nrunC_end_last⟩) (fun _ _ _ h => h) rfl
 exact absurd (fun h => h) c0
theorem nstep_spec (hp0 : NestR l z.sp z.op rs) (hp1 : z.op.length ≤ 64) (hp2 : z.sp.length ≤ 50000) (hp3 : l[j]? = some x) : FnE Tryz.prog 222 [addrV nb 0, intV .i64 ((j : Int))] (nsH nb l z) (γ := Int × NsT) (fun g => nsP l z.cl rs x.Code (z.sp.length + 1) g.1 g.2) (fun g => nsH nb l g.2) (fun g => intV .i64 g.1) := by
 refine In 48 Tryz.func222 fun _ _ _ => ?_
 refine Z16 ?_
 refine Cd (fun c0 => ?_) fun c0 => ?_
 ·
  refine Z8 ?_
  refine Post.retR1 rfl ((4, z)) (by exact .inr ⟨by show (4 : Int) ≠ 0; decide, fun r => by rw [show z.cl = True from eq_true c0]; exact nrunC_closed⟩) (fun _ _ _ h => h) (.rt rfl) ?_
  exact VLe.refl _
 have hclf : z.cl = False := eq_false c0
 refine Z7 ?_
 refine .p (cI j (h := hp3)) rfl ?_
 refine Z1 ?_
 refine .p (cA (h := copens_spec)) rfl ?_
 refine Z3 ?_
 refine Cd (fun c1 => ?_) fun c1 => ?_
 ·
  refine Z4 ?_
  refine .n (cE (h := nbegin_spec hp1 hp2)) rfl fun g21 h21 => ?_
  refine Z6 ?_
  refine Post.retR1 rfl (g21) (by exact (by rw [hclf]; rcases h21 with ⟨h1, h2⟩ | ⟨h1, h2, h3, h4, h5⟩; exact .inr ⟨h2, fun r => nrunC_deep c1 (hp0.len ▸ h1)⟩; exact .inl ⟨h2, by (rw [h3]; simp), by (rw [h4]; simp; omega), rs ++ [(x.Code, false)], by (rw [h3, h4]; exact hp0.begin hp3), fun r => by (rw [h5, hclf]; exact nrunC_open c1 (hp0.len ▸ h1) (hp0.len ▸ hp1))⟩)) (fun _ _ _ h => h) (.rt rfl) ?_
  exact VLe.refl _
 refine Z7 ?_
 refine .p (cI j (h := hp3)) rfl ?_
 refine Z6 ?_
 refine Cd (fun c2 => ?_) fun c2 => ?_
 ·
  refine Z4 ?_
  refine .n (cE (h := nother_spec hp0 hp1 hp2 c0)) rfl fun g34 h34 => ?_
  refine Z6 ?_
  refine Post.retR1 rfl (g34) (by exact (by rw [hclf, c2]; exact h34)) (fun _ _ _ h => h) (.rt rfl) ?_
  exact VLe.refl _
 refine Z7 ?_
 refine .p (cI j (h := hp3)) rfl ?_
 refine Z6 ?_
 refine Cd (fun c3 => ?_) fun c3 => ?_
 ·
  refine Z3 ?_
  refine .n (cE (h := nend_spec hp0 hp1 hp2 c0)) rfl fun g47 h47 => ?_
  refine Z9 ?_
  refine Post.retR1 rfl ((0, g47)) (by exact (by rw [hclf, c3]; exact h47)) (fun _ _ _ h => h) (.rt rfl) ?_
  exact VLe.refl _
 refine Z9 ?_
 refine Post.retR1 rfl ((0, z)) (by exact (by rw [hclf]; exact .inl ⟨rfl, Nat.le_succ _, hp1, rs, hp0, fun r => by rw [hclf]; exact nrunC_plain c1 c2 c3⟩)) (fun _ _ _ h => h) (.rt rfl) ?_
 exact VLe.refl _
theorem nwalk_spec (hp0 : l.length ≤ 50000) (hp1 : NestR l z.sp z.op []) (hp2 : z.op = []) (hp3 : z.sp = []) (hp4 : ¬ z.cl) : FnE Tryz.prog 203 [addrV nb 0] (nsH nb l z) (γ := Int × Int × NsT) (fun g => g.2.1 = 0 ↔ nrun (l.map (·.Code)) []) (fun g => nsH nb l g.2.2) (fun g => tupV [intV .i64 g.1, intV .i64 g.2.1]) := by
 refine In 32 Tryz.func203 fun _ _ _ => ?_
 refine Z18 ?_
 refine .loopO (σ := Nat × NsT) (fun g => nsH nb l g.2) (fun g => [(11, intV .i64 (g.1 : Int))]) (fun g => g.1 ≤ l.length ∧ g.2.op.length ≤ 64 ∧ g.2.sp.length ≤ g.1 ∧ ∃ rs, NestR l g.2.sp g.2.op rs ∧ (nrun (l.map (·.Code)) [] ↔ nrunC g.2.cl rs ((l.drop g.1).map (·.Code)))) (fun g => l.length - g.1) (0, z) ⟨Nat.zero_le _, by rw [hp2]; simp, by rw [hp3]; simp, [], hp1, by rw [eq_false hp4]; simp [nrunC]⟩ rfl ?_ ?_
 · exact (.get rfl (VLe.refl _) (.refl _ _))
 rintro ⟨i, y⟩ ⟨hi, ho, hsp, rs, hr, hn⟩
 simp only at hi ho hsp hr hn ⊢
 refine Z6 ?_
 refine Cd (fun c0 => ?_) fun c0 => ?_
 ·
  obtain ⟨x, hx⟩ := getElem?_lt (xs := l) (k := i) (by omega)
  have hdr : (l.drop i).map (·.Code) = x.Code :: (l.drop (i + 1)).map (·.Code) := by rw [List.drop_eq_getElem_cons (by omega), List.map_cons]; rw [show l[i] = x from by rw [List.getElem?_eq_getElem (by omega)] at hx; exact Option.some.inj hx]
  refine Z14 ?_
  refine .n (cE (h := nstep_spec hr ho (by omega) hx)) rfl fun g16 h16 => ?_
  refine Z9 ?_
  refine Cd (fun c1 => ?_) fun c1 => ?_
  ·
   refine Z14 ?_
   refine Post.retR rfl rfl ((i, g16)) (by exact (by rcases h16 with ⟨h1, _⟩ | ⟨h1, h2⟩; exact absurd h1 c1; exact ⟨fun h => absurd h h1, fun h => absurd (hdr ▸ hn.1 h) (h2 _)⟩)) (fun _ _ _ h => h) rfl (.cons (.rt rfl) ?_ (.cons (.rt rfl) ?_ .nil))
   · exact VLe.refl _
   exact VLe.refl _
  refine Z7 ?_
  refine .round (i + 1, g16.2) (by rcases h16 with ⟨h1, h5, h2, rs2, h3, h4⟩ | ⟨h1, _⟩; exact ⟨by show i + 1 ≤ _; omega, h2, by show g16.2.sp.length ≤ i + 1; omega, rs2, h3, hn.trans (by rw [hdr]; exact h4 _)⟩; exact absurd h1 (fun h => c1 h)) (by show l.length - (i + 1) < l.length - i; omega) rfl ?_
  exact (.get rfl (VLe.int (by show (_ : Int) = ((i + 1 : Nat) : Int); omega)) ((.keep 12 rfl rfl)))
 have hil : l.drop i = [] := List.drop_eq_nil_of_le (by omega)
 rw [hil] at hn
 simp only [List.map_nil] at hn
 rw [nrunC_nil] at hn
 refine Z15 ?_
 refine Cd (fun c2 => ?_) fun c2 => ?_
 ·
  refine Z13 ?_
  refine Post.retR rfl rfl (((l.length : Int), 4, y)) (by exact ⟨fun h => by simp at h, fun h => absurd (hn.1 h) c2⟩) (fun _ _ _ h => h) rfl (.cons (.rt rfl) ?_ (.cons (.rt rfl) ?_ .nil))
  · exact VLe.refl _
  exact VLe.refl _
 refine Z9 ?_
 refine Post.retR rfl rfl ((0, 0, y)) (by exact ⟨fun _ => hn.2 (Classical.not_not.1 c2), fun _ => rfl⟩) (fun _ _ _ h => h) rfl (.cons (.rt rfl) ?_ (.cons (.rt rfl) ?_ .nil))
 · exact VLe.refl _
 exact VLe.refl _
theorem cspans_spec (hp0 : l.length ≤ 50000) : FnE Tryz.prog 188 [sliceV 5 encInstr l] [] (γ := Int) (fun e => e = 0 ↔ nrun (l.map (·.Code)) []) (fun _ => []) (fun e => tupV [anyV, anyV, intV .i64 e]) := by
 refine In 24 Tryz.func188 fun _ _ _ => ?_
 refine Z11 ?_
 refine .n (opBoxOA (.t rfl)) rfl fun b10 _ => ?_
 refine Z5 ?_
 refine .own (hs' := nsH b10 l ⟨none, none, [], [], False, 0⟩) (OLe.trans (OLe.cellsY (cs' := [sliceV 5 encInstr l, exactV (.slice none 0 0), exactV (.slice none 0 0), propV False, intV .i64 0]) (.cons (.refl _) (.cons (.refl _) (.cons (.refl _) (.cons falseV (.cons (.refl _) .nil)))))) (OLe.cons _ nil_two)) ?_
 refine Z2 ?_
 refine .n (cE (h := nwalk_spec (z := ⟨none, none, [], [], False, 0⟩) hp0 (NestR.nil _ _) rfl rfl (fun h => h))) rfl fun g13 h13 => ?_
 refine Z13 ?_
 refine Cd (fun c0 => ?_) fun c0 => ?_
 ·
  refine Z11 ?_
  refine Post.retR rfl rfl (g13.2.1) (by exact h13) (OLe.sel [] [0, 1, 2] rfl rfl) rfl (.cons (.rt rfl) ?_ (.cons (.rt rfl) ?_ (.cons (.rt rfl) ?_ .nil)))
  · exact VLe.any
  · exact VLe.any
  exact VLe.refl _
 refine Z14 ?_
 refine Post.retR rfl rfl (g13.2.1) (by exact h13) (OLe.sel [] [0, 1, 2] rfl rfl) rfl (.cons (.rt rfl) ?_ (.cons (.rt rfl) ?_ (.cons (.rt rfl) ?_ .nil)))
 · exact VLe.any
 · exact VLe.any
 exact VLe.int (by omega)
theorem cruns_spec {l : List UInt8} (hp0 : l.length ≤ 60000) : FnP Tryz.prog 189 [sliceV 1 encU8 l] (sliceV 2 encRun (l.foldl runStep [])) := by
 refine In 43 Tryz.func189 fun _ _ _ => ?_
 refine .ownNil 2 encRun ?_
 refine Z19 ?_
 refine .loopO (σ := Nat × SB × List (Nat × UInt8)) (fun z => [sliceH z.2.1 2 encRun z.2.2]) (fun z => [(3, exactV (sval z.2.1 z.2.2.length)), (9, intV .i64 (z.1 : Int))]) (fun z => z.1 ≤ l.length ∧ z.2.2 = (l.take z.1).foldl runStep []) (fun z => l.length - z.1) (0, none, []) ⟨Nat.zero_le _, rfl⟩ rfl ?_ ?_
 · exact (.get rfl (VLe.of_eq rfl) (.get rfl (VLe.refl _) (.refl _ _)))
 rintro ⟨k, g1, o⟩ ⟨hk, ho⟩
 simp only at hk ho ⊢
 refine Z6 ?_
 refine Cd (fun c0 => ?_) fun c0 => ?_
 ·
  obtain ⟨t, hx⟩ := getElem?_lt (xs := l) (k := k) (by omega)
  have hol := (runs_le (l.take k) [] 0 (by simp)).2
  rw [← ho] at hol
  simp only [List.length_nil, List.length_take] at hol
  have hoc := (runs_le (l.take k) [] 0 (by simp)).1
  rw [← ho] at hoc
  refine Z6 ?_
  refine .p (cI k (h := hx)) rfl ?_
  refine Z5 ?_
  rcases List.eq_nil_or_concat o with hoe | ⟨m, q, hoe⟩
  rotate_left
  obtain ⟨n, t2⟩ := q
  rw [List.concat_eq_append] at hoe
  subst hoe
  refine .sliceSome 0 rfl (by simp) fun ob oc hg => ?_
  subst hg
  have hnn := hoc (n, t2) (by simp)
  simp only [List.length_take] at hnn
  simp only [List.length_append, List.length_cons, List.length_nil] at hol
  rotate_left
  subst hoe
  rotate_left
  ·
   refine Z13 ?_
   refine .g (OpG.gT rfl rfl rfl rfl (fun hg => opSubF (.when (.t rfl) hg) (.c _) (fits_i64 (by simp <;> omega) (by simp <;> omega)))) rfl rfl ?_
   refine .g (OpG.gT rfl rfl rfl rfl (fun hg => opIndexAddrW m.length FU.out FC.out rfl (.when (.t rfl) hg) (.when (.t rfl) hg) (by simp) (by simp))) rfl rfl ?_
   refine Z1 ?_
   refine .g (OpG.gT rfl rfl rfl rfl (fun hg => opLoadW (i := 0) (r := 1) FA.out (.when (.t rfl) hg) rfl (get_snoc m (n, t2)) rfl)) rfl rfl ?_
   refine Z5 ?_
   refine Cd (fun c1 => ?_) fun c1 => ?_
   ·
    refine Z3 ?_
    refine .p (opSubF (.t rfl) (.c _) (fits_i64 (by simp <;> omega) (by simp <;> omega))) rfl ?_
    refine .p (opIndexAddrW m.length FU.out FC.out rfl (.t rfl) (.t rfl) (by simp) (by simp)) rfl ?_
    refine Z1 ?_
    refine .p (opLoadW (i := 0) (r := 0) FA.out (.t rfl) rfl (get_snoc m (n, t2)) rfl) rfl ?_
    refine Z1 ?_
    refine .p (opIndexAddrW m.length FU.out FC.out rfl (.t rfl) (.t rfl) (by simp) (by simp)) rfl ?_
    refine Z1 ?_
    refine .s (opStoreW (enc := encRun) (i := 0) (r := 0) (n + 1, t2) rfl FC.out (.t rfl) (.t rfl) rfl (get_snoc m (n, t2)) rfl rfl) ?_
    refine Z1 ?_
    rw [set_snoc]
    rw [show (m ++ [(n, t2)]).length = (m ++ [(n + 1, t2)]).length by simp]
    refine Z6 ?_
    refine .round (k + 1, some (ob, oc), m ++ [(n + 1, t2)]) ⟨by show k + 1 ≤ _; omega, by (show m ++ [(n + 1, t2)] = _; rw [foldl_take hx, ← ho, ← u8_eq.1 c1.2, runStep_same])⟩ (by show l.length - (k + 1) < l.length - k; omega) rfl ?_
    exact (.get rfl (VLe.refl _) (.get rfl (VLe.int (by show (_ : Int) = ((k + 1 : Nat) : Int); omega)) ((.keep 32 rfl rfl))))
   refine Z4 ?_
   refine .p (cB encRun [(1, t)]) rfl ?_
   refine .n (opAppend (i := 0) FU.out FU.out FC.out rfl FZ.out rfl FY.out (.t rfl) (.t rfl) rfl (by simp only [List.length_append, List.length_cons, List.length_nil]; omega) (by simp only [List.length_append, List.length_cons, List.length_nil]; omega)) rfl fun g40 _ => ?_
   refine Z8 ?_
   refine .round (k + 1, g40, (m ++ [(n, t2)]) ++ [(1, t)]) ⟨by show k + 1 ≤ _; omega, by (show (m ++ [(n, t2)]) ++ [(1, t)] = _; rw [foldl_take hx, ← ho, runStep_other _ _ (fun e => c1 ⟨by simp <;> omega, u8_eq.2 e⟩)])⟩ (by show l.length - (k + 1) < l.length - k; omega) rfl ?_
   exact (.get rfl (VLe.refl _) (.get rfl (VLe.int (by show (_ : Int) = ((k + 1 : Nat) : Int); omega)) ((.keep 29 rfl rfl))))
  refine Z11 ?_
  refine .g (OpG.gT rfl rfl rfl rfl (fun hg => opNo (q := anyV) (by simp at hg))) rfl rfl ?_
  refine .g (OpG.gT rfl rfl rfl rfl (fun hg => opNo (q := anyV) (by simp at hg))) rfl rfl ?_
  refine .g (OpG.gT rfl rfl rfl rfl (fun hg => opNo (q := anyV) (by simp at hg))) rfl rfl ?_
  refine .g (OpG.gT rfl rfl rfl rfl (fun hg => opNo (q := anyV) (by simp at hg))) rfl rfl ?_
  refine .g (OpG.gT rfl rfl rfl rfl (fun hg => opNo (q := anyV) (by simp at hg))) rfl rfl ?_
  refine .g (OpG.gT rfl rfl rfl rfl (fun hg => opNo (q := anyV) (by simp at hg))) rfl rfl ?_
  refine .g (OpG.gT rfl rfl rfl rfl (fun hg => opNo (q := anyV) (by simp at hg))) rfl rfl ?_
  refine .g (OpG.gT rfl rfl rfl rfl (fun hg => opNo (q := propV True) (by simp at hg))) rfl rfl ?_
  refine Z3 ?_
  refine Cd (fun c1 => ?_) fun c1 => ?_
  · exfalso; simp at c1
  refine Z4 ?_
  refine .p (cB encRun [(1, t)]) rfl ?_
  refine .n (opAppend (i := 0) FU.out FU.out FC.out rfl FZ.out rfl FY.out (.t rfl) (.t rfl) rfl (by simp only [List.length_append, List.length_cons, List.length_nil]; omega) (by simp only [List.length_append, List.length_cons, List.length_nil]; omega)) rfl fun g40 _ => ?_
  refine Z8 ?_
  refine .round (k + 1, g40, [] ++ [(1, t)]) ⟨by show k + 1 ≤ _; omega, by (show [] ++ [(1, t)] = _; rw [foldl_take hx, ← ho]; rfl)⟩ (by show l.length - (k + 1) < l.length - k; omega) rfl ?_
  exact (.get rfl (VLe.refl _) (.get rfl (VLe.int (by show (_ : Int) = ((k + 1 : Nat) : Int); omega)) ((.keep 29 rfl rfl))))
 have hkl : l.take k = l := List.take_of_length_le (by omega)
 rw [hkl] at ho
 refine Z6 ?_
 refine .shareS (t := 3) (i := 0) rfl rfl ?_
 refine Z6 ?_
 refine Rt1 ?_
 exact VLe.of_eq (by rw [ho])
theorem bright1_spec (hp0 : 0 ≤ x.A) (hp1 : 0 ≤ x.B) : FnP Tryz.prog 200 [aggV (encInstr x)] (propV (¬ rightI x)) := by
 refine In 6 Tryz.func200 fun _ _ _ => ?_
 refine Z9 ?_
 refine .p (cA (h := iright_spec hp0 hp1)) rfl ?_
 refine Z5 ?_
 refine Rt1 ?_
 exact VLe.refl _
theorem bright2_spec {t : UInt8} : FnP Tryz.prog 202 [intV .u8 (t.toNat : Int)] (propV (bitsI t = 0)) := by
 refine In 6 Tryz.func202 fun _ _ _ => ?_
 refine Z8 ?_
 refine .p (cA (h := bits_spec)) rfl ?_
 refine Z5 ?_
 refine Rt1 ?_
 exact VLe.refl _
theorem idxInstr_spec {p : InstrD → Prop} (hp0 : ∀ x ∈ l, 0 ≤ x.A ∧ 0 ≤ x.B) : FnP Tryz.prog 216 [sliceV 5 encInstr l, funV Tryz.prog (fun x : InstrD => 0 ≤ x.A ∧ 0 ≤ x.B) (fun x => [aggV (encInstr x)]) (fun x => propV (p x))] (intV .i64 (idxF p l)) := by
 refine In 19 Tryz.func216 fun _ _ _ => ?_
 refine .fact (t := 0) rfl (fun S w v h => sliceV_len h) fun hlen => ?_
 refine Z14 ?_
 refine .loopO (σ := Nat) (fun _ => []) (fun k => [(8, intV .i64 (k : Int))]) (fun k => k ≤ l.length ∧ NotB p l k) (fun k => l.length - k) 0 ⟨by omega, NotB.zero p l⟩ rfl ?_ ?_
 · exact (.get rfl (VLe.refl _) (.refl _ _))
 rintro k ⟨hk, hnot⟩
 refine Z6 ?_
 refine Cd (fun c0 => ?_) fun c0 => ?_
 ·
  obtain ⟨x, hx⟩ := getElem?_lt (xs := l) (k := k) (by omega)
  refine Z15 ?_
  refine .p (cI _) rfl ?_
  refine Z1 ?_
  refine .p (cV x (h := hp0 x (List.mem_of_getElem? hx))) rfl ?_
  refine Z2 ?_
  refine Cd (fun c1 => ?_) fun c1 => ?_
  ·
   refine Z12 ?_
   refine Rt1 ?_
   exact VLe.int (idxF_at hx (by assumption) hnot).symm
  refine Z7 ?_
  refine .round (k + 1) ⟨by omega, hnot.succ hx (by assumption)⟩ (by omega) rfl ?_
  exact (.get rfl (VLe.int (by omega)) (.keep 12 rfl rfl))
 refine Z11 ?_
 refine Rt1 ?_
 exact VLe.int (idxF_none (hnot.all (by omega))).symm
theorem conInstr_spec {p : InstrD → Prop} (hp0 : ∀ x ∈ l, 0 ≤ x.A ∧ 0 ≤ x.B) : FnP Tryz.prog 199 [sliceV 5 encInstr l, funV Tryz.prog (fun x : InstrD => 0 ≤ x.A ∧ 0 ≤ x.B) (fun x => [aggV (encInstr x)]) (fun x => propV (p x))] (propV (∃ x ∈ l, p x)) := by
 refine In 9 Tryz.func199 fun _ _ _ => ?_
 refine Z9 ?_
 refine .p (cA (h := idxInstr_spec (by first | assumption | omega))) rfl ?_
 refine Z5 ?_
 refine Rt1 ?_
 exact VLe.prop idxF_nonneg
theorem bodyRight_spec {b : BodyD} (hp0 : BdOk b) : FnP Tryz.prog 187 [aggV (encBody b)] (propV ((∀ x ∈ b.L, rightI x) ∧ (∀ t ∈ b.Locals, t = 126 ∨ t = 127) ∧ b.Locals.length ≤ 50)) := by
 refine In 23 Tryz.func187 fun _ _ _ => ?_
 refine Z10 ?_
 refine .p (opCall (conInstr_spec (l := b.L) (p := fun x => ¬ rightI x) (fun x hx => ⟨(hp0.ins x hx).A0, (hp0.ins x hx).B0⟩)) FB.out (.cons (.t rfl) (.cons (.le (.f _) (funV_of FB.out (fun (x : InstrD) (h : 0 ≤ x.A ∧ 0 ≤ x.B) => bright1_spec h.1 h.2))) .nil))) rfl ?_
 refine Z7 ?_
 refine .p (opCall (conType_spec (l := b.Locals) (p := fun t => bitsI t = 0)) FB.out (.cons (.t rfl) (.cons (.le (.f _) (funV_of FB.out (fun (b : UInt8) (_ : True) => bright2_spec (t := b)))) .nil))) rfl ?_
 refine Z21 ?_
 refine Rt1 ?_
 exact VLe.prop (by simp only [not_exists, not_and, Classical.not_not, bitsI_zero, and_assoc]; exact and_congr_right fun _ => and_congr_right fun _ => by omega)
theorem bencode_spec {b : BodyD} (hp0 : BdOk b) : FnE Tryz.prog 169 [aggV (encBody b)] [] (γ := Int) (fun e => e = 0 ↔ encBd b) (fun _ => []) (fun e => tupV [anyV, intV .i64 e]) := by
 refine In 71 Tryz.func169 fun _ _ _ => ?_
 refine Z11 ?_
 refine .p (cA (h := bodyRight_spec hp0)) rfl ?_
 refine Z3 ?_
 refine Cd (fun c0 => ?_) fun c0 => ?_
 ·
  have hno : ¬ encBd b := fun h => c0 ⟨h.1, h.2.1, h.2.2.1⟩
  refine Z8 ?_
  refine Post.retR rfl rfl (1) (by exact ⟨fun h => by simp at h, fun h => absurd h hno⟩) (fun _ _ _ h => h) rfl (.cons (.rt rfl) ?_ (.cons (.rt rfl) ?_ .nil))
  · exact VLe.any
  exact VLe.refl _
 obtain ⟨hri, htl, hlo⟩ := Classical.not_not.1 c0
 refine Z7 ?_
 refine .n (cE (h := cspans_spec (by have := hp0.len; omega))) rfl fun g21 h21 => ?_
 refine Z15 ?_
 refine Cd (fun c1 => ?_) fun c1 => ?_
 ·
  refine Z9 ?_
  refine Post.retR rfl rfl (g21) (by exact ⟨fun h => absurd h c1, fun h => h21.2 h.2.2.2.1⟩) (fun _ _ _ h => h) rfl (.cons (.rt rfl) ?_ (.cons (.rt rfl) ?_ .nil))
  · exact VLe.any
  exact VLe.refl _
 have hnr := h21.1 (Classical.not_not.1 c1)
 obtain ⟨hrc, hrl⟩ := runs_le b.Locals [] 0 (by simp)
 simp only [List.length_nil, Nat.zero_add] at hrc hrl
 have hl10 : lenU (b.Locals.foldl runStep []).length ≤ 10 := lenU_64 (by omega)
 refine Z6 ?_
 refine .p (cA (h := cruns_spec hp0.loc)) rfl ?_
 refine Z4 ?_
 refine .ownNil 1 encU8 ?_
 refine Z4 ?_
 refine .n (cE (h := lput_spec (g := none) (xs := []) (n := (b.Locals.foldl runStep []).length) (by omega) (by simp))) rfl fun g34 h34 => ?_
 refine Z12 ?_
 refine .loopO (σ := Nat × SB × List UInt8) (fun z => [sliceH z.2.1 1 encU8 z.2.2]) (fun z => [(8, exactV (sval z.2.1 z.2.2.length)), (37, intV .i64 (z.1 : Int))]) (fun z => z.1 ≤ (b.Locals.foldl runStep []).length ∧ z.2.2.length = lenU (b.Locals.foldl runStep []).length + sumR ((b.Locals.foldl runStep []).take z.1)) (fun z => (b.Locals.foldl runStep []).length - z.1) (0, g34.1, g34.2) ⟨Nat.zero_le _, by (show g34.2.length = _; rw [h34]; simp [sumR])⟩ rfl ?_ ?_
 · exact (.get rfl (VLe.refl _) (.get rfl (VLe.refl _) (.refl _ _)))
 rintro ⟨k, g1, ys⟩ ⟨hk, hys⟩
 simp only at hk hys ⊢
 have hsr := sumR_le ((b.Locals.foldl runStep []).take k) (fun p hp => by have := hrc p (List.mem_of_mem_take hp); omega)
 rw [List.length_take] at hsr
 refine Z6 ?_
 refine Cd (fun c2 => ?_) fun c2 => ?_
 ·
  obtain ⟨r, hr⟩ := getElem?_lt (xs := (b.Locals.foldl runStep [])) (k := k) (by omega)
  have hrn := hrc r (List.mem_of_getElem? hr)
  have hr10 : lenU r.1 ≤ 10 := lenU_64 (by omega)
  refine Z6 ?_
  refine .p (cI k (h := hr)) rfl ?_
  refine Z1 ?_
  refine .n (opAlloc FZ.out) rfl fun b10 _ => ?_
  refine Z3 ?_
  refine .share (t := 10) (i := 0) rfl rfl ?_
  refine .stagedK [(0, 0), (1, 0), (2, 0), (3, 0), (5, 0), (6, 0), (7, 0), (4, 2)] 8 2 FM.out (by kernel_rfl) (k := ?_)
  refine Z6 ?_
  refine .p rfl (fun _ => opBuildSlice (enc := encU8) [r.2] FU.out FC.out rfl FZ.out rfl (.cons (.t rfl) .nil) rfl rfl rfl rfl rfl) ?_
  refine .e rfl (cE (h := lput_spec (n := r.1) (by omega) (by omega))) fun g45 h45 => ?_
  refine .fin ?_
  refine .n (opAppend (i := 0) FU.out FU.out FC.out rfl FZ.out rfl FY.out (.t rfl) (.t rfl) rfl (by simp only [List.length_cons, List.length_nil]; omega) (by simp only [List.length_cons, List.length_nil]; omega)) rfl fun g49 _ => ?_
  refine Z8 ?_
  refine .round (k + 1, g49, g45.2 ++ [r.2]) ⟨by show k + 1 ≤ _; omega, by (show (g45.2 ++ [r.2]).length = _; rw [List.length_append, h45, hys, ← take_snoc hr, sumR_snoc]; simp only [List.length_cons, List.length_nil]; omega)⟩ (by show (b.Locals.foldl runStep []).length - (k + 1) < (b.Locals.foldl runStep []).length - k; omega) rfl ?_
  exact (.get rfl (VLe.refl _) (.get rfl (VLe.int (by show (_ : Int) = ((k + 1 : Nat) : Int); omega)) ((.keep 19 rfl rfl))))
 have hkr : (b.Locals.foldl runStep []).take k = (b.Locals.foldl runStep []) := List.take_of_length_le (by omega)
 rw [hkr] at hys
 refine Z15 ?_
 refine .loopO (σ := Nat × SB × List UInt8) (fun z => [sliceH z.2.1 1 encU8 z.2.2]) (fun z => [(8, exactV (sval z.2.1 z.2.2.length)), (54, intV .i64 (z.1 : Int))]) (fun z => z.1 ≤ b.L.length ∧ z.2.2.length = lenU (b.Locals.foldl runStep []).length + sumR (b.Locals.foldl runStep []) + sumI (b.L.take z.1)) (fun z => b.L.length - z.1) (0, g1, ys) ⟨Nat.zero_le _, by (show ys.length = _; rw [hys]; simp [sumI])⟩ rfl ?_ ?_
 · exact (.get rfl (VLe.refl _) (.get rfl (VLe.refl _) (.refl _ _)))
 rintro ⟨i, g2, ws⟩ ⟨hi, hzs⟩
 simp only at hi hzs ⊢
 have hsi := sumI_le (b.L.take i) (fun x hx => ⟨.of (hp0.ins x (List.mem_of_mem_take hx)) (hri x (List.mem_of_mem_take hx)), hri x (List.mem_of_mem_take hx)⟩)
 rw [List.length_take] at hsi
 have hsr2 := sumR_le (b.Locals.foldl runStep []) (fun p hp => by have := hrc p hp; omega)
 have hbl := hp0.len
 refine Z6 ?_
 refine Cd (fun c3 => ?_) fun c3 => ?_
 ·
  obtain ⟨x, hx⟩ := getElem?_lt (xs := b.L) (k := i) (by omega)
  have hxl := lenI_le (.of (hp0.ins x (List.mem_of_getElem? hx)) (hri x (List.mem_of_getElem? hx))) (hri x (List.mem_of_getElem? hx))
  refine Z6 ?_
  refine .p (cI i (h := hx)) rfl ?_
  refine Z1 ?_
  refine .n (opAlloc FZ.out) rfl fun b12 _ => ?_
  refine Z3 ?_
  refine .share (t := 12) (i := 0) rfl rfl ?_
  refine Z3 ?_
  refine .n (cE (h := iencode_spec (.of (hp0.ins x (List.mem_of_getElem? hx)) (hri x (List.mem_of_getElem? hx))) (hri x (List.mem_of_getElem? hx)))) rfl fun g60 h60 => ?_
  refine Z10 ?_
  refine .n (opAppend (i := 0) (xs := ws) (ys := g60) FU.out FU.out FC.out rfl FZ.out rfl FY.out (.t rfl) (.t rfl) rfl (by omega) (by omega)) rfl fun g65 _ => ?_
  refine Z8 ?_
  refine .round (i + 1, g65, ws ++ g60) ⟨by show i + 1 ≤ _; omega, by (show (ws ++ g60).length = _; rw [List.length_append, h60, hzs, ← take_snoc hx, sumI_snoc]; omega)⟩ (by show b.L.length - (i + 1) < b.L.length - i; omega) rfl ?_
  exact (.get rfl (VLe.refl _) (.get rfl (VLe.int (by show (_ : Int) = ((i + 1 : Nat) : Int); omega)) ((.keep 20 rfl rfl))))
 have hil : b.L.take i = b.L := List.take_of_length_le (by omega)
 rw [hil] at hzs
 have htot : ws.length = lenB b := by rw [hzs, lenB_eq]
 refine Z9 ?_
 refine .p (opLenOw (xs := ws) (i := 0) rfl Tryz.underlying50 (.t rfl) rfl rfl) rfl ?_
 refine Z3 ?_
 refine Cd (fun c4 => ?_) fun c4 => ?_
 ·
  refine Z8 ?_
  refine Post.retR rfl rfl (15) (by exact ⟨fun h => by simp at h, fun h => by have := h.2.2.2.2; omega⟩) (OLe.sel [] [0] rfl rfl) rfl (.cons (.rt rfl) ?_ (.cons (.rt rfl) ?_ .nil))
  · exact VLe.any
  exact VLe.refl _
 refine Z10 ?_
 refine Post.retR rfl rfl (0) (by exact ⟨fun _ => ⟨hri, htl, hlo, hnr, by omega⟩, fun _ => rfl⟩) (OLe.sel [] [0] rfl rfl) rfl (.cons (.rt rfl) ?_ (.cons (.rt rfl) ?_ .nil))
 · exact VLe.any
 exact VLe.refl _
end Go.Proofs.YtpahnbgfmhcndaaGreatDoor
end
section
namespace Go.Proofs.YtpahnbgfmhcndaaGreatDoor
open Go.Hl
theorem fit_iff {m : ModD} : (fitP m).2 = 0 ↔ FitsM m := by
 rw [fit_zero]
 constructor
 · intro h
   simp only [partsM, List.mem_cons, List.not_mem_nil, or_false] at h
   exact ⟨h _ (.inl rfl), h _ (.inr (.inl rfl)), h _ (.inr (.inr (.inl rfl))), h _ (.inr (.inr (.inr (.inl rfl)))), h _ (.inr (.inr (.inr (.inr (.inl rfl))))), h _ (.inr (.inr (.inr (.inr (.inr (.inl rfl)))))), h _ (.inr (.inr (.inr (.inr (.inr (.inr (.inl rfl))))))), h _ (.inr (.inr (.inr (.inr (.inr (.inr (.inr (.inl rfl)))))))), h _ (.inr (.inr (.inr (.inr (.inr (.inr (.inr (.inr (.inl rfl))))))))), h _ (.inr (.inr (.inr (.inr (.inr (.inr (.inr (.inr (.inr rfl))))))))) ⟩
 · intro h p hp
   simp only [partsM, List.mem_cons, List.not_mem_nil, or_false] at hp
   rcases hp with rfl | rfl | rfl | rfl | rfl | rfl | rfl | rfl | rfl | rfl
   · exact h.sigs
   · exact h.imports
   · exact h.funcs
   · exact h.table
   · exact h.mems
   · exact h.globals
   · exact h.exports
   · exact h.start
   · exact h.elems
   · exact h.datas
theorem fit_of_fits {m : ModD} (h : FitsM m) : (fitP m).2 = 0 := fit_iff.2 h
end Go.Proofs.YtpahnbgfmhcndaaGreatDoor
end
section
namespace Go.Proofs.YtpahnbgfmhcndaaGreatDoor
open Go.Hl Go.RowKit
variable {m : ModD} {f : FuncD} {i : Nat}
theorem klocals_spec (hp0 : FitsM m) (hp1 : ModOk m) (hp2 : m.Funcs[i]? = some f) : FnP Tryz.prog 168 [ptrV (encMod m), intV .i64 ((i : Int))] (tupV [sliceV 1 encU8 ((envD m f).Locals), propV True]) := by
 refine In 49 Tryz.func168 fun _ _ _ => ?_
 have hfm : f ∈ m.Funcs := List.mem_of_getElem? hp2
 have hil := (List.getElem?_eq_some_iff.1 hp2).1
 have hlens := hp0.lens
 have hcn : (m.Imports.length : Int) + (m.Funcs.length : Int) ≤ 100 := hlens.2.2.2.2
 have hsm := (sigAt_mem (func_sig hp0 hfm)).2
 have hP := (hp0.few _ hsm).1
 have hlo := hp1.loc f hfm
 refine Z26 ?_
 refine Cd (fun c0 => ?_) fun c0 => ?_
 · exfalso; rcases c0 with (h | h) | h; exact h; omega; omega
 refine Z12 ?_
 refine .p ((cA (h := msig_spec (m := m) (f := (m.Imports.length : Int) + (i : Int)))).le (VLe.of_eq (show tupV [aggV (encSig ((sigO m ((m.Imports.length : Int) + (i : Int))).getD ⟨[], []⟩)), propV (sigO m ((m.Imports.length : Int) + (i : Int))).isSome] = tupV [aggV (encSig (sigAt m f.Sig)), propV ((some (sigAt m f.Sig)).isSome = true)] by rw [func_sigO hp0 hp2]; rfl))) rfl ?_
 refine Z3 ?_
 refine .n (opAlloc FZ.out) rfl fun b6 _ => ?_
 refine Z4 ?_
 refine .share (t := 6) (i := 0) rfl rfl ?_
 refine Z1 ?_
 refine .drawK 15 1 FM.out (by kernel_rfl) (k := ?_)
 refine Z7 ?_
 refine .p (cI i (h := hp2)) ?_
 refine Z3 ?_
 refine .p (cB encSlT [(sigAt m f.Sig).P, f.Body.Locals]) ?_
 refine .p (cA (h := concatT_spec (ls := [(sigAt m f.Sig).P, f.Body.Locals]) (by simp; omega))) ?_
 refine Z7 ?_
 refine Rt2 ?_ ?_
 · exact VLe.of_eq (by simp [envD])
 exact VLe.prop (by simp)
theorem krun_spec (hp0 : FitsM m) (hp1 : ModOk m) (hp2 : m.Funcs[i]? = some f) : FnE Tryz.prog 124 [ptrV (encMod m), intV .i64 ((i : Int))] [] (γ := Int × Int × List Nat × SB) (fun g => (g.2.1 = 0 ∧ encBd f.Body ∧ heightsF m f = some g.2.2.1) ∨ (g.2.1 ≠ 0 ∧ ¬ typedF m f ∧ g.2.2.1 = [])) (fun g => [sliceH g.2.2.2 1 encNt g.2.2.1]) (fun g => tupV [exactV (sval g.2.2.2 g.2.2.1.length), intV .i64 g.1, intV .i64 g.2.1]) := by
 refine In 99 Tryz.func124 fun _ _ _ => ?_
 have hfm : f ∈ m.Funcs := List.mem_of_getElem? hp2
 have hil := (List.getElem?_eq_some_iff.1 hp2).1
 have hlens := hp0.lens
 have hcn : (m.Imports.length : Int) + (m.Funcs.length : Int) ≤ 100 := hlens.2.2.2.2
 have hsm := (sigAt_mem (func_sig hp0 hfm)).2
 have hll := hp1.len f hfm
 have hfit : (fitP m).2 = 0 := fit_of_fits hp0
 refine Z11 ?_
 refine .p (cA (h := fit_spec (m := m))) rfl ?_
 refine Z2 ?_
 refine .p ((opExtract (.t rfl) rfl).le (VLe.int hfit)) rfl ?_
 refine Z10 ?_
 refine Cd (fun c0 => ?_) fun c0 => ?_
 · exact absurd rfl c0
 refine Z6 ?_
 refine .p (cA (h := klocals_spec hp0 hp1 hp2)) rfl ?_
 refine Z14 ?_
 refine Cd (fun c1 => ?_) fun c1 => ?_
 · exact absurd trivial c1
 refine Z9 ?_
 refine .p (cI i (h := hp2)) rfl ?_
 refine Z2 ?_
 refine .n (opAlloc FZ.out) rfl fun b11 _ => ?_
 refine Z3 ?_
 refine .share (t := 11) (i := 0) rfl rfl ?_
 refine Z4 ?_
 refine .n (cE (h := bencode_spec (hp1.bd hfm))) rfl fun g46 h46 => ?_
 refine Z13 ?_
 refine Cd (fun c2 => ?_) fun c2 => ?_
 ·
  have hno : ¬ typedF m f := fun h => c2 (h46.2 h.1)
  refine Z10 ?_
  refine Post.retR rfl rfl ((0, g46, [], none)) (by exact .inr ⟨c2, hno, rfl⟩) (fun F S w h => ⟨fun _ => False, F, fun _ h => h.elim, fun _ h => h, rfl, trivial⟩) rfl (.cons (.rt rfl) ?_ (.cons (.rt rfl) ?_ (.cons (.rt rfl) ?_ .nil)))
  · exact VLe.of_eq rfl
  · exact VLe.refl _
  exact VLe.refl _
 have henc := h46.1 (Classical.not_not.1 c2)
 have hck : CkOk m f := ⟨hp0, by (show ((sigAt m f.Sig).P ++ f.Body.Locals).length ≤ 60000; rw [List.length_append]; have h1 := (hp0.few _ hsm).1; have h2 := henc.2.2.1; omega), hsm⟩
 refine Z12 ?_
 refine .p ((cA (h := msig_spec (m := m) (f := (m.Imports.length : Int) + (i : Int)))).le (VLe.of_eq (show tupV [aggV (encSig ((sigO m ((m.Imports.length : Int) + (i : Int))).getD ⟨[], []⟩)), propV (sigO m ((m.Imports.length : Int) + (i : Int))).isSome] = tupV [aggV (encSig (sigAt m f.Sig)), propV ((some (sigAt m f.Sig)).isSome = true)] by rw [func_sigO hp0 hp2]; rfl))) rfl ?_
 refine Z3 ?_
 refine .n (opAlloc FZ.out) rfl fun b14 _ => ?_
 refine Z4 ?_
 refine .share (t := 14) (i := 0) rfl rfl ?_
 refine Z8 ?_
 refine .p ((opBuild FP.out FZ.out (.cons (.t rfl) .nil) rfl).le ((show VLe _ (aggV (encBkD (bkF 0 ⟨False, False, (sigAt m f.Sig).R, ([], False)⟩ ([], False)))) from VLe.agg (.cons falseV (.cons falseV (.cons (.refl _) (.cons (.refl _) (.cons falseV .nil)))))))) rfl ?_
 refine .n (opBuildSliceO encBkD [bkF 0 ⟨False, False, (sigAt m f.Sig).R, ([], False)⟩ ([], False)] FU.out FC.out rfl FZ.out rfl (.cons (.t rfl) .nil) rfl rfl rfl rfl rfl) rfl fun g71 _ => ?_
 refine .p (OpP.le (opBuild FP.out FZ.out (.cons (.t rfl) (.cons (.t rfl) .nil)) rfl) (VLe.refl (aggV [ptrV (encMod m), sliceV 1 encU8 (envD m f).Locals, sliceV 1 encU8 (sigAt m f.Sig).P, sliceV 1 encU8 (sigAt m f.Sig).R, exactV (sval none 0), exactV (sval g71 1)]))) rfl ?_
 refine .n (opBoxOA (.t rfl)) rfl fun b73 _ => ?_
 refine Z4 ?_
 refine .ownNil 1 encU8 ?_
 refine .ownNil 1 encNt ?_
 refine Z14 ?_
 refine .own (OLe.perm (Perm.idx [0, 2, 1, 3] rfl rfl)) ?_
 refine .loopO (σ := Nat × SB × List Nat × CkT) (fun g => sliceH g.2.1 1 encNt g.2.2.1 :: ckZ b73 m f g.2.2.2) (fun g => [(17, exactV (sval g.2.1 g.2.2.1.length)), (77, intV .i64 (g.1 : Int))]) (fun g => g.1 ≤ f.Body.L.length ∧ g.2.2.1.length ≤ g.1 ∧ ∃ fs, StOf fs g.2.2.2.2.2.1 g.2.2.2.2.2.2 ∧ RunP m f g.1 g.2.2.1 fs) (fun g => f.Body.L.length - g.1) (0, none, [], (none, g71, [], [bkF 0 ⟨False, False, (sigAt m f.Sig).R, ([], False)⟩ ([], False)])) ⟨Nat.zero_le _, Nat.le_refl _, _, ⟨rfl, fun _ => rfl⟩, RunP.init hp0 hsm henc.2.2.2.1⟩ rfl ?_ ?_
 · exact (.get rfl (VLe.of_eq rfl) (.get rfl (VLe.refl _) (.refl _ _)))
 rintro ⟨j, gh, hts, z⟩ ⟨hj, hhl, fs, hz, hR⟩
 simp only at hj hhl hz hR ⊢
 refine Z6 ?_
 refine Cd (fun c3 => ?_) fun c3 => ?_
 ·
  obtain ⟨x, hx⟩ := getElem?_lt (xs := f.Body.L) (k := j) (by omega)
  obtain ⟨fs, b, hfb⟩ := nestK_ne (drop_at hx ▸ hR.nest)
  subst hfb
  obtain ⟨zs, zb, zst, zB⟩ := z
  obtain ⟨hB, hst⟩ := hz
  simp only at hB hst
  have hst := hst (by simp)
  rw [bksF_snoc] at hB
  rw [stkF_snoc] at hst
  subst hB
  subst hst
  refine .sliceSome 3 rfl (by simp) fun bb bc hg => ?_
  simp only at hg
  subst hg
  refine Z7 ?_
  refine .p (cI j (h := hx)) rfl ?_
  refine Z1 ?_
  refine .n (opAlloc FZ.out) rfl fun b19 _ => ?_
  refine Z4 ?_
  refine .share (t := 19) (i := 0) rfl rfl ?_
  refine Z8 ?_
  refine .p (cB encNt [(stkF fs ++ b.st.1).length]) rfl ?_
  refine .n (opAppend (i := 0) FU.out FU.out FC.out rfl FZ.out rfl FY.out (.t rfl) (.t rfl) rfl (by simp only [List.length_cons, List.length_nil]; omega) (by simp only [List.length_cons, List.length_nil]; omega)) rfl fun g89 _ => ?_
  refine Z7 ?_
  refine .n (cEi [_] [1,2,3,0] (h := ksafe_spec (x := x) (by rw [← stkF_snoc, stkF_len]; have := hR.hgt; omega) hck (.of (hp1.ins f hfm x (List.mem_of_getElem? hx)) (henc.1 x (List.mem_of_getElem? hx))) (by have := hR.len; simp at this; omega) hR.few (henc.1 x (List.mem_of_getElem? hx)).1)) rfl fun g92 h92 => ?_
  refine Z9 ?_
  refine Cd (fun c4 => ?_) fun c4 => ?_
  ·
   refine Z15 ?_
   refine Post.retR rfl rfl (((j : Int), g92.2, [], none)) (by exact .inr ⟨c4, fun h => by (obtain ⟨hs, hh⟩ := h.2; obtain ⟨oz, e92⟩ := g92; cases oz with | some z2 => exact c4 h92.1 | none => (have h8 := hR.fails hx h92.2; rw [hh] at h8; cases h8)), rfl⟩) (fun F S w h => ⟨fun _ => False, F, fun _ h => h.elim, fun _ h => h, rfl, trivial⟩) rfl (.cons (.rt rfl) ?_ (.cons (.rt rfl) ?_ (.cons (.rt rfl) ?_ .nil)))
   · exact VLe.of_eq rfl
   · exact VLe.refl _
   exact VLe.refl _
  obtain ⟨oz, e92⟩ := g92
  obtain rfl | ⟨z2, rfl⟩ : oz = none ∨ ∃ z2, oz = some z2 := by cases oz with | none => exact .inl rfl | some z2 => exact .inr ⟨z2, rfl⟩
  exact absurd h92.1 c4
  obtain ⟨h92a, fs2, hs2, hz2⟩ := h92
  have hRn := hR.next hp0 hx hs2
  simp only [safeH]
  refine Z7 ?_
  refine .own (OLe.perm (Perm.idx [3, 0, 1, 2] rfl rfl)) (EndT.round (j + 1, g89, hts ++ [(stkF fs ++ b.st.1).length], z2) ⟨by show j + 1 ≤ _; omega, by (show (hts ++ [_]).length ≤ j + 1; rw [List.length_append]; simp only [List.length_cons, List.length_nil]; omega), fs2, hz2, by (show RunP m f (j + 1) (hts ++ [(stkF fs ++ b.st.1).length]) fs2; rw [← stkF_snoc, stkF_len]; exact hRn)⟩ (by show f.Body.L.length - (j + 1) < f.Body.L.length - j; omega) rfl ?_)
  exact (.get rfl (VLe.refl _) (.get rfl (VLe.int (by show (_ : Int) = ((j + 1 : Nat) : Int); omega)) ((.keep 26 rfl rfl))))
 have hdone := hR.done (by omega)
 refine Z14 ?_
 refine Post.retR rfl rfl ((0, 0, hts, gh)) (by exact .inl ⟨rfl, henc, hdone⟩) (OLe.sel [0] [1, 2, 3] rfl rfl) rfl (.cons (.rt rfl) ?_ (.cons (.rt rfl) ?_ (.cons (.rt rfl) ?_ .nil)))
 · exact VLe.refl _
 · exact VLe.refl _
 exact VLe.refl _
theorem kfunc_spec (hp0 : FitsM m) (hp1 : ModOk m) (hp2 : m.Funcs[i]? = some f) : FnE Tryz.prog 88 [ptrV (encMod m), intV .i64 ((i : Int))] [] (γ := Int × Int) (fun g => g.2 = 0 ↔ typedF m f) (fun _ => []) (fun g => tupV [intV .i64 g.1, intV .i64 g.2]) := by
 refine In 18 Tryz.func88 fun _ _ _ => ?_
 refine Z10 ?_
 refine .n (cE (h := krun_spec hp0 hp1 hp2)) rfl fun g12 h12 => ?_
 refine Z18 ?_
 refine Post.retR rfl rfl ((g12.1, g12.2.1)) (by exact (by rcases h12 with ⟨h1, h2, h3⟩ | ⟨h1, h2, h3⟩; exact ⟨fun _ => ⟨h2, _, h3⟩, fun _ => h1⟩; exact ⟨fun h => absurd h h1, fun h => absurd h h2⟩)) (OLe.sel [] [0] rfl rfl) rfl (.cons (.rt rfl) ?_ (.cons (.rt rfl) ?_ .nil))
 · exact VLe.refl _
 exact VLe.refl _
theorem vall_spec (hp0 : ModOk m) (hp1 : m.Funcs.length ≤ 60000) : FnE Tryz.prog 71 [ptrV (encMod m)] [] (γ := List (List UInt8 × Int × Int × Int)) (fun l => l = [] ↔ ValidD m) (fun _ => []) (fun l => sliceV 4 encFnd l) := by
 refine In 45 Tryz.func71 fun _ _ _ => ?_
 refine Z9 ?_
 refine .p (cA (h := fit_spec (m := m))) rfl ?_
 refine Z13 ?_
 refine Cd (fun c0 => ?_) fun c0 => ?_
 ·
  have hnv : ¬ ValidD m := fun h => c0 (fit_of_fits h.1)
  refine Z5 ?_
  refine .p (cB encFnd [((fitP m).1, -1, 0, (fitP m).2)]) rfl ?_
  refine Z5 ?_
  refine Post.retR1 rfl ([((fitP m).1, -1, 0, (fitP m).2)]) (by exact ⟨fun h => absurd h (by simp), fun h => absurd h hnv⟩) (fun _ _ _ h => h) (.rt rfl) ?_
  exact VLe.refl _
 have hfits : FitsM m := fit_iff.1 (Classical.not_not.1 c0)
 refine Z9 ?_
 refine .ownNil 4 encFnd ?_
 refine Z10 ?_
 refine .loopO (σ := Nat × SB × List (List UInt8 × Int × Int × Int)) (fun g => [sliceH g.2.1 4 encFnd g.2.2]) (fun g => [(5, exactV (sval g.2.1 g.2.2.length)), (25, intV .i64 (g.1 : Int))]) (fun g => g.1 ≤ m.Funcs.length ∧ g.2.2.length ≤ g.1 ∧ (g.2.2 = [] ↔ ∀ f ∈ m.Funcs.take g.1, typedF m f)) (fun g => m.Funcs.length - g.1) (0, none, []) ⟨Nat.zero_le _, Nat.le_refl _, by simp⟩ rfl ?_ ?_
 · exact (.get rfl (VLe.of_eq rfl) (.get rfl (VLe.refl _) (.refl _ _)))
 rintro ⟨j, gl, l⟩ ⟨hj, hll, hv⟩
 simp only at hj hll hv ⊢
 refine Z6 ?_
 refine Cd (fun c1 => ?_) fun c1 => ?_
 ·
  obtain ⟨f, hf⟩ := getElem?_lt (xs := m.Funcs) (k := j) (by omega)
  refine Z14 ?_
  refine .n (cE (h := kfunc_spec hfits hp0 hf)) rfl fun g31 h31 => ?_
  refine Z13 ?_
  refine Cd (fun c2 => ?_) fun c2 => ?_
  ·
   refine Z5 ?_
   refine .p (opBuild FP.out FZ.out (.cons (.s [102, 117, 110, 99] rfl rfl) (.cons (.t rfl) (.cons (.t rfl) (.cons (.t rfl) .nil)))) rfl) rfl ?_
   refine .p (cB encFnd [([102, 117, 110, 99], (j : Int), g31.1, g31.2)]) rfl ?_
   refine .n (opAppend (i := 0) FU.out FU.out FC.out rfl FZ.out rfl FY.out (.t rfl) (.t rfl) rfl (by simp only [List.length_cons, List.length_nil]; omega) (by simp only [List.length_cons, List.length_nil]; omega)) rfl fun g42 _ => ?_
   refine Z8 ?_
   refine .round (j + 1, g42, l ++ [([102, 117, 110, 99], (j : Int), g31.1, g31.2)]) ⟨by show j + 1 ≤ _; omega, by (show (l ++ [_]).length ≤ j + 1; rw [List.length_append]; simp only [List.length_cons, List.length_nil]; omega), ⟨fun h => absurd h (by simp), fun h => absurd (h31.2 (h f (by rw [← take_snoc hf]; simp))) c2⟩⟩ (by show m.Funcs.length - (j + 1) < m.Funcs.length - j; omega) rfl ?_
   exact (.get rfl (VLe.refl _) (.get rfl (VLe.int (by show (_ : Int) = ((j + 1 : Nat) : Int); omega)) ((.keep 25 rfl rfl))))
  refine Z7 ?_
  refine .round (j + 1, gl, l) ⟨by show j + 1 ≤ _; omega, by (show l.length ≤ j + 1; omega), by (show l = [] ↔ _; rw [hv, ← take_snoc hf]; have h9 := h31.1 (Classical.not_not.1 c2); constructor; intro h g hg; rcases List.mem_append.1 hg with hg | hg; exact h g hg; (simp only [List.mem_singleton] at hg; subst hg; exact h9); intro h g hg; exact h g (List.mem_append_left _ hg))⟩ (by show m.Funcs.length - (j + 1) < m.Funcs.length - j; omega) rfl ?_
  exact (.get rfl (VLe.refl _) (.get rfl (VLe.int (by show (_ : Int) = ((j + 1 : Nat) : Int); omega)) ((.keep 17 rfl rfl))))
 have hall : m.Funcs.take j = m.Funcs := List.take_of_length_le (by omega)
 rw [hall] at hv
 refine .shareS (t := 5) (i := 0) (g := gl) (xs := l) rfl rfl ?_
 refine Z12 ?_
 refine Post.retR1 rfl (l) (by exact ⟨fun h => ⟨hfits, hv.1 h⟩, fun h => hv.2 h.2⟩) (fun _ _ _ h => h) (.rt rfl) ?_
 exact VLe.refl _
theorem vfirst_spec (hp0 : ModOk m) (hp1 : m.Funcs.length ≤ 60000) : FnE Tryz.prog 48 [ptrV (encMod m)] [] (γ := List UInt8 × Int × Int × Int) (fun _ => True) (fun _ => []) (fun y => tupV [aggV (encFnd y), propV (¬ ValidD m)]) := by
 refine In 14 Tryz.func48 fun _ _ _ => ?_
 refine Z2 ?_
 refine .n (opAlloc FZ.out) rfl fun b2 _ => ?_
 refine Z6 ?_
 refine .n (cE (h := vall_spec hp0 hp1)) rfl fun g6 h6 => ?_
 refine Z11 ?_
 refine Cd (fun c0 => ?_) fun c0 => ?_
 ·
  have hv : ValidD m := h6.1 (List.eq_nil_of_length_eq_zero (by omega))
  refine Z9 ?_
  refine Post.retR rfl rfl (([], 0, 0, 0)) (by trivial) (OLe.sel [] [0] rfl rfl) rfl (.cons (.ra (i := 0) FA.out FC.out rfl rfl rfl rfl) ?_ (.cons (.rt rfl) ?_ .nil))
  · exact VLe.agg (.cons strV_nil (.cons (VLe.refl _) (.cons (VLe.refl _) (.cons (VLe.refl _) .nil))))
  exact VLe.prop ⟨fun h => h.elim, fun h => absurd hv h⟩
 have hne : g6 ≠ [] := fun e => c0 (by rw [e]; rfl)
 have hv : ¬ ValidD m := fun h => hne (h6.2 h)
 obtain ⟨y, hy⟩ := getElem?_lt (xs := g6) (k := 0) (List.length_pos_iff.2 hne)
 refine Z5 ?_
 refine .p (cI 0 (h := hy)) rfl ?_
 refine Z6 ?_
 refine Post.retR rfl rfl (y) (by trivial) (OLe.sel [] [0] rfl rfl) rfl (.cons (.ra (i := 0) FA.out FC.out rfl rfl rfl rfl) ?_ (.cons (.rt rfl) ?_ .nil))
 · exact VLe.refl _
 exact VLe.prop ⟨fun _ => hv, fun _ => trivial⟩
theorem vis_spec (hp0 : ModOk m) (hp1 : m.Funcs.length ≤ 60000) : FnE Tryz.prog 21 [ptrV (encMod m)] [] (γ := Unit) (fun _ => True) (fun _ => []) (fun _ => propV (ValidD m)) := by
 refine In 12 Tryz.func21 fun _ _ _ => ?_
 refine Z8 ?_
 refine .n (cE (h := vfirst_spec hp0 hp1)) rfl fun g7 h7 => ?_
 refine Z3 ?_
 refine .n (opAlloc FZ.out) rfl fun b3 _ => ?_
 refine Z4 ?_
 refine .share (t := 3) (i := 0) rfl rfl ?_
 refine Z8 ?_
 refine Rt1 ?_
 exact VLe.prop Classical.not_not
end Go.Proofs.YtpahnbgfmhcndaaGreatDoor
end
