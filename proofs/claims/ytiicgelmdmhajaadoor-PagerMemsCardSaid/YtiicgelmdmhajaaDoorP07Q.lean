/-
  Walks, printed by a program (gen.py) out of what its author says of each function.
-/
import Derived.Test.YtiicgelmdmhajaaDoorP07O
import Derived.Test.YtiicgelmdmhajaaDoorP07D
namespace Go.Proofs.YtiicgelmdmhajaaDoor
open Go.Hl Go.RowKit
set_option linter.unusedVariables false
set_option maxRecDepth 100000

theorem pread1_spec {X : PgI} {z q m : Nat} {C : Cont} {R : ArD → HP} {mem page at_ n : Int} {k0 : PairK} (hp0 : X.n = 1) (hp1 : (mem, page) ≠ k0) (hp2 : ¬ zerosP (C (mem, page))) (hp3 : wrongG z (mem, page) at_ n = 0) (hp4 : RestOk X R) : FnE Tryd.prog 35 [addrV X.pb 0, i64V mem, i64V page, i64V at_, i64V n] [pagH X z q (onlyP k0) C m R] (γ := Unit) (fun _ => True) (fun _ => [pagH X z q cleanRes C m R]) (fun _ => tupV [sliceV 1 encU8 (readG z C (mem, page) at_ n), i64V (wrongG z (mem, page) at_ n : Int)]) := by
  refine FnE.intro 62 Tryd.func35 rfl rfl rfl fun w0 S0 M => ?_
  refine CodeT.openG fun p a s hG => ?_
  obtain ⟨D, hDm, hDk, hI⟩ := hG.ex
  have hsz := hI.ok.st.size
  have hgz := hG.sz
  have hRR := hp0
  have hwr := hG.wrong (mem, page) at_ n
  have hX1 := hp0; have hk0 := hp1; have hnz := hp2; have h0 := hp3; have hRR := hp4
  refine CodeT.seq ?_
  refine CodeT.region (.p (opAssign (.c _)) rfl <| .p (opAssign (.c _)) rfl <| .nil ?_)
  refine EndT.thenN ?_
  refine CodeT.seq ?_
  refine CodeT.region (.p (opMove (.t rfl)) rfl <| .p (opMove (.t rfl)) rfl <| .p (opBuild Tryd.pl100 Tryd.zb100 (.cons (.t rfl) (.cons (.t rfl) .nil)) rfl) rfl <| .n (opAlloc Tryd.zb100) rfl <| fun b12 _ => .s (opStoreOA (i := 0) Tryd.cz100 rfl (.t rfl) (.t rfl) rfl rfl rfl) <| .nil ?_)
  refine EndT.thenN ?_
  refine CodeT.share (t := 12) (i := 0) rfl rfl ?_
  refine CodeT.seq ?_
  refine CodeT.seq ?_
  refine CodeT.region (.p (opMove (.t rfl)) rfl <| .p (opLoadA Tryd.ag100 Tryd.cz100 rfl (.t rfl) rfl) rfl <| .p (opMove (.t rfl)) rfl <| .p (opMove (.t rfl)) rfl <| .n ((opCallE (rest := [_, _, _, _, _, _, _, _]) (pwrong_spec (p := p) (s := s) (k := (mem, page)) (at_ := at_) (n := n) (by omega)) Tryd.cb41 (.cons (.t rfl) (.cons (.t rfl) (.cons (.t rfl) (.cons (.t rfl) .nil)))) (Perm.idx [0, 4, 1, 2, 3, 5, 6, 7, 8, 9] rfl rfl)).same (fun _ _ => OLe.perm (Perm.idx [0, 2, 3, 4, 1, 5, 6, 7, 8, 9] rfl rfl)) (fun _ _ => VLe.refl _)) rfl <| fun _ _ => .p (opAssign (.t rfl)) rfl <| .nil ?_)
  refine EndT.thenN ?_
  refine CodeT.seq ?_
  refine CodeT.region (.p (opMove (.t rfl)) rfl <| .p (opNeq (.t rfl) (.c _)) rfl <| .nil ?_)
  refine EndT.thenN ?_
  refine CodeT.cond (.t rfl) (fun c0 => ?_) (fun c0 => ?_)
  ·
    have hne : wrongG z (mem, page) at_ n ≠ 0 := by (rw [← hwr]; omega)
    have hrd : readG z C (mem, page) at_ n = [] := by unfold readG; rw [if_neg hne]
    refine CodeT.seq ?_
    refine CodeT.region (.p (opMove (.t rfl)) rfl <| .p (opAssign (.c _)) rfl <| .p (opAssign (.t rfl)) rfl <| .nil ?_)
    refine EndT.thenN ?_
    refine CodeT.ret (EndT.thenR (Post.retR rfl rfl (()) (by trivial) (pag_close (p := p) (a0 := a) (a := a) (s := s) (r := []) hRR hI.ok.ar (SameOut.refl _ _) ⟨⟨D, hDm, hDk, hI⟩, hG.sz, hG.cp, (absurd h0 hne)⟩) rfl (.cons (.rt rfl) ?_ (.cons (.rt rfl) ?_ .nil))))
    · exact (sliceV_nil _ _).trans (VLe.of_eq (by rw [hrd]))
    · exact VLe.int (by rw [← hwr])
  ·
    have he0 : wrongG z (mem, page) at_ n = 0 := by (rw [← hwr]; omega)
    obtain ⟨hk1, hk2, hat, hn0, hsum⟩ := wrongG_ok he0
    have hrd : readG z C (mem, page) at_ n = ((C (mem, page)).drop at_.toNat).take n.toNat := by unfold readG; rw [if_pos he0]
    refine CodeT.skip (EndT.thenN ?_)
    refine CodeT.seq ?_
    refine CodeT.seq ?_
    refine CodeT.region (.p (opMove (.t rfl)) rfl <| .p (opLoadA Tryd.ag100 Tryd.cz100 rfl (.t rfl) rfl) rfl <| .n ((opCallE (rest := [_, _, _, _, _, _, _]) (pknown_spec (p := p) (k := (mem, page))) Tryd.cb42 (.cons (.t rfl) (.cons (.t rfl) .nil)) (Perm.idx [0, 2, 3, 1, 4, 5, 6, 7, 8, 9] rfl rfl)).same (fun _ _ => OLe.perm (Perm.idx [0, 3, 1, 2, 4, 5, 6, 7, 8, 9] rfl rfl)) (fun _ _ => VLe.refl _)) rfl <| fun _ _ => .p (opNot (.t rfl)) rfl <| .nil ?_)
    refine EndT.thenN ?_
    refine CodeT.cond (.t rfl) (fun c1 => ?_) (fun c1 => ?_)
    ·
      have hzr := hI.unknown c1
      have hlc := hI.lenC (mem, page)
      have hres : List.replicate n.toNat (0 : UInt8) = ((C (mem, page)).drop at_.toNat).take n.toNat := by (rw [zeros_rep hzr, List.drop_replicate, List.take_replicate]; congr 1; omega)
      refine CodeT.seq ?_
      refine CodeT.region (.p (opMove (.t rfl)) rfl <| .p (opMakeSh Tryd.underlying22 Tryd.cz5 Tryd.by5 Tryd.zb5 (.t rfl) (show n = ((n.toNat : Nat) : Int) by omega) (by omega)) rfl <| .p (opAssign (.t rfl)) rfl <| .p (opAssign (.c _)) rfl <| .nil ?_)
      refine EndT.thenN ?_
      refine CodeT.ret (EndT.thenR (Post.retR rfl rfl (()) (by trivial) (pag_close (p := p) (a0 := a) (a := a) (s := s) (r := []) hRR hI.ok.ar (SameOut.refl _ _) ⟨⟨D, hDm, hDk, hI⟩, hG.sz, hG.cp, (absurd hzr hnz)⟩) rfl (.cons (.rt rfl) ?_ (.cons (.rt rfl) ?_ .nil))))
      · exact VLe.of_eq (by rw [hres, hrd])
      · exact VLe.int (by rw [he0]; rfl)
    ·
      refine CodeT.skip (EndT.thenN ?_)
      refine CodeT.seq ?_
      refine CodeT.region (.p (opMove (.t rfl)) rfl <| .p (opLoadA Tryd.ag100 Tryd.cz100 rfl (.t rfl) rfl) rfl <| .n (opCallE (rest := [_]) (pwant_spec (p := p) (a := a) (s := s) (k := (mem, page)) hI) Tryd.cb44 (.cons (.t rfl) (.cons (.t rfl) .nil)) (Perm.idx [0, 1, 2, 3, 4, 5, 6, 7, 8, 9] rfl rfl)) rfl <| fun g36 h36 => .p (opMove (.t rfl)) rfl <| .p (opExtract (.t rfl) rfl) rfl <| .p (opExtract (.t rfl) rfl) rfl <| .p (opAssign (.t rfl)) rfl <| .p (opAssign (.t rfl)) rfl <| .nil ?_)
      refine EndT.thenN ?_
      obtain ⟨p5, a5, s5, i5⟩ := g36
      have hI5 := h36.inv
      obtain ⟨f5, hf5, hu5, hk5, hd5⟩ := h36.fr
      simp only at hf5 hI5
      have hi5 : i5 < X.n := by (rw [← hI5.ok.n]; exact (List.getElem?_eq_some_iff.1 hf5).1)
      have har5 := hI5.ok.ar
      have hz5 : s5.size = z := h36.size.trans hG.sz
      have hc5 : s5.cap = (q : Int) := h36.cap.trans hG.cp
      have hrm5 := hI5.ok.room f5 (List.mem_of_getElem? hf5)
      have hm5 := har5.most
      have hres : a5.get (f5.at_ + at_.toNat) n.toNat = ((C (mem, page)).drop at_.toNat).take n.toNat := by (have h9 := hI5.fr i5 f5 hf5 hu5; rw [hk5] at h9; rw [← h9]; exact get_get (by omega))
      refine CodeT.seq ?_
      refine CodeT.seq ?_
      refine CodeT.region (.p (opMove (.t rfl)) rfl <| .p (opNeq (.t rfl) (.c _)) rfl <| .nil ?_)
      refine EndT.thenN ?_
      refine CodeT.cond (.t rfl) (fun c2 => ?_) (fun c2 => ?_)
      ·
        exact absurd rfl c2
      ·
        refine CodeT.skip (EndT.thenN ?_)
        refine CodeT.seq ?_
        refine CodeT.staged [(0, 0), (1, 0), (2, 0), (3, 1), (4, 0), (5, 0), (6, 0), (7, 1), (8, 0), (9, 0), (10, 0), (11, 1), (12, 0), (13, 0), (14, 0), (15, 4), (16, 0), (17, 0)] 18 2 Tryd.mixed (by kernel_rfl) (.p rfl (fun _ => opMove (.t rfl)) <| .p rfl (fun _ => opNilChkO (.t rfl)) <| .p rfl (fun _ => opFieldO Tryd.fd96_0 (.t rfl)) <| .o rfl (opLoadO (i := 0) Tryd.ag24 (.t rfl) rfl rfl) <| .p rfl (fun _ => opMove (.t rfl)) <| .p rfl (fun _ => opNilChkO (.t rfl)) <| .p rfl (fun _ => opFieldO Tryd.fd96_2 (.t rfl)) <| .o rfl (opLoadO (i := 0) Tryd.ag94 (.t rfl) rfl rfl) <| .p rfl (fun _ => opMove (.t rfl)) <| .p rfl (fun _ => opIndexAddrW i5 Tryd.underlying94 Tryd.cz102 rfl (.t rfl) (.t rfl) rfl hi5) <| .p rfl (fun _ => opFieldO Tryd.fd102_0 (.t rfl)) <| .o rfl (opLoadW (i := 1) (r := 0) Tryd.ag3 (.t rfl) rfl hf5 rfl) <| .p rfl (fun _ => opMove (.t rfl)) <| .p rfl (fun _ => (opAddF (.t rfl) (.t rfl) (fits_i64 (by omega) (by omega))).le (VLe.int (show _ = ((f5.at_ + at_.toNat : Nat) : Int) by omega))) <| .p rfl (fun _ => (opMove (.t rfl)).le (VLe.int (show _ = ((n.toNat : Nat) : Int) by omega))) <| .a rfl ((opCallE (rest := [_, _, _, _, _, _]) (abytes_spec (X := X.Y) (a := a5) (at_ := f5.at_ + at_.toNat) (n := n.toNat) har5 (by omega)) Tryd.cb56 (.cons (.t rfl) (.cons (.t rfl) (.cons (.t rfl) .nil))) (Perm.idx [5, 6, 7, 8, 0, 1, 2, 3, 4, 9] rfl rfl)).same (fun _ _ => OLe.perm (Perm.idx [4, 5, 6, 7, 8, 0, 1, 2, 3, 9] rfl rfl)) (fun _ _ => VLe.refl _)) (fun _ _ => OLe.refl _) <| fun _ _ => .p rfl (fun _ => opExtract (.t rfl) rfl) <| .p rfl (fun _ => opExtract (.t rfl) rfl) <| .fin (.p (opAssign (.t rfl)) rfl <| .p (opAssign (.t rfl)) rfl <| .nil ?_))
        refine EndT.thenN ?_
        refine CodeT.ret (Post.retR rfl rfl (()) (by trivial) (pag_close (p := p5) (a0 := a) (a := a5) (s := s5) (r := []) hRR hI.ok.ar h36.out ⟨⟨D, hDm, hDk, hI5⟩, hz5, hc5, ⟨hI5.one hX1 hf5 (hd5 (hG.cln _ hk0)), hI5.pos hf5 hu5⟩⟩) rfl (.cons (.rt rfl) ?_ (.cons (.rt rfl) ?_ .nil)))
        · exact VLe.of_eq (by rw [hres, hrd])
        · exact VLe.int (by rw [he0]; rfl)

theorem pwrite1_spec {X : PgI} {z q m : Nat} {T : PgD → Prop} {C : Cont} {R : ArD → HP} {mem page at_ : Int} {ys : List UInt8} (hp0 : m + 1 ≤ q) (hp1 : page ≤ 9223372036854775807) (hp2 : RestOk X R) (hp3 : X.n = 1) (hp4 : ¬ zerosP ys) (hp5 : wrongG z (mem, page) at_ (ys.length : Int) = 0) : FnE Tryd.prog 15 [addrV X.pb 0, i64V mem, i64V page, i64V at_, sliceV 1 encU8 ys] [pagH X z q T C m R] (γ := Unit) (fun _ => True) (fun _ => [pagH X z q (onlyP (mem, page)) (writeG z C (mem, page) at_ ys) (m + 1) R]) (fun _ => i64V (wrongG z (mem, page) at_ (ys.length : Int) : Int)) := by
  refine FnE.intro 69 Tryd.func15 rfl rfl rfl fun w0 S0 M => ?_
  refine CodeT.openG fun p a s hG => ?_
  obtain ⟨D, hDm, hDk, hI⟩ := hG.ex
  have hsz := hI.ok.st.size
  have hgz := hG.sz
  have hRR := hp2
  have hgc := hG.cp
  have hwr := hG.wrong (mem, page) at_ (ys.length : Int)
  have hI1 := hI.less (D' := (mem, page) :: D) (fun k hk => List.mem_cons_of_mem _ hk) (by (simp only [List.length_cons]; omega))
  have hD1 : ((mem, page) :: D).length ≤ m + 1 := by (simp only [List.length_cons]; omega)
  refine CodeT.seq ?_
  refine CodeT.region (.p (opAssign (.c _)) rfl <| .nil ?_)
  refine EndT.thenN ?_
  refine CodeT.seq ?_
  refine CodeT.region (.p (opMove (.t rfl)) rfl <| .p (opMove (.t rfl)) rfl <| .p (opBuild Tryd.pl100 Tryd.zb100 (.cons (.t rfl) (.cons (.t rfl) .nil)) rfl) rfl <| .n (opAlloc Tryd.zb100) rfl <| fun b11 _ => .s (opStoreOA (i := 0) Tryd.cz100 rfl (.t rfl) (.t rfl) rfl rfl rfl) <| .nil ?_)
  refine EndT.thenN ?_
  refine CodeT.share (t := 11) (i := 0) rfl rfl ?_
  refine CodeT.seq ?_
  refine CodeT.seq ?_
  refine CodeT.region (.p (opMove (.t rfl)) rfl <| .p (opLoadA Tryd.ag100 Tryd.cz100 rfl (.t rfl) rfl) rfl <| .p (opMove (.t rfl)) rfl <| .p (opMove (.t rfl)) rfl <| .p (opLen rfl Tryd.underlying22 (.t rfl)) rfl <| .n ((opCallE (rest := [_, _, _, _, _, _, _, _]) (pwrong_spec (p := p) (s := s) (k := (mem, page)) (at_ := at_) (n := (ys.length : Int)) (by omega)) Tryd.cb41 (.cons (.t rfl) (.cons (.t rfl) (.cons (.t rfl) (.cons (.t rfl) .nil)))) (Perm.idx [0, 4, 1, 2, 3, 5, 6, 7, 8, 9] rfl rfl)).same (fun _ _ => OLe.perm (Perm.idx [0, 2, 3, 4, 1, 5, 6, 7, 8, 9] rfl rfl)) (fun _ _ => VLe.refl _)) rfl <| fun _ _ => .p (opAssign (.t rfl)) rfl <| .nil ?_)
  refine EndT.thenN ?_
  refine CodeT.seq ?_
  refine CodeT.region (.p (opMove (.t rfl)) rfl <| .p (opNeq (.t rfl) (.c _)) rfl <| .nil ?_)
  refine EndT.thenN ?_
  refine CodeT.cond (.t rfl) (fun c0 => ?_) (fun c0 => ?_)
  ·
    have hne : wrongG z (mem, page) at_ (ys.length : Int) ≠ 0 := by (rw [← hwr]; omega)
    have hwg : writeG z C (mem, page) at_ ys = C := by unfold writeG; rw [if_neg hne]
    refine CodeT.seq ?_
    refine CodeT.region (.p (opMove (.t rfl)) rfl <| .p (opAssign (.t rfl)) rfl <| .nil ?_)
    refine EndT.thenN ?_
    refine CodeT.ret (EndT.thenR (Post.retR1 rfl (()) (by trivial) (pag_close (p := p) (a0 := a) (a := a) (s := s) (r := []) hRR hI.ok.ar (SameOut.refl _ _) ⟨⟨D, Nat.le_succ_of_le hDm, hDk, (by rw [hwg]; exact hI)⟩, hG.sz, hG.cp, (absurd hp5 hne)⟩) (.rt rfl) ?_))
    exact VLe.int (by rw [← hwr])
  ·
    have he0 : wrongG z (mem, page) at_ (ys.length : Int) = 0 := by (rw [← hwr]; omega)
    obtain ⟨hk1, hk2, hat, hn0, hsum⟩ := wrongG_ok he0
    have hDk1 : ∀ k ∈ (mem, page) :: D, keyOk k := fun k hk => (List.mem_cons.1 hk).elim (fun e => e ▸ ⟨hk1, hk2, hp1⟩) (hDk k)
    have hwg : writeG z C (mem, page) at_ ys = updC C (mem, page) (spl (C (mem, page)) at_.toNat ys) := by unfold writeG; rw [if_pos he0]
    refine CodeT.skip (EndT.thenN ?_)
    refine CodeT.seq ?_
    refine CodeT.seq ?_
    refine CodeT.region (.p (opMove (.t rfl)) rfl <| .p (opLoadA Tryd.ag100 Tryd.cz100 rfl (.t rfl) rfl) rfl <| .n ((opCallE (rest := [_, _, _, _, _, _, _]) (pknown_spec (p := p) (k := (mem, page))) Tryd.cb42 (.cons (.t rfl) (.cons (.t rfl) .nil)) (Perm.idx [0, 2, 3, 1, 4, 5, 6, 7, 8, 9] rfl rfl)).same (fun _ _ => OLe.perm (Perm.idx [0, 3, 1, 2, 4, 5, 6, 7, 8, 9] rfl rfl)) (fun _ _ => VLe.refl _)) rfl <| fun _ _ => .p (opNot (.t rfl)) rfl <| .p (opMove (.t rfl)) rfl <| .g (OpG.gT rfl rfl rfl rfl (fun hg => opMove (.t rfl))) rfl rfl <| .g (OpG.gT rfl rfl rfl rfl (fun hg => opCall (pempty_spec) Tryd.cb43 (.cons (.when (.t rfl) hg) .nil))) rfl rfl <| .p (opAnd (.t rfl) (.t rfl)) rfl <| .nil ?_)
    refine EndT.thenN ?_
    refine CodeT.cond (.t rfl) (fun c1 => ?_) (fun c1 => ?_)
    ·
      have hzr := hI.unknown c1.1
      have hlc := hI.lenC (mem, page)
      have hsame : updC C (mem, page) (spl (C (mem, page)) at_.toNat ys) = C := updC_same (spl_zero hzr c1.2 (by omega))
      refine CodeT.seq ?_
      refine CodeT.region (.p (opAssign (.c _)) rfl <| .nil ?_)
      refine EndT.thenN ?_
      refine CodeT.ret (EndT.thenR (Post.retR1 rfl (()) (by trivial) (pag_close (p := p) (a0 := a) (a := a) (s := s) (r := []) hRR hI.ok.ar (SameOut.refl _ _) ⟨⟨(mem, page) :: D, hD1, hDk1, (by rw [hwg, hsame]; exact hI1)⟩, hG.sz, hG.cp, (absurd c1.2 hp4)⟩) (.rt rfl) ?_))
      exact VLe.int (by rw [he0]; rfl)
    ·
      refine CodeT.skip (EndT.thenN ?_)
      refine CodeT.seq ?_
      refine CodeT.region (.p (opMove (.t rfl)) rfl <| .p (opLoadA Tryd.ag100 Tryd.cz100 rfl (.t rfl) rfl) rfl <| .n (opCallE (rest := [_]) (pwant_spec (p := p) (a := a) (s := s) (k := (mem, page)) hI1) Tryd.cb44 (.cons (.t rfl) (.cons (.t rfl) .nil)) (Perm.idx [0, 1, 2, 3, 4, 5, 6, 7, 8, 9] rfl rfl)) rfl <| fun g38 h38 => .p (opMove (.t rfl)) rfl <| .p (opExtract (.t rfl) rfl) rfl <| .p (opExtract (.t rfl) rfl) rfl <| .p (opAssign (.t rfl)) rfl <| .p (opAssign (.t rfl)) rfl <| .nil ?_)
      refine EndT.thenN ?_
      obtain ⟨p5, a5, s5, i5⟩ := g38
      have hI5 := h38.inv
      obtain ⟨f5, hf5, hu5, hk5, hd5⟩ := h38.fr
      simp only at hf5 hI5
      have hi5 : i5 < X.n := by (rw [← hI5.ok.n]; exact (List.getElem?_eq_some_iff.1 hf5).1)
      have har5 := hI5.ok.ar
      have hz5 : s5.size = z := h38.size.trans hG.sz
      have hc5 : s5.cap = (q : Int) := h38.cap.trans hG.cp
      have hrm5 := hI5.ok.room f5 (List.mem_of_getElem? hf5)
      have hm5 := har5.most
      have hset5 := set_here (x := { f5 with dirty := true }) hf5
      have hI6 := hI5.write hf5 hu5 (o := at_.toNat) (ys := ys) (by omega) (by rw [hk5]; exact List.mem_cons_self)
      have hup : updC C f5.k (spl (C f5.k) at_.toNat ys) = updC C (mem, page) (spl (C (mem, page)) at_.toNat ys) := by rw [hk5]
      rw [hup] at hI6
      refine CodeT.seq ?_
      refine CodeT.seq ?_
      refine CodeT.region (.p (opMove (.t rfl)) rfl <| .p (opNeq (.t rfl) (.c _)) rfl <| .nil ?_)
      refine EndT.thenN ?_
      refine CodeT.cond (.t rfl) (fun c2 => ?_) (fun c2 => ?_)
      ·
        exact absurd rfl c2
      ·
        refine CodeT.skip (EndT.thenN ?_)
        refine CodeT.seq ?_
        refine CodeT.region (.p (opMove (.t rfl)) rfl <| .p (opNilChkO (.t rfl)) rfl <| .p (opFieldO Tryd.fd96_2 (.t rfl)) rfl <| .p (opLoadO (i := 0) Tryd.ag94 (.t rfl) rfl rfl) rfl <| .p (opMove (.t rfl)) rfl <| .p (opIndexAddrW i5 Tryd.underlying94 Tryd.cz102 rfl (.t rfl) (.t rfl) rfl hi5) rfl <| .p (opFieldO Tryd.fd102_4 (.t rfl)) rfl <| .s (opStoreW (i := 1) (r := 5) { f5 with dirty := true } rfl Tryd.cz4 (.t rfl) .ct rfl hf5 rfl rfl) <| .nil ?_)
        refine EndT.thenN ?_
        refine CodeT.seq ?_
        refine CodeT.draw 15 2 Tryd.mixed (by kernel_rfl) (.p (opMove (.t rfl)) <| .p (opNilChkO (.t rfl)) <| .p (opFieldO Tryd.fd96_0 (.t rfl)) <| .p (opLoadO (i := 0) Tryd.ag24 (.t rfl) rfl rfl) <| .p (opMove (.t rfl)) <| .p (opNilChkO (.t rfl)) <| .p (opFieldO Tryd.fd96_2 (.t rfl)) <| .p (opLoadO (i := 0) Tryd.ag94 (.t rfl) rfl rfl) <| .p (opMove (.t rfl)) <| .p (opIndexAddrW i5 Tryd.underlying94 Tryd.cz102 rfl (.t rfl) (.t rfl) rfl hi5) <| .p (opFieldO Tryd.fd102_0 (.t rfl)) <| .p (OpP.le (opLoadW (i := 1) (r := 0) Tryd.ag3 (.t rfl) rfl hset5 rfl) (VLe.refl (i64V (f5.at_ : Int)))) <| .p (opMove (.t rfl)) <| .p ((opAddF (.t rfl) (.t rfl) (fits_i64 (by omega) (by omega))).le (VLe.int (show _ = ((f5.at_ + at_.toNat : Nat) : Int) by omega))) <| .p (opMove (.t rfl)) <| .nil) (.n (opCallE (rest := [_, _, _, _, _, _]) (acopy_spec (X := X.Y) (a := a5) (at_ := f5.at_ + at_.toNat) (ys := ys) har5 (by omega)) Tryd.cb46 (.cons (.t rfl) (.cons (.t rfl) (.cons (.t rfl) .nil))) (Perm.idx [5, 6, 7, 8, 0, 1, 2, 3, 4, 9] rfl rfl)) rfl <| fun g68 h68 => .p (opAssign (.t rfl)) rfl <| .nil ?_)
        refine EndT.thenN ?_
        refine CodeT.ret (Post.retR1 rfl (()) (by trivial) (OLe.trans (OLe.perm (Perm.idx [4, 5, 6, 7, 8, 0, 1, 2, 3, 9] rfl rfl)) (pag_close (p := { p5 with l := p5.l.set i5 { f5 with dirty := true } }) (a0 := a) (a := a5.put (f5.at_ + at_.toNat) ys) (s := s5) (r := []) hRR hI.ok.ar (h38.out.trans (SameOut.put (by omega) (by omega) (by omega))) ⟨⟨(mem, page) :: D, hD1, hDk1, (by rw [hwg]; exact hI6)⟩, hz5, hc5, (hk5 ▸ hI5.only hp3 hf5 hu5)⟩)) (.rt rfl) ?_)
        exact VLe.int (by rw [he0]; rfl)

theorem president1_spec {X : PgI} {z q m : Nat} {T : PgD → Prop} {C : Cont} {R : ArD → HP} (hp0 : RestOk X R) (hp1 : X.n = 1) (hp2 : ∀ p, T p → 0 < p.inm.length) : FnE Tryd.prog 37 [addrV X.pb 0] [pagH X z q T C m R] (γ := Unit) (fun _ => True) (fun _ => [pagH X z q T C m R]) (fun _ => i64V 1) := by
  refine FnE.intro 16 Tryd.func37 rfl rfl rfl fun w0 S0 M => ?_
  refine CodeT.openG fun p a s hG => ?_
  obtain ⟨D, hDm, hDk, hI⟩ := hG.ex
  have hsz := hI.ok.st.size
  have hgz := hG.sz
  have hRR := hp0
  have hcf : ¬ BP p.closed := fun e => by (have h9 := (BP_iff _).1 e; rw [hI.opn.2] at h9; cases h9)
  refine CodeT.seq ?_
  refine CodeT.region (.p (opAssign (.c _)) rfl <| .nil ?_)
  refine EndT.thenN ?_
  refine CodeT.seq ?_
  refine CodeT.seq ?_
  refine CodeT.region (.p (opMove (.t rfl)) rfl <| .p (opEqlNilO Tryd.underlying31 (.t rfl)) rfl <| .p (opMove (.t rfl)) rfl <| .g (OpG.gF rfl rfl rfl rfl (fun hg => opMove (.t rfl))) rfl rfl <| .g (OpG.gF rfl rfl rfl rfl (fun hg => opNilChkO (.when (.t rfl) hg))) rfl rfl <| .g (OpG.gF rfl rfl rfl rfl (fun hg => opFieldO Tryd.fd96_7 (.when (.t rfl) hg))) rfl rfl <| .g (OpG.gF rfl rfl rfl rfl (fun hg => opLoadO (i := 0) Tryd.ag4 (.when (.t rfl) hg) rfl rfl)) rfl rfl <| .p (opOr (.t rfl) (.t rfl)) rfl <| .nil ?_)
  refine EndT.thenN ?_
  refine CodeT.cond (.t rfl) (fun c0 => ?_) (fun c0 => ?_)
  ·
    exact (hcf (c0.elim False.elim id)).elim
  ·
    refine CodeT.skip (EndT.thenN ?_)
    refine CodeT.seq ?_
    refine CodeT.region (.p (opMove (.t rfl)) rfl <| .p (opNilChkO (.t rfl)) rfl <| .p (opFieldO Tryd.fd96_4 (.t rfl)) rfl <| .p (opLoadO (i := 0) Tryd.ag93 (.t rfl) rfl rfl) rfl <| .p (opLenM (i := 2) rfl Tryd.underlying93 (.t rfl) rfl) rfl <| .p (opAssign (.t rfl)) rfl <| .nil ?_)
    refine EndT.thenN ?_
    refine CodeT.ret (Post.retR1 rfl (()) (by trivial) (pag_close (p := p) (a0 := a) (a := a) (s := s) (r := []) hRR hI.ok.ar (SameOut.refl _ _) ⟨⟨D, hDm, hDk, hI⟩, hG.sz, hG.cp, hG.cln⟩) (.rt rfl) ?_)
    exact VLe.int (by (have h8 := hI.resident; have h9 := hp2 _ hG.cln; omega))

set_option maxHeartbeats 1000000 in
theorem pused_spec {X : PgI} {z q m : Nat} {T : PgD → Prop} {C : Cont} {R : ArD → HP} {ks : List PairK} (hp0 : ∀ p, T p → cleanP p) (hp1 : ks.Nodup) (hp2 : ∀ k, k ∈ ks ↔ ¬ zerosP (C k)) (hp3 : RestOk X R) : FnE Tryd.prog 17 [addrV X.sb 0] [pagH X z q T C m R] (γ := Unit) (fun _ => True) (fun _ => [pagH X z q T C m R]) (fun _ => i64V (ks.length : Int)) := by
  refine FnE.intro 10 Tryd.func17 rfl rfl rfl fun w0 S0 M => ?_
  refine CodeT.openG fun p a s hG => ?_
  obtain ⟨D, hDm, hDk, hI⟩ := hG.ex
  have hsz := hI.ok.st.size
  have hgz := hG.sz
  have hRR := hp3
  obtain ⟨ks2, hn2, hl2, hm2⟩ := hI.count (hp0 _ hG.cln)
  have hll : ks.length = s.m.length := by (rw [← hl2]; exact Nat.le_antisymm (pigeon hp1 fun k hk => (hm2 k).2 ((hp2 k).1 hk)) (pigeon hn2 fun k hk => (hp2 k).2 ((hm2 k).1 hk)))
  refine CodeT.own (OLe.perm (Perm.idx [4, 0, 1, 2, 3, 5, 6, 7, 8, 9] rfl rfl)) ?_
  refine CodeT.openS fun mb E hE => ?_
  have hlen : s.m.length = E.length := by (rw [← hE]; simp [contM])
  refine CodeT.seq ?_
  refine CodeT.region (.p (opAssign (.c _)) rfl <| .nil ?_)
  refine EndT.thenN ?_
  refine CodeT.seq ?_
  refine CodeT.seq ?_
  refine CodeT.region (.p (opMove (.t rfl)) rfl <| .p (opEqlNilO Tryd.underlying28 (.t rfl)) rfl <| .nil ?_)
  refine EndT.thenN ?_
  refine CodeT.cond (.t rfl) (fun c0 => ?_) (fun c0 => ?_)
  ·
    exact c0.elim
  ·
    refine CodeT.skip (EndT.thenN ?_)
    refine CodeT.seq ?_
    refine CodeT.region (.p (opMove (.t rfl)) rfl <| .p (opNilChkO (.t rfl)) rfl <| .p (opFieldO Tryd.fd92_3 (.t rfl)) rfl <| .p (opLoadO (i := 0) Tryd.ag85 (.t rfl) rfl rfl) rfl <| .p (opLenM (i := 1) rfl Tryd.underlying85 (.t rfl) rfl) rfl <| .p (opAssign (.t rfl)) rfl <| .nil ?_)
    refine EndT.thenN ?_
    refine CodeT.ret (Post.retR1 rfl (()) (by trivial) (OLe.trans (store_close hE rfl) (OLe.trans (OLe.perm (Perm.idx [1, 2, 3, 4, 0, 5, 6, 7, 8, 9] rfl rfl)) (pag_close (p := p) (a0 := a) (a := a) (s := s) (r := []) hRR hI.ok.ar (SameOut.refl _ _) ⟨⟨D, hDm, hDk, hI⟩, hG.sz, hG.cp, hG.cln⟩))) (.rt rfl) ?_)
    exact VLe.int (by rw [hll, hlen]; simp)

end Go.Proofs.YtiicgelmdmhajaaDoor
