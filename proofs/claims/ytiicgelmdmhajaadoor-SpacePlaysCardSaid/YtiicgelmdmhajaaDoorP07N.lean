/-
  Walks, printed by a program (gen.py) out of what its author says of each function.
-/
import Derived.Test.YtiicgelmdmhajaaDoorP07M
namespace Go.Proofs.YtiicgelmdmhajaaDoor
open Go.Hl Go.RowKit
set_option linter.unusedVariables false
set_option maxRecDepth 100000

theorem pread_spec {X : PgI} {z q m : Nat} {T : PgD → Prop} {C : Cont} {R : ArD → HP} {mem page at_ n : Int} (hp0 : RestOk X R) : FnE Tryd.prog 35 [addrV X.pb 0, i64V mem, i64V page, i64V at_, i64V n] [pagH X z q T C m R] (γ := Unit) (fun _ => True) (fun _ => [pagH X z q (fun _ => True) C m R]) (fun _ => tupV [sliceV 1 encU8 (readG z C (mem, page) at_ n), i64V (wrongG z (mem, page) at_ n : Int)]) := by
  refine FnE.intro 62 Tryd.func35 rfl rfl rfl fun w0 S0 M => ?_
  refine CodeT.openG fun p a s hG => ?_
  obtain ⟨D, hDm, hDk, hI⟩ := hG.ex
  have hsz := hI.ok.st.size
  have hgz := hG.sz
  have hRR := hp0
  have hwr := hG.wrong (mem, page) at_ n
  refine CodeT.seq ?_
  refine CodeT.region (.p (opAssign (.c _)) rfl <| .p (opAssign (.c _)) rfl <| .nil ?_)
  refine EndT.thenN ?_
  refine CodeT.seq ?_
  refine CodeT.region (.p (opMove (.t rfl)) rfl <| .p (opMove (.t rfl)) rfl <| .p (opBuild Tryd.pl100 Tryd.zb100 (.cons (.t rfl) (.cons (.t rfl) .nil)) rfl) rfl <| .n (opAlloc Tryd.zb100) rfl <| fun b12 _ => .s (opStoreOA (i := 0) Tryd.cz100 rfl (.t rfl) (.t rfl) rfl rfl rfl) <| .nil ?_)
  refine EndT.thenN ?_
  refine CodeT.share (t := 12) (i := 0) rfl rfl ?_
  refine CodeT.seq ?_
  refine CodeT.seq ?_
  refine CodeT.region (.p (opMove (.t rfl)) rfl <| .p (opLoadA Tryd.ag100 Tryd.cz100 rfl (.t rfl) rfl) rfl <| .p (opMove (.t rfl)) rfl <| .p (opMove (.t rfl)) rfl <| .n ((opCallE (rest := [_, _, _, _, _, _, _, _]) (pwrong_spec (p := p) (s := s) (k := (mem, page)) (at_ := at_) (n := n) (by omega)) Tryd.cb41 (.cons (.t rfl) (.cons (.t rfl) (.cons (.t rfl) (.cons (.t rfl) .nil)))) (Perm.idx [0, 4, 1, 2, 3, 5, 6, 7, 8, 9] rfl rfl)).same (fun _ _ => OLe.perm (Perm.idx [0, 2, 3, 4, 1, 5, 6, 7, 8, 9] rfl rfl)) (fun _ _ => VLe.refl _)) rfl <| fun _ _ => .p (opAssign (.t rfl)) rfl <| .nil ?_)
  refine EndT.thenN ?_
  refine CodeT.seq ?_
  refine CodeT.region (.p (opMove (.t rfl)) rfl <| .p (opNeq (.t rfl) (.c _)) rfl <| .nil ?_)
  refine EndT.thenN ?_
  refine CodeT.cond (.t rfl) (fun c0 => ?_) (fun c0 => ?_)
  ·
    have hne : wrongG z (mem, page) at_ n ≠ 0 := by (rw [← hwr]; omega)
    have hrd : readG z C (mem, page) at_ n = [] := by unfold readG; rw [if_neg hne]
    refine CodeT.seq ?_
    refine CodeT.region (.p (opMove (.t rfl)) rfl <| .p (opAssign (.c _)) rfl <| .p (opAssign (.t rfl)) rfl <| .nil ?_)
    refine EndT.thenN ?_
    refine CodeT.ret (EndT.thenR (Post.retR rfl rfl (()) (by trivial) (pag_close (p := p) (a0 := a) (a := a) (s := s) (r := []) hRR hI.ok.ar (SameOut.refl _ _) ⟨⟨D, hDm, hDk, hI⟩, hG.sz, hG.cp, trivial⟩) rfl (.cons (.rt rfl) ?_ (.cons (.rt rfl) ?_ .nil))))
    · exact (sliceV_nil _ _).trans (VLe.of_eq (by rw [hrd]))
    · exact VLe.int (by rw [← hwr])
  ·
    have he0 : wrongG z (mem, page) at_ n = 0 := by (rw [← hwr]; omega)
    obtain ⟨hk1, hk2, hat, hn0, hsum⟩ := wrongG_ok he0
    have hrd : readG z C (mem, page) at_ n = ((C (mem, page)).drop at_.toNat).take n.toNat := by unfold readG; rw [if_pos he0]
    refine CodeT.skip (EndT.thenN ?_)
    refine CodeT.seq ?_
    refine CodeT.seq ?_
    refine CodeT.region (.p (opMove (.t rfl)) rfl <| .p (opLoadA Tryd.ag100 Tryd.cz100 rfl (.t rfl) rfl) rfl <| .n ((opCallE (rest := [_, _, _, _, _, _, _]) (pknown_spec (p := p) (k := (mem, page))) Tryd.cb42 (.cons (.t rfl) (.cons (.t rfl) .nil)) (Perm.idx [0, 2, 3, 1, 4, 5, 6, 7, 8, 9] rfl rfl)).same (fun _ _ => OLe.perm (Perm.idx [0, 3, 1, 2, 4, 5, 6, 7, 8, 9] rfl rfl)) (fun _ _ => VLe.refl _)) rfl <| fun _ _ => .p (opNot (.t rfl)) rfl <| .nil ?_)
    refine EndT.thenN ?_
    refine CodeT.cond (.t rfl) (fun c1 => ?_) (fun c1 => ?_)
    ·
      have hzr := hI.unknown c1
      have hlc := hI.lenC (mem, page)
      have hres : List.replicate n.toNat (0 : UInt8) = ((C (mem, page)).drop at_.toNat).take n.toNat := by (rw [zeros_rep hzr, List.drop_replicate, List.take_replicate]; congr 1; omega)
      refine CodeT.seq ?_
      refine CodeT.region (.p (opMove (.t rfl)) rfl <| .p (opMakeSh Tryd.underlying22 Tryd.cz5 Tryd.by5 Tryd.zb5 (.t rfl) (show n = ((n.toNat : Nat) : Int) by omega) (by omega)) rfl <| .p (opAssign (.t rfl)) rfl <| .p (opAssign (.c _)) rfl <| .nil ?_)
      refine EndT.thenN ?_
      refine CodeT.ret (EndT.thenR (Post.retR rfl rfl (()) (by trivial) (pag_close (p := p) (a0 := a) (a := a) (s := s) (r := []) hRR hI.ok.ar (SameOut.refl _ _) ⟨⟨D, hDm, hDk, hI⟩, hG.sz, hG.cp, trivial⟩) rfl (.cons (.rt rfl) ?_ (.cons (.rt rfl) ?_ .nil))))
      · exact VLe.of_eq (by rw [hres, hrd])
      · exact VLe.int (by rw [he0]; rfl)
    ·
      refine CodeT.skip (EndT.thenN ?_)
      refine CodeT.seq ?_
      refine CodeT.region (.p (opMove (.t rfl)) rfl <| .p (opLoadA Tryd.ag100 Tryd.cz100 rfl (.t rfl) rfl) rfl <| .n (opCallE (rest := [_]) (pwant_spec (p := p) (a := a) (s := s) (k := (mem, page)) hI) Tryd.cb44 (.cons (.t rfl) (.cons (.t rfl) .nil)) (Perm.idx [0, 1, 2, 3, 4, 5, 6, 7, 8, 9] rfl rfl)) rfl <| fun g36 h36 => .p (opMove (.t rfl)) rfl <| .p (opExtract (.t rfl) rfl) rfl <| .p (opExtract (.t rfl) rfl) rfl <| .p (opAssign (.t rfl)) rfl <| .p (opAssign (.t rfl)) rfl <| .nil ?_)
      refine EndT.thenN ?_
      obtain ⟨p5, a5, s5, i5⟩ := g36
      have hI5 := h36.inv
      obtain ⟨f5, hf5, hu5, hk5, hd5⟩ := h36.fr
      simp only at hf5 hI5
      have hi5 : i5 < X.n := by (rw [← hI5.ok.n]; exact (List.getElem?_eq_some_iff.1 hf5).1)
      have har5 := hI5.ok.ar
      have hz5 : s5.size = z := h36.size.trans hG.sz
      have hc5 : s5.cap = (q : Int) := h36.cap.trans hG.cp
      have hrm5 := hI5.ok.room f5 (List.mem_of_getElem? hf5)
      have hm5 := har5.most
      have hres : a5.get (f5.at_ + at_.toNat) n.toNat = ((C (mem, page)).drop at_.toNat).take n.toNat := by (have h9 := hI5.fr i5 f5 hf5 hu5; rw [hk5] at h9; rw [← h9]; exact get_get (by omega))
      refine CodeT.seq ?_
      refine CodeT.seq ?_
      refine CodeT.region (.p (opMove (.t rfl)) rfl <| .p (opNeq (.t rfl) (.c _)) rfl <| .nil ?_)
      refine EndT.thenN ?_
      refine CodeT.cond (.t rfl) (fun c2 => ?_) (fun c2 => ?_)
      ·
        exact absurd rfl c2
      ·
        refine CodeT.skip (EndT.thenN ?_)
        refine CodeT.seq ?_
        refine CodeT.staged [(0, 0), (1, 0), (2, 0), (3, 1), (4, 0), (5, 0), (6, 0), (7, 1), (8, 0), (9, 0), (10, 0), (11, 1), (12, 0), (13, 0), (14, 0), (15, 4), (16, 0), (17, 0)] 18 2 Tryd.mixed (by kernel_rfl) (.p rfl (fun _ => opMove (.t rfl)) <| .p rfl (fun _ => opNilChkO (.t rfl)) <| .p rfl (fun _ => opFieldO Tryd.fd96_0 (.t rfl)) <| .o rfl (opLoadO (i := 0) Tryd.ag24 (.t rfl) rfl rfl) <| .p rfl (fun _ => opMove (.t rfl)) <| .p rfl (fun _ => opNilChkO (.t rfl)) <| .p rfl (fun _ => opFieldO Tryd.fd96_2 (.t rfl)) <| .o rfl (opLoadO (i := 0) Tryd.ag94 (.t rfl) rfl rfl) <| .p rfl (fun _ => opMove (.t rfl)) <| .p rfl (fun _ => opIndexAddrW i5 Tryd.underlying94 Tryd.cz102 rfl (.t rfl) (.t rfl) rfl hi5) <| .p rfl (fun _ => opFieldO Tryd.fd102_0 (.t rfl)) <| .o rfl (opLoadW (i := 1) (r := 0) Tryd.ag3 (.t rfl) rfl hf5 rfl) <| .p rfl (fun _ => opMove (.t rfl)) <| .p rfl (fun _ => (opAddF (.t rfl) (.t rfl) (fits_i64 (by omega) (by omega))).le (VLe.int (show _ = ((f5.at_ + at_.toNat : Nat) : Int) by omega))) <| .p rfl (fun _ => (opMove (.t rfl)).le (VLe.int (show _ = ((n.toNat : Nat) : Int) by omega))) <| .a rfl ((opCallE (rest := [_, _, _, _, _, _]) (abytes_spec (X := X.Y) (a := a5) (at_ := f5.at_ + at_.toNat) (n := n.toNat) har5 (by omega)) Tryd.cb56 (.cons (.t rfl) (.cons (.t rfl) (.cons (.t rfl) .nil))) (Perm.idx [5, 6, 7, 8, 0, 1, 2, 3, 4, 9] rfl rfl)).same (fun _ _ => OLe.perm (Perm.idx [4, 5, 6, 7, 8, 0, 1, 2, 3, 9] rfl rfl)) (fun _ _ => VLe.refl _)) (fun _ _ => OLe.refl _) <| fun _ _ => .p rfl (fun _ => opExtract (.t rfl) rfl) <| .p rfl (fun _ => opExtract (.t rfl) rfl) <| .fin (.p (opAssign (.t rfl)) rfl <| .p (opAssign (.t rfl)) rfl <| .nil ?_))
        refine EndT.thenN ?_
        refine CodeT.ret (Post.retR rfl rfl (()) (by trivial) (pag_close (p := p5) (a0 := a) (a := a5) (s := s5) (r := []) hRR hI.ok.ar h36.out ⟨⟨D, hDm, hDk, hI5⟩, hz5, hc5, trivial⟩) rfl (.cons (.rt rfl) ?_ (.cons (.rt rfl) ?_ .nil)))
        · exact VLe.of_eq (by rw [hres, hrd])
        · exact VLe.int (by rw [he0]; rfl)

theorem pwrite_spec {X : PgI} {z q m : Nat} {T : PgD → Prop} {C : Cont} {R : ArD → HP} {mem page at_ : Int} {ys : List UInt8} (hp0 : m + 1 ≤ q) (hp1 : page ≤ 9223372036854775807) (hp2 : RestOk X R) : FnE Tryd.prog 15 [addrV X.pb 0, i64V mem, i64V page, i64V at_, sliceV 1 encU8 ys] [pagH X z q T C m R] (γ := Unit) (fun _ => True) (fun _ => [pagH X z q (fun _ => True) (writeG z C (mem, page) at_ ys) (m + 1) R]) (fun _ => i64V (wrongG z (mem, page) at_ (ys.length : Int) : Int)) := by
  refine FnE.intro 69 Tryd.func15 rfl rfl rfl fun w0 S0 M => ?_
  refine CodeT.openG fun p a s hG => ?_
  obtain ⟨D, hDm, hDk, hI⟩ := hG.ex
  have hsz := hI.ok.st.size
  have hgz := hG.sz
  have hRR := hp2
  have hgc := hG.cp
  have hwr := hG.wrong (mem, page) at_ (ys.length : Int)
  have hI1 := hI.less (D' := (mem, page) :: D) (fun k hk => List.mem_cons_of_mem _ hk) (by (simp only [List.length_cons]; omega))
  have hD1 : ((mem, page) :: D).length ≤ m + 1 := by (simp only [List.length_cons]; omega)
  refine CodeT.seq ?_
  refine CodeT.region (.p (opAssign (.c _)) rfl <| .nil ?_)
  refine EndT.thenN ?_
  refine CodeT.seq ?_
  refine CodeT.region (.p (opMove (.t rfl)) rfl <| .p (opMove (.t rfl)) rfl <| .p (opBuild Tryd.pl100 Tryd.zb100 (.cons (.t rfl) (.cons (.t rfl) .nil)) rfl) rfl <| .n (opAlloc Tryd.zb100) rfl <| fun b11 _ => .s (opStoreOA (i := 0) Tryd.cz100 rfl (.t rfl) (.t rfl) rfl rfl rfl) <| .nil ?_)
  refine EndT.thenN ?_
  refine CodeT.share (t := 11) (i := 0) rfl rfl ?_
  refine CodeT.seq ?_
  refine CodeT.seq ?_
  refine CodeT.region (.p (opMove (.t rfl)) rfl <| .p (opLoadA Tryd.ag100 Tryd.cz100 rfl (.t rfl) rfl) rfl <| .p (opMove (.t rfl)) rfl <| .p (opMove (.t rfl)) rfl <| .p (opLen rfl Tryd.underlying22 (.t rfl)) rfl <| .n ((opCallE (rest := [_, _, _, _, _, _, _, _]) (pwrong_spec (p := p) (s := s) (k := (mem, page)) (at_ := at_) (n := (ys.length : Int)) (by omega)) Tryd.cb41 (.cons (.t rfl) (.cons (.t rfl) (.cons (.t rfl) (.cons (.t rfl) .nil)))) (Perm.idx [0, 4, 1, 2, 3, 5, 6, 7, 8, 9] rfl rfl)).same (fun _ _ => OLe.perm (Perm.idx [0, 2, 3, 4, 1, 5, 6, 7, 8, 9] rfl rfl)) (fun _ _ => VLe.refl _)) rfl <| fun _ _ => .p (opAssign (.t rfl)) rfl <| .nil ?_)
  refine EndT.thenN ?_
  refine CodeT.seq ?_
  refine CodeT.region (.p (opMove (.t rfl)) rfl <| .p (opNeq (.t rfl) (.c _)) rfl <| .nil ?_)
  refine EndT.thenN ?_
  refine CodeT.cond (.t rfl) (fun c0 => ?_) (fun c0 => ?_)
  ·
    have hne : wrongG z (mem, page) at_ (ys.length : Int) ≠ 0 := by (rw [← hwr]; omega)
    have hwg : writeG z C (mem, page) at_ ys = C := by unfold writeG; rw [if_neg hne]
    refine CodeT.seq ?_
    refine CodeT.region (.p (opMove (.t rfl)) rfl <| .p (opAssign (.t rfl)) rfl <| .nil ?_)
    refine EndT.thenN ?_
    refine CodeT.ret (EndT.thenR (Post.retR1 rfl (()) (by trivial) (pag_close (p := p) (a0 := a) (a := a) (s := s) (r := []) hRR hI.ok.ar (SameOut.refl _ _) ⟨⟨D, Nat.le_succ_of_le hDm, hDk, (by rw [hwg]; exact hI)⟩, hG.sz, hG.cp, trivial⟩) (.rt rfl) ?_))
    exact VLe.int (by rw [← hwr])
  ·
    have he0 : wrongG z (mem, page) at_ (ys.length : Int) = 0 := by (rw [← hwr]; omega)
    obtain ⟨hk1, hk2, hat, hn0, hsum⟩ := wrongG_ok he0
    have hDk1 : ∀ k ∈ (mem, page) :: D, keyOk k := fun k hk => (List.mem_cons.1 hk).elim (fun e => e ▸ ⟨hk1, hk2, hp1⟩) (hDk k)
    have hwg : writeG z C (mem, page) at_ ys = updC C (mem, page) (spl (C (mem, page)) at_.toNat ys) := by unfold writeG; rw [if_pos he0]
    refine CodeT.skip (EndT.thenN ?_)
    refine CodeT.seq ?_
    refine CodeT.seq ?_
    refine CodeT.region (.p (opMove (.t rfl)) rfl <| .p (opLoadA Tryd.ag100 Tryd.cz100 rfl (.t rfl) rfl) rfl <| .n ((opCallE (rest := [_, _, _, _, _, _, _]) (pknown_spec (p := p) (k := (mem, page))) Tryd.cb42 (.cons (.t rfl) (.cons (.t rfl) .nil)) (Perm.idx [0, 2, 3, 1, 4, 5, 6, 7, 8, 9] rfl rfl)).same (fun _ _ => OLe.perm (Perm.idx [0, 3, 1, 2, 4, 5, 6, 7, 8, 9] rfl rfl)) (fun _ _ => VLe.refl _)) rfl <| fun _ _ => .p (opNot (.t rfl)) rfl <| .p (opMove (.t rfl)) rfl <| .g (OpG.gT rfl rfl rfl rfl (fun hg => opMove (.t rfl))) rfl rfl <| .g (OpG.gT rfl rfl rfl rfl (fun hg => opCall (pempty_spec) Tryd.cb43 (.cons (.when (.t rfl) hg) .nil))) rfl rfl <| .p (opAnd (.t rfl) (.t rfl)) rfl <| .nil ?_)
    refine EndT.thenN ?_
    refine CodeT.cond (.t rfl) (fun c1 => ?_) (fun c1 => ?_)
    ·
      have hzr := hI.unknown c1.1
      have hlc := hI.lenC (mem, page)
      have hsame : updC C (mem, page) (spl (C (mem, page)) at_.toNat ys) = C := updC_same (spl_zero hzr c1.2 (by omega))
      refine CodeT.seq ?_
      refine CodeT.region (.p (opAssign (.c _)) rfl <| .nil ?_)
      refine EndT.thenN ?_
      refine CodeT.ret (EndT.thenR (Post.retR1 rfl (()) (by trivial) (pag_close (p := p) (a0 := a) (a := a) (s := s) (r := []) hRR hI.ok.ar (SameOut.refl _ _) ⟨⟨(mem, page) :: D, hD1, hDk1, (by rw [hwg, hsame]; exact hI1)⟩, hG.sz, hG.cp, trivial⟩) (.rt rfl) ?_))
      exact VLe.int (by rw [he0]; rfl)
    ·
      refine CodeT.skip (EndT.thenN ?_)
      refine CodeT.seq ?_
      refine CodeT.region (.p (opMove (.t rfl)) rfl <| .p (opLoadA Tryd.ag100 Tryd.cz100 rfl (.t rfl) rfl) rfl <| .n (opCallE (rest := [_]) (pwant_spec (p := p) (a := a) (s := s) (k := (mem, page)) hI1) Tryd.cb44 (.cons (.t rfl) (.cons (.t rfl) .nil)) (Perm.idx [0, 1, 2, 3, 4, 5, 6, 7, 8, 9] rfl rfl)) rfl <| fun g38 h38 => .p (opMove (.t rfl)) rfl <| .p (opExtract (.t rfl) rfl) rfl <| .p (opExtract (.t rfl) rfl) rfl <| .p (opAssign (.t rfl)) rfl <| .p (opAssign (.t rfl)) rfl <| .nil ?_)
      refine EndT.thenN ?_
      obtain ⟨p5, a5, s5, i5⟩ := g38
      have hI5 := h38.inv
      obtain ⟨f5, hf5, hu5, hk5, hd5⟩ := h38.fr
      simp only at hf5 hI5
      have hi5 : i5 < X.n := by (rw [← hI5.ok.n]; exact (List.getElem?_eq_some_iff.1 hf5).1)
      have har5 := hI5.ok.ar
      have hz5 : s5.size = z := h38.size.trans hG.sz
      have hc5 : s5.cap = (q : Int) := h38.cap.trans hG.cp
      have hrm5 := hI5.ok.room f5 (List.mem_of_getElem? hf5)
      have hm5 := har5.most
      have hset5 := set_here (x := { f5 with dirty := true }) hf5
      have hI6 := hI5.write hf5 hu5 (o := at_.toNat) (ys := ys) (by omega) (by rw [hk5]; exact List.mem_cons_self)
      have hup : updC C f5.k (spl (C f5.k) at_.toNat ys) = updC C (mem, page) (spl (C (mem, page)) at_.toNat ys) := by rw [hk5]
      rw [hup] at hI6
      refine CodeT.seq ?_
      refine CodeT.seq ?_
      refine CodeT.region (.p (opMove (.t rfl)) rfl <| .p (opNeq (.t rfl) (.c _)) rfl <| .nil ?_)
      refine EndT.thenN ?_
      refine CodeT.cond (.t rfl) (fun c2 => ?_) (fun c2 => ?_)
      ·
        exact absurd rfl c2
      ·
        refine CodeT.skip (EndT.thenN ?_)
        refine CodeT.seq ?_
        refine CodeT.region (.p (opMove (.t rfl)) rfl <| .p (opNilChkO (.t rfl)) rfl <| .p (opFieldO Tryd.fd96_2 (.t rfl)) rfl <| .p (opLoadO (i := 0) Tryd.ag94 (.t rfl) rfl rfl) rfl <| .p (opMove (.t rfl)) rfl <| .p (opIndexAddrW i5 Tryd.underlying94 Tryd.cz102 rfl (.t rfl) (.t rfl) rfl hi5) rfl <| .p (opFieldO Tryd.fd102_4 (.t rfl)) rfl <| .s (opStoreW (i := 1) (r := 5) { f5 with dirty := true } rfl Tryd.cz4 (.t rfl) .ct rfl hf5 rfl rfl) <| .nil ?_)
        refine EndT.thenN ?_
        refine CodeT.seq ?_
        refine CodeT.draw 15 2 Tryd.mixed (by kernel_rfl) (.p (opMove (.t rfl)) <| .p (opNilChkO (.t rfl)) <| .p (opFieldO Tryd.fd96_0 (.t rfl)) <| .p (opLoadO (i := 0) Tryd.ag24 (.t rfl) rfl rfl) <| .p (opMove (.t rfl)) <| .p (opNilChkO (.t rfl)) <| .p (opFieldO Tryd.fd96_2 (.t rfl)) <| .p (opLoadO (i := 0) Tryd.ag94 (.t rfl) rfl rfl) <| .p (opMove (.t rfl)) <| .p (opIndexAddrW i5 Tryd.underlying94 Tryd.cz102 rfl (.t rfl) (.t rfl) rfl hi5) <| .p (opFieldO Tryd.fd102_0 (.t rfl)) <| .p (OpP.le (opLoadW (i := 1) (r := 0) Tryd.ag3 (.t rfl) rfl hset5 rfl) (VLe.refl (i64V (f5.at_ : Int)))) <| .p (opMove (.t rfl)) <| .p ((opAddF (.t rfl) (.t rfl) (fits_i64 (by omega) (by omega))).le (VLe.int (show _ = ((f5.at_ + at_.toNat : Nat) : Int) by omega))) <| .p (opMove (.t rfl)) <| .nil) (.n (opCallE (rest := [_, _, _, _, _, _]) (acopy_spec (X := X.Y) (a := a5) (at_ := f5.at_ + at_.toNat) (ys := ys) har5 (by omega)) Tryd.cb46 (.cons (.t rfl) (.cons (.t rfl) (.cons (.t rfl) .nil))) (Perm.idx [5, 6, 7, 8, 0, 1, 2, 3, 4, 9] rfl rfl)) rfl <| fun g68 h68 => .p (opAssign (.t rfl)) rfl <| .nil ?_)
        refine EndT.thenN ?_
        refine CodeT.ret (Post.retR1 rfl (()) (by trivial) (OLe.trans (OLe.perm (Perm.idx [4, 5, 6, 7, 8, 0, 1, 2, 3, 9] rfl rfl)) (pag_close (p := { p5 with l := p5.l.set i5 { f5 with dirty := true } }) (a0 := a) (a := a5.put (f5.at_ + at_.toNat) ys) (s := s5) (r := []) hRR hI.ok.ar (h38.out.trans (SameOut.put (by omega) (by omega) (by omega))) ⟨⟨(mem, page) :: D, hD1, hDk1, (by rw [hwg]; exact hI6)⟩, hz5, hc5, trivial⟩)) (.rt rfl) ?_)
        exact VLe.int (by rw [he0]; rfl)

theorem pflush_spec {X : PgI} {z q m : Nat} {T : PgD → Prop} {C : Cont} {R : ArD → HP} (hp0 : RestOk X R) : FnE Tryd.prog 16 [addrV X.pb 0] [pagH X z q T C m R] (γ := Unit) (fun _ => True) (fun _ => [pagH X z q cleanP C m R]) (fun _ => i64V 0) := by
  refine FnE.intro 24 Tryd.func16 rfl rfl rfl fun w0 S0 M => ?_
  refine CodeT.openG fun p a s hG => ?_
  obtain ⟨D, hDm, hDk, hI⟩ := hG.ex
  have hsz := hI.ok.st.size
  have hgz := hG.sz
  have hRR := hp0
  have hns : ¬ stopsP p := fun e => e.elim (fun e => by (rw [hI.opn.2] at e; cases e)) (fun e => e hI.opn.1)
  have hXn := hI.ok.most
  refine CodeT.seq ?_
  refine CodeT.region (.p (opAssign (.c _)) rfl <| .nil ?_)
  refine EndT.thenN ?_
  refine CodeT.seq ?_
  refine CodeT.seq ?_
  refine CodeT.region (.p (opMove (.t rfl)) rfl <| .n ((opCallE (rest := [_, _, _, _, _, _, _, _, _]) (pstops_spec) Tryd.cb47 (.cons (.t rfl) .nil) (Perm.idx [0, 1, 2, 3, 4, 5, 6, 7, 8, 9] rfl rfl)).same (fun _ _ => OLe.refl _) (fun _ _ => VLe.refl _)) rfl <| fun _ _ => .nil ?_)
  refine EndT.thenN ?_
  refine CodeT.cond (.t rfl) (fun c0 => ?_) (fun c0 => ?_)
  ·
    exact absurd c0 hns
  ·
    refine CodeT.skip (EndT.thenN ?_)
    refine CodeT.seq ?_
    refine CodeT.seq ?_
    refine CodeT.region (.p (opMove (.t rfl)) rfl <| .p (opNilChkO (.t rfl)) rfl <| .p (opFieldO Tryd.fd96_2 (.t rfl)) rfl <| .p (opLoadO (i := 0) Tryd.ag94 (.t rfl) rfl rfl) rfl <| .p (opLenW rfl Tryd.underlying94 (.t rfl)) rfl <| .p (opMove (.c _)) rfl <| .nil ?_)
    refine EndT.thenN ?_
    refine CodeT.block ?_
    refine CodeT.loopO (σ := PgD × StD × Nat) (fun g => pagL X g.1 a g.2.1 ++ [R a]) (fun g => [(12, i64V (g.2.2 : Int))]) (fun g => Inv X g.1 a g.2.1 C D ∧ g.2.1.size = s.size ∧ g.2.1.cap = s.cap ∧ g.2.2 ≤ X.n ∧ ∀ (j : Nat) (f : Fr), j < g.2.2 → g.1.l[j]? = some f → f.used = true → f.dirty = false) (fun g => X.n - g.2.2) (p, s, 0) ⟨hI, rfl, rfl, Nat.zero_le _, fun j f hj => absurd hj (Nat.not_lt_zero _)⟩ rfl ?_ ?_
    · exact (.get rfl (VLe.refl _) (.refl _ _))
    · rintro ⟨p1, s1, i1⟩ ⟨hI1, hz1, hc1, hi1, hcl1⟩
      simp only at hI1 hz1 hc1 hi1 hcl1 ⊢
      refine CodeT.seq ?_
      refine CodeT.region (.p (opLss (.t rfl) (.t rfl)) rfl <| .nil ?_)
      refine EndT.thenN ?_
      refine CodeT.seq ?_
      refine CodeT.cond (.t rfl) (fun c1 => ?_) (fun c1 => ?_)
      ·
        have hil : i1 < X.n := by omega
        obtain ⟨fr, hfr⟩ := getElem?_lt' (xs := p1.l) (k := i1) (by (rw [hI1.ok.n]; omega))
        refine CodeT.skip (EndT.thenN ?_)
        refine CodeT.seq ?_
        refine CodeT.block ?_
        refine CodeT.seq ?_
        refine CodeT.region (.p (opMove (.t rfl)) rfl <| .p (opAssign (.t rfl)) rfl <| .nil ?_)
        refine EndT.thenN ?_
        refine CodeT.seq ?_
        refine CodeT.region (.p (opMove (.t rfl)) rfl <| .p (opMove (.t rfl)) rfl <| .n (opCallE (rest := [_, _]) (psave_spec (p := p1) (a := a) (s := s1) (i := i1) hI1.ok hfr) Tryd.cb48 (.cons (.t rfl) (.cons (.t rfl) .nil)) (Perm.idx [0, 1, 3, 4, 5, 6, 7, 8, 2, 9] rfl rfl)) rfl <| fun g17 h17 => .p (opAssign (.t rfl)) rfl <| .nil ?_)
        refine EndT.thenN ?_
        have hsv := hI1.save hfr h17
        obtain ⟨⟨l2, hd2, inm2, bm2, f2, cl2⟩, s2, e2⟩ := g17
        obtain ⟨he2, hI2, hsf, hz2, hc2⟩ := hsv
        simp only at he2 hI2 hz2 hc2
        subst he2
        obtain ⟨⟨fr2, hl2, ha2, hk2, hu2, hd2c⟩, hin2⟩ := hsf
        simp only at hl2 hin2
        subst hin2
        have hfr2 : l2[i1]? = some fr2 := by rw [hl2]; exact set_here hfr
        have hcl2 : ∀ (j : Nat) (f : Fr), j < i1 + 1 → l2[j]? = some f → f.used = true → f.dirty = false := fun j f hj hjf huf => by (rw [hl2] at hjf; rcases set_get hjf with ⟨rfl, rfl⟩ | ⟨hne, hjf⟩; (exact hd2c huf); (exact hcl1 j f (by omega) hjf huf))
        refine CodeT.seq ?_
        refine CodeT.region (.p (opMove (.t rfl)) rfl <| .p (opNeq (.t rfl) (.c _)) rfl <| .nil ?_)
        refine EndT.thenN ?_
        refine CodeT.cond (.t rfl) (fun c2 => ?_) (fun c2 => ?_)
        ·
          exact absurd rfl c2
        ·
          refine CodeT.skip (EndT.blkN (EndT.thenN ?_))
          refine CodeT.region (.p (opAddF (.t rfl) (.c _) (fits_i64 (by omega) (by omega))) rfl <| .p (opMove (.t rfl)) rfl <| .nil ?_)
          refine EndT.own (OLe.perm (Perm.idx [0, 1, 8, 2, 3, 4, 5, 6, 7, 9] rfl rfl)) (EndT.round (⟨l2, hd2, p1.inm, bm2, f2, cl2⟩, s2, i1 + 1) ⟨hI2, hz2.trans hz1, hc2.trans hc1, by (show i1 + 1 ≤ X.n; omega), hcl2⟩ (by (show X.n - (i1 + 1) < X.n - i1; omega)) rfl ?_)
          exact (.get rfl (VLe.int (by (show (i1 : Int) + 1 = ((i1 + 1 : Nat) : Int); omega))) ((.keep 12 rfl rfl)))
      ·
        refine CodeT.exit (EndT.thenX (EndT.thenX (EndT.blkX (EndT.thenN ?_))))
        refine CodeT.seq ?_
        refine CodeT.region (.p (opAssign (.c _)) rfl <| .nil ?_)
        refine EndT.thenN ?_
        refine CodeT.ret (Post.retR1 rfl (()) (by trivial) (pag_close (p := p1) (a0 := a) (a := a) (s := s1) (r := []) hRR hI.ok.ar (SameOut.refl _ _) ⟨⟨D, hDm, hDk, hI1⟩, hz1.trans hG.sz, hc1.trans hG.cp, (fun j f hj hu => hcl1 j f (by (have h8 := (List.getElem?_eq_some_iff.1 hj).1; have h9 := hI1.ok.n; omega)) hj hu)⟩) (.rt rfl) ?_)
        first | exact VLe.refl _ | exact VLe.int (by omega) | exact VLe.prop (by omega) | exact VLe.prop (by simp_all) | exact VLe.prop (by simp; omega)

theorem president_spec {X : PgI} {z q m : Nat} {T : PgD → Prop} {C : Cont} {R : ArD → HP} (hp0 : RestOk X R) : FnE Tryd.prog 37 [addrV X.pb 0] [pagH X z q T C m R] (γ := Nat) (fun r => r ≤ X.n) (fun _ => [pagH X z q T C m R]) (fun r => i64V (r : Int)) := by
  refine FnE.intro 16 Tryd.func37 rfl rfl rfl fun w0 S0 M => ?_
  refine CodeT.openG fun p a s hG => ?_
  obtain ⟨D, hDm, hDk, hI⟩ := hG.ex
  have hsz := hI.ok.st.size
  have hgz := hG.sz
  have hRR := hp0
  have hcf : ¬ BP p.closed := fun e => by (have h9 := (BP_iff _).1 e; rw [hI.opn.2] at h9; cases h9)
  refine CodeT.seq ?_
  refine CodeT.region (.p (opAssign (.c _)) rfl <| .nil ?_)
  refine EndT.thenN ?_
  refine CodeT.seq ?_
  refine CodeT.seq ?_
  refine CodeT.region (.p (opMove (.t rfl)) rfl <| .p (opEqlNilO Tryd.underlying31 (.t rfl)) rfl <| .p (opMove (.t rfl)) rfl <| .g (OpG.gF rfl rfl rfl rfl (fun hg => opMove (.t rfl))) rfl rfl <| .g (OpG.gF rfl rfl rfl rfl (fun hg => opNilChkO (.when (.t rfl) hg))) rfl rfl <| .g (OpG.gF rfl rfl rfl rfl (fun hg => opFieldO Tryd.fd96_7 (.when (.t rfl) hg))) rfl rfl <| .g (OpG.gF rfl rfl rfl rfl (fun hg => opLoadO (i := 0) Tryd.ag4 (.when (.t rfl) hg) rfl rfl)) rfl rfl <| .p (opOr (.t rfl) (.t rfl)) rfl <| .nil ?_)
  refine EndT.thenN ?_
  refine CodeT.cond (.t rfl) (fun c0 => ?_) (fun c0 => ?_)
  ·
    exact (hcf (c0.elim False.elim id)).elim
  ·
    refine CodeT.skip (EndT.thenN ?_)
    refine CodeT.seq ?_
    refine CodeT.region (.p (opMove (.t rfl)) rfl <| .p (opNilChkO (.t rfl)) rfl <| .p (opFieldO Tryd.fd96_4 (.t rfl)) rfl <| .p (opLoadO (i := 0) Tryd.ag93 (.t rfl) rfl rfl) rfl <| .p (opLenM (i := 2) rfl Tryd.underlying93 (.t rfl) rfl) rfl <| .p (opAssign (.t rfl)) rfl <| .nil ?_)
    refine EndT.thenN ?_
    refine CodeT.ret (Post.retR1 rfl (p.inm.length) (by exact hI.resident) (pag_close (p := p) (a0 := a) (a := a) (s := s) (r := []) hRR hI.ok.ar (SameOut.refl _ _) ⟨⟨D, hDm, hDk, hI⟩, hG.sz, hG.cp, hG.cln⟩) (.rt rfl) ?_)
    first | exact VLe.refl _ | exact VLe.int (by omega) | exact VLe.prop (by omega) | exact VLe.prop (by simp_all) | exact VLe.prop (by simp; omega)

theorem pfault_spec {X : PgI} {z q m : Nat} {T : PgD → Prop} {C : Cont} {R : ArD → HP} (hp0 : RestOk X R) : FnE Tryd.prog 34 [addrV X.pb 0] [pagH X z q T C m R] (γ := Unit) (fun _ => True) (fun _ => [pagH X z q T C m R]) (fun _ => i64V 0) := by
  refine FnE.intro 9 Tryd.func34 rfl rfl rfl fun w0 S0 M => ?_
  refine CodeT.openG fun p a s hG => ?_
  obtain ⟨D, hDm, hDk, hI⟩ := hG.ex
  have hsz := hI.ok.st.size
  have hgz := hG.sz
  have hRR := hp0
  refine CodeT.seq ?_
  refine CodeT.region (.p (opAssign (.c _)) rfl <| .nil ?_)
  refine EndT.thenN ?_
  refine CodeT.seq ?_
  refine CodeT.seq ?_
  refine CodeT.region (.p (opMove (.t rfl)) rfl <| .p (opEqlNilO Tryd.underlying31 (.t rfl)) rfl <| .nil ?_)
  refine EndT.thenN ?_
  refine CodeT.cond (.t rfl) (fun c0 => ?_) (fun c0 => ?_)
  ·
    exact c0.elim
  ·
    refine CodeT.skip (EndT.thenN ?_)
    refine CodeT.seq ?_
    refine CodeT.region (.p (opMove (.t rfl)) rfl <| .p (opNilChkO (.t rfl)) rfl <| .p (opFieldO Tryd.fd96_6 (.t rfl)) rfl <| .p (opLoadO (i := 0) Tryd.ag25 (.t rfl) rfl rfl) rfl <| .p (opAssign (.t rfl)) rfl <| .nil ?_)
    refine EndT.thenN ?_
    refine CodeT.ret (Post.retR1 rfl (()) (by trivial) (pag_close (p := p) (a0 := a) (a := a) (s := s) (r := []) hRR hI.ok.ar (SameOut.refl _ _) ⟨⟨D, hDm, hDk, hI⟩, hG.sz, hG.cp, hG.cln⟩) (.rt rfl) ?_)
    exact VLe.int (by rw [hI.opn.1]; rfl)

end Go.Proofs.YtiicgelmdmhajaaDoor
