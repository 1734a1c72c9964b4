/-
  What the statement's proof leans on, several texts in one (packed by a program).
-/
import Derived.Test.YtpfobikpggmleaaGreatDoorSAT
set_option linter.all false
set_option maxRecDepth 1000000
set_option maxHeartbeats 4000000
section
namespace Go.Hl
open Go.RowKit
def bg (s:dw) (base:Int):List VP:=[ai 1 aj s.1,aq s.2,ag .i64 base]
instance (s:dw) (base:Int):bE (bg s base):=⟨fun q h=>by simp only [bg,List.mem_cons,List.not_mem_nil,or_false] at h;rcases h with h|h|h<;>subst h<;>infer_instance⟩
def pZ (p:Prop):List VP:=[aq p]
instance:hU 1 pZ:=⟨fun _=>rfl,fun x q h=>by simp only [pZ,List.mem_cons,List.not_mem_nil,or_false] at h;subst h;infer_instance⟩
def eB (v:om):List VP:=[ai 2 cu v.ay,ai 2 cu v.bR,ai 1 pZ v.bN,ai 1 aj v.an,ai 1 pZ v.fD,aq v.Table,ai 1 aj v.cS.P,ai 1 aj v.cS.R,ai 1 aj v.aV]
instance (v:om):bE (eB v):=⟨fun q h=>by simp only [eB,List.mem_cons,List.not_mem_nil,or_false] at h;rcases h with h|h|h|h|h|h|h|h|h<;>subst h<;>infer_instance⟩
instance {cs:List VP} {q:VP} {n:Nat} [h:bE cs] [h2:Flat q]:bE (cs.set n q):=⟨fun p hp=>(List.mem_or_eq_of_mem_set hp).elim (h.flat p) (fun e=>e▸h2)⟩
def plR (o:Option dw) (g:dw×Int):Prop:=(g.2=0∧o=some g.1)∨(g.2≠0∧o=none)
def Qq (s:dw) (l:List UInt8) (g:dw×Int):Prop:=plR (cQ s l) g∧g.1.1.length≤s.1.length
def PO (s:dw) (w:UInt8) (g:dw×UInt8×Int):Prop:=((g.2.2=0∧jh s w=some (g.1,g.2.1))∨(g.2.2≠0∧jh s w=none))∧g.1.1.length≤s.1.length
variable {s:dw} {g:dw×Int} {l:List UInt8}
theorem Qq.ok (h:Qq s l g) (he:g.2=0):cQ s l=some g.1:=h.1.elim (fun h=>h.2) (fun h=>absurd he h.1)
theorem Qq.no (h:Qq s l g) (he:g.2≠0):cQ s l=none:=h.1.elim (fun h=>absurd h.1 he) (fun h=>h.2)
variable {w:UInt8}
theorem PO.ok {g:dw×UInt8×Int} (h:PO s w g) (he:g.2.2=0):jh s w=some (g.1,g.2.1):=h.1.elim (fun h=>h.2) (fun h=>absurd he h.1)
theorem PO.no {g:dw×UInt8×Int} (h:PO s w g) (he:g.2.2≠0):jh s w=none:=h.1.elim (fun h=>absurd h.1 he) (fun h=>h.2)
variable {i:List UInt8}
theorem Xq {o:List UInt8} (h:Qq s i g):plR (pS s i o) (bC g.1 o,g.2):=by
 unfold pS
 rcases h.1 with ⟨h1,h2⟩|⟨h1,h2⟩
 · exact .inl ⟨h1,by rw [h2];rfl⟩
 · exact .inr ⟨h1,by rw [h2];rfl⟩
def yt (s:dw) (o:Option dw) (g:dw×Int):Prop:=plR o g∧g.1.1.length≤s.1.length+20
theorem ei {o:Option dw} {t:dw} {e:Int} (he:e≠0) (h:o=none) (hl:t.1.length≤s.1.length+20):yt s o (t,e):=⟨.inr ⟨he,h⟩,hl⟩
theorem uB {o:Option dw} {t:dw} (h:o=some t) (hl:t.1.length≤s.1.length+20):yt s o (t,0):=⟨.inl ⟨rfl,h⟩,hl⟩
theorem qP {o:List UInt8} {p:Option dw} (hp:p=pS s i o) (h:Qq s i g) (ho:o.length≤20):yt s p (bC g.1 o,g.2):=
 ⟨by rw [hp];exact Xq h,by have:=h.2;simp only [bC,List.length_append];omega⟩
theorem PR {p:Option dw} (hp:p=cQ s i) (h:Qq s i g):yt s p g:=⟨by rw [hp];exact h.1,by have:=h.2;omega⟩
theorem xk (s:dw) (l:List UInt8) (t:UInt8):cQ s (l++[t])=(cQ s [t]).bind fun p=>cQ p l:=by
 rw [jl,gq];cases jh s t<;>rfl
theorem uC {w:Prop} (h:w):bS w=126:=if_pos h
theorem uD {w:Prop} (h:¬w):bS w=127:=if_neg h
theorem am9 {k:Nat} (h:k≤31):(0:Int)<2^k∧(2:Int)^k≤2147483648:=by
 have h1:(2:Int)^k=((2^k:Nat):Int):=by norm_cast
 have h2:2^k≤2^31:=Nat.pow_le_pow_right (by decide) h
 have h3:0<2^k:=Nat.two_pow_pos k
 rw [h1];omega
structure Jy (v:om):Prop where
 F:v.ay.length≤60000
 S:v.bR.length≤60000
 L:v.aV.length≤60000
 G:v.an.length≤60000
 W:v.bN.length≤60000
 mu:v.fD.length=v.an.length
 sf:∀g∈v.ay,g.P.length≤20∧g.R.length≤20
 ss:∀g∈v.bR,g.P.length≤20∧g.R.length≤20
 own:v.cS.R.length≤20
structure o7 (v:om) (x:aA) (s:dw) (labs:List (List UInt8)):Prop where
 env:Jy v
 ins:mT x
 stk:s.1.length≤50000
 Ch:labs.length≤60000
 lbw:∀w∈labs,w.length≤20
variable {n:Int}
theorem iT {α:Type} {L:List α} (h0:0≤n) (h:¬n≥(L.length:Int)):∃w,ec L n=some w∧L[n.toNat]?=some w:=vz h0 (by omega)
theorem vO {L:List (List UInt8)} (h0:0≤n) (h:¬n≥(L.length:Int)):∃w,jj L n=some w∧L[L.length-1-n.toNat]?=some w:=FN h0 (by omega)
theorem jH {α:Type} {L:List α} (h:n≥(L.length:Int)):ec L n=none:=vA (by omega)
theorem vP {L:List (List UInt8)} (h:n≥(L.length:Int)):jj L n=none:=B4 (by omega)
theorem Sa {d:Prop} {g:UInt8} (h:(((g.toNat:Int)≠0)∧((w.toNat:Int)≠0))∧((g.toNat:Int)≠(w.toNat:Int))):jh (l++[g],d) w=none:=
 xY fun e=>by
  obtain ⟨⟨h1,h2⟩,h3⟩:=h
  rcases e with e|e|e
  · exact h3 (by rw [e])
  · exact h1 (by rw [e];rfl)
  · exact h2 (by rw [e];rfl)
theorem GF {d:Prop} {g:UInt8} (h:¬((((g.toNat:Int)≠0)∧((w.toNat:Int)≠0))∧((g.toNat:Int)≠(w.toNat:Int)))):jh (l++[g],d) w=some ((l,d),if g=0 then w else g):=by
 refine Ag (Classical.byContradiction fun e=>h ⟨⟨fun h1=> ?_,fun h1=> ?_⟩,fun h1=> ?_⟩)
 · exact e (.inr (.inl ((oG g).1 h1)))
 · exact e (.inr (.inr ((oG w).1 h1)))
 · exact e (.inl (BQ.1 h1))
end Go.Hl
end
section
namespace Go.Proofs.YtpfobikpggmleaaGreatDoor
open Go.Hl Go.RowKit
variable {code:Int}
theorem Jz:cW Tryz.prog 131 [ag .i64 code] (cZ (ji code)):=by
 refine In 20 Tryz.func131 fun _ _ _=> ?_
 refine Z2 ?_
 refine .p (bh (.s [] rfl rfl)) rfl ?_
 refine nZ ?_
 refine Cd (fun c0=> ?_) fun c0=> ?_
 ·
  refine Z2 ?_
  refine .p (bh (.s [109,101,109,111,114,121,46,99,111,112,121] rfl rfl)) rfl ?_
  refine Z5 ?_
  refine bL ?_
  exact af.of_eq (by unfold ji;rw [if_pos c0])
 refine Z6 ?_
 refine Cd (fun c1=> ?_) fun c1=> ?_
 ·
  refine Z2 ?_
  refine .p (bh (.s [109,101,109,111,114,121,46,102,105,108,108] rfl rfl)) rfl ?_
  refine Z5 ?_
  refine bL ?_
  exact af.of_eq (by unfold ji;rw [if_neg c0,if_pos c1])
 refine iW ?_
 refine Cd (fun c2=> ?_) fun c2=> ?_
 ·
  refine Z2 ?_
  refine .p (bh (.s [] rfl rfl)) rfl ?_
  refine Z4 ?_
  refine bL ?_
  exact af.of_eq (by unfold ji;rw [if_neg c0,if_neg c1,if_pos c2])
 refine Z4 ?_
 refine .p (bF (enc:=jV) z6 FU.out FC.out rfl FZ.out rfl (.cons (.s [117,110,114,101,97,99,104,97,98,108,101] rfl rfl) (.cons (.s [110,111,112] rfl rfl) (.cons (.s [98,108,111,99,107] rfl rfl) (.cons (.s [108,111,111,112] rfl rfl) (.cons (.s [105,102] rfl rfl) (.cons (.s [101,108,115,101] rfl rfl) (.cons (.s [] rfl rfl) (.cons (.s [] rfl rfl) (.cons (.s [] rfl rfl) (.cons (.s [] rfl rfl) (.cons (.s [] rfl rfl) (.cons (.s [101,110,100] rfl rfl) (.cons (.s [98,114] rfl rfl) (.cons (.s [98,114,95,105,102] rfl rfl) (.cons (.s [98,114,95,116,97,98,108,101] rfl rfl) (.cons (.s [114,101,116,117,114,110] rfl rfl) (.cons (.s [99,97,108,108] rfl rfl) (.cons (.s [99,97,108,108,95,105,110,100,105,114,101,99,116] rfl rfl) (.cons (.s [] rfl rfl) (.cons (.s [] rfl rfl) (.cons (.s [] rfl rfl) (.cons (.s [] rfl rfl) (.cons (.s [] rfl rfl) (.cons (.s [] rfl rfl) (.cons (.s [] rfl rfl) (.cons (.s [] rfl rfl) (.cons (.s [100,114,111,112] rfl rfl) (.cons (.s [115,101,108,101,99,116] rfl rfl) (.cons (.s [] rfl rfl) (.cons (.s [] rfl rfl) (.cons (.s [] rfl rfl) (.cons (.s [] rfl rfl) (.cons (.s [108,111,99,97,108,46,103,101,116] rfl rfl) (.cons (.s [108,111,99,97,108,46,115,101,116] rfl rfl) (.cons (.s [108,111,99,97,108,46,116,101,101] rfl rfl) (.cons (.s [103,108,111,98,97,108,46,103,101,116] rfl rfl) (.cons (.s [103,108,111,98,97,108,46,115,101,116] rfl rfl) (.cons (.s [] rfl rfl) (.cons (.s [] rfl rfl) (.cons (.s [] rfl rfl) (.cons (.s [105,51,50,46,108,111,97,100] rfl rfl) (.cons (.s [105,54,52,46,108,111,97,100] rfl rfl) (.cons (.s [] rfl rfl) (.cons (.s [] rfl rfl) (.cons (.s [105,51,50,46,108,111,97,100,56,95,115] rfl rfl) (.cons (.s [105,51,50,46,108,111,97,100,56,95,117] rfl rfl) (.cons (.s [105,51,50,46,108,111,97,100,49,54,95,115] rfl rfl) (.cons (.s [105,51,50,46,108,111,97,100,49,54,95,117] rfl rfl) (.cons (.s [105,54,52,46,108,111,97,100,56,95,115] rfl rfl) (.cons (.s [105,54,52,46,108,111,97,100,56,95,117] rfl rfl) (.cons (.s [105,54,52,46,108,111,97,100,49,54,95,115] rfl rfl) (.cons (.s [105,54,52,46,108,111,97,100,49,54,95,117] rfl rfl) (.cons (.s [105,54,52,46,108,111,97,100,51,50,95,115] rfl rfl) (.cons (.s [105,54,52,46,108,111,97,100,51,50,95,117] rfl rfl) (.cons (.s [105,51,50,46,115,116,111,114,101] rfl rfl) (.cons (.s [105,54,52,46,115,116,111,114,101] rfl rfl) (.cons (.s [] rfl rfl) (.cons (.s [] rfl rfl) (.cons (.s [105,51,50,46,115,116,111,114,101,56] rfl rfl) (.cons (.s [105,51,50,46,115,116,111,114,101,49,54] rfl rfl) (.cons (.s [105,54,52,46,115,116,111,114,101,56] rfl rfl) (.cons (.s [105,54,52,46,115,116,111,114,101,49,54] rfl rfl) (.cons (.s [105,54,52,46,115,116,111,114,101,51,50] rfl rfl) (.cons (.s [109,101,109,111,114,121,46,115,105,122,101] rfl rfl) (.cons (.s [109,101,109,111,114,121,46,103,114,111,119] rfl rfl) (.cons (.s [105,51,50,46,99,111,110,115,116] rfl rfl) (.cons (.s [105,54,52,46,99,111,110,115,116] rfl rfl) (.cons (.s [] rfl rfl) (.cons (.s [] rfl rfl) (.cons (.s [105,51,50,46,101,113,122] rfl rfl) (.cons (.s [105,51,50,46,101,113] rfl rfl) (.cons (.s [105,51,50,46,110,101] rfl rfl) (.cons (.s [105,51,50,46,108,116,95,115] rfl rfl) (.cons (.s [105,51,50,46,108,116,95,117] rfl rfl) (.cons (.s [105,51,50,46,103,116,95,115] rfl rfl) (.cons (.s [105,51,50,46,103,116,95,117] rfl rfl) (.cons (.s [105,51,50,46,108,101,95,115] rfl rfl) (.cons (.s [105,51,50,46,108,101,95,117] rfl rfl) (.cons (.s [105,51,50,46,103,101,95,115] rfl rfl) (.cons (.s [105,51,50,46,103,101,95,117] rfl rfl) (.cons (.s [105,54,52,46,101,113,122] rfl rfl) (.cons (.s [105,54,52,46,101,113] rfl rfl) (.cons (.s [105,54,52,46,110,101] rfl rfl) (.cons (.s [105,54,52,46,108,116,95,115] rfl rfl) (.cons (.s [105,54,52,46,108,116,95,117] rfl rfl) (.cons (.s [105,54,52,46,103,116,95,115] rfl rfl) (.cons (.s [105,54,52,46,103,116,95,117] rfl rfl) (.cons (.s [105,54,52,46,108,101,95,115] rfl rfl) (.cons (.s [105,54,52,46,108,101,95,117] rfl rfl) (.cons (.s [105,54,52,46,103,101,95,115] rfl rfl) (.cons (.s [105,54,52,46,103,101,95,117] rfl rfl) (.cons (.s [] rfl rfl) (.cons (.s [] rfl rfl) (.cons (.s [] rfl rfl) (.cons (.s [] rfl rfl) (.cons (.s [] rfl rfl) (.cons (.s [] rfl rfl) (.cons (.s [] rfl rfl) (.cons (.s [] rfl rfl) (.cons (.s [] rfl rfl) (.cons (.s [] rfl rfl) (.cons (.s [] rfl rfl) (.cons (.s [] rfl rfl) (.cons (.s [105,51,50,46,99,108,122] rfl rfl) (.cons (.s [105,51,50,46,99,116,122] rfl rfl) (.cons (.s [105,51,50,46,112,111,112,99,110,116] rfl rfl) (.cons (.s [105,51,50,46,97,100,100] rfl rfl) (.cons (.s [105,51,50,46,115,117,98] rfl rfl) (.cons (.s [105,51,50,46,109,117,108] rfl rfl) (.cons (.s [105,51,50,46,100,105,118,95,115] rfl rfl) (.cons (.s [105,51,50,46,100,105,118,95,117] rfl rfl) (.cons (.s [105,51,50,46,114,101,109,95,115] rfl rfl) (.cons (.s [105,51,50,46,114,101,109,95,117] rfl rfl) (.cons (.s [105,51,50,46,97,110,100] rfl rfl) (.cons (.s [105,51,50,46,111,114] rfl rfl) (.cons (.s [105,51,50,46,120,111,114] rfl rfl) (.cons (.s [105,51,50,46,115,104,108] rfl rfl) (.cons (.s [105,51,50,46,115,104,114,95,115] rfl rfl) (.cons (.s [105,51,50,46,115,104,114,95,117] rfl rfl) (.cons (.s [105,51,50,46,114,111,116,108] rfl rfl) (.cons (.s [105,51,50,46,114,111,116,114] rfl rfl) (.cons (.s [105,54,52,46,99,108,122] rfl rfl) (.cons (.s [105,54,52,46,99,116,122] rfl rfl) (.cons (.s [105,54,52,46,112,111,112,99,110,116] rfl rfl) (.cons (.s [105,54,52,46,97,100,100] rfl rfl) (.cons (.s [105,54,52,46,115,117,98] rfl rfl) (.cons (.s [105,54,52,46,109,117,108] rfl rfl) (.cons (.s [105,54,52,46,100,105,118,95,115] rfl rfl) (.cons (.s [105,54,52,46,100,105,118,95,117] rfl rfl) (.cons (.s [105,54,52,46,114,101,109,95,115] rfl rfl) (.cons (.s [105,54,52,46,114,101,109,95,117] rfl rfl) (.cons (.s [105,54,52,46,97,110,100] rfl rfl) (.cons (.s [105,54,52,46,111,114] rfl rfl) (.cons (.s [105,54,52,46,120,111,114] rfl rfl) (.cons (.s [105,54,52,46,115,104,108] rfl rfl) (.cons (.s [105,54,52,46,115,104,114,95,115] rfl rfl) (.cons (.s [105,54,52,46,115,104,114,95,117] rfl rfl) (.cons (.s [105,54,52,46,114,111,116,108] rfl rfl) (.cons (.s [105,54,52,46,114,111,116,114] rfl rfl) (.cons (.s [] rfl rfl) (.cons (.s [] rfl rfl) (.cons (.s [] rfl rfl) (.cons (.s [] rfl rfl) (.cons (.s [] rfl rfl) (.cons (.s [] rfl rfl) (.cons (.s [] rfl rfl) (.cons (.s [] rfl rfl) (.cons (.s [] rfl rfl) (.cons (.s [] rfl rfl) (.cons (.s [] rfl rfl) (.cons (.s [] rfl rfl) (.cons (.s [] rfl rfl) (.cons (.s [] rfl rfl) (.cons (.s [] rfl rfl) (.cons (.s [] rfl rfl) (.cons (.s [] rfl rfl) (.cons (.s [] rfl rfl) (.cons (.s [] rfl rfl) (.cons (.s [] rfl rfl) (.cons (.s [] rfl rfl) (.cons (.s [] rfl rfl) (.cons (.s [] rfl rfl) (.cons (.s [] rfl rfl) (.cons (.s [] rfl rfl) (.cons (.s [] rfl rfl) (.cons (.s [] rfl rfl) (.cons (.s [] rfl rfl) (.cons (.s [105,51,50,46,119,114,97,112,95,105,54,52] rfl rfl) (.cons (.s [] rfl rfl) (.cons (.s [] rfl rfl) (.cons (.s [] rfl rfl) (.cons (.s [] rfl rfl) (.cons (.s [105,54,52,46,101,120,116,101,110,100,95,105,51,50,95,115] rfl rfl) (.cons (.s [105,54,52,46,101,120,116,101,110,100,95,105,51,50,95,117] rfl rfl) (.cons (.s [] rfl rfl) (.cons (.s [] rfl rfl) (.cons (.s [] rfl rfl) (.cons (.s [] rfl rfl) (.cons (.s [] rfl rfl) (.cons (.s [] rfl rfl) (.cons (.s [] rfl rfl) (.cons (.s [] rfl rfl) (.cons (.s [] rfl rfl) (.cons (.s [] rfl rfl) (.cons (.s [] rfl rfl) (.cons (.s [] rfl rfl) (.cons (.s [] rfl rfl) (.cons (.s [] rfl rfl) (.cons (.s [] rfl rfl) (.cons (.s [] rfl rfl) (.cons (.s [] rfl rfl) (.cons (.s [] rfl rfl) (.cons (.s [105,51,50,46,101,120,116,101,110,100,56,95,115] rfl rfl) (.cons (.s [105,51,50,46,101,120,116,101,110,100,49,54,95,115] rfl rfl) (.cons (.s [105,54,52,46,101,120,116,101,110,100,56,95,115] rfl rfl) (.cons (.s [105,54,52,46,101,120,116,101,110,100,49,54,95,115] rfl rfl) (.cons (.s [105,54,52,46,101,120,116,101,110,100,51,50,95,115] rfl rfl) .nil))))))))))))))))))))))))))))))))))))))))))))))))))))))))))))))))))))))))))))))))))))))))))))))))))))))))))))))))))))))))))))))))))))))))))))))))))))))))))))))))))))))))))))))))))))))))))))))))))))) rfl rfl rfl rfl rfl) rfl ?_
 refine Z7 ?_
 refine .p (cI _ (h:=show z6[code.toNat]?=some (z6.getD code.toNat []) by rw [List.getD_eq_getElem?_getD,List.getElem?_eq_getElem (by rw [L7];omega)];rfl)) rfl ?_
 refine Z5 ?_
 refine bL ?_
 exact af.of_eq (by unfold ji;rw [if_neg c0,if_neg c1,if_neg c2])
theorem js:cW Tryz.prog 132 [ag .i64 code] (ag .i64 (aU code)):=by
 refine In 68 Tryz.func132 fun _ _ _=> ?_
 refine AU ?_
 refine Cd (fun c0=> ?_) fun c0=> ?_
 ·
  refine Z8 ?_
  refine bL ?_
  exact af.int (by unfold aU;repeat (first|rfl|rw [if_pos (by assumption)]|rw [if_neg (by assumption)]))
 refine cT ?_
 refine Cd (fun c1=> ?_) fun c1=> ?_
 ·
  refine Z8 ?_
  refine bL ?_
  exact af.int (by unfold aU;repeat (first|rfl|rw [if_pos (by assumption)]|rw [if_neg (by assumption)]))
 refine Z7 ?_
 refine Cd (fun c2=> ?_) fun c2=> ?_
 ·
  refine Z8 ?_
  refine bL ?_
  exact af.int (by unfold aU;repeat (first|rfl|rw [if_pos (by assumption)]|rw [if_neg (by assumption)]))
 refine Z7 ?_
 refine Cd (fun c3=> ?_) fun c3=> ?_
 ·
  refine Z8 ?_
  refine bL ?_
  exact af.int (by unfold aU;repeat (first|rfl|rw [if_pos (by assumption)]|rw [if_neg (by assumption)]))
 refine Z7 ?_
 refine Cd (fun c4=> ?_) fun c4=> ?_
 ·
  refine Z8 ?_
  refine bL ?_
  exact af.int (by unfold aU;repeat (first|rfl|rw [if_pos (by assumption)]|rw [if_neg (by assumption)]))
 refine cT ?_
 refine Cd (fun c5=> ?_) fun c5=> ?_
 ·
  refine Z8 ?_
  refine bL ?_
  exact af.int (by unfold aU;repeat (first|rfl|rw [if_pos (by assumption)]|rw [if_neg (by assumption)]))
 refine cT ?_
 refine Cd (fun c6=> ?_) fun c6=> ?_
 ·
  refine Z8 ?_
  refine bL ?_
  exact af.int (by unfold aU;repeat (first|rfl|rw [if_pos (by assumption)]|rw [if_neg (by assumption)]))
 refine cT ?_
 refine Cd (fun c7=> ?_) fun c7=> ?_
 ·
  refine Z8 ?_
  refine bL ?_
  exact af.int (by unfold aU;repeat (first|rfl|rw [if_pos (by assumption)]|rw [if_neg (by assumption)]))
 refine nZ ?_
 refine Cd (fun c8=> ?_) fun c8=> ?_
 ·
  refine Z8 ?_
  refine bL ?_
  exact af.int (by unfold aU;repeat (first|rfl|rw [if_pos (by assumption)]|rw [if_neg (by assumption)]))
 refine Z7 ?_
 refine Cd (fun c9=> ?_) fun c9=> ?_
 ·
  refine Z8 ?_
  refine bL ?_
  exact af.int (by unfold aU;repeat (first|rfl|rw [if_pos (by assumption)]|rw [if_neg (by assumption)]))
 refine cT ?_
 refine Cd (fun lq=> ?_) fun lq=> ?_
 ·
  refine Z8 ?_
  refine bL ?_
  exact af.int (by unfold aU;repeat (first|rfl|rw [if_pos (by assumption)]|rw [if_neg (by assumption)]))
 refine Z9 ?_
 refine bL ?_
 exact af.int (by unfold aU;repeat (first|rfl|rw [if_pos (by assumption)]|rw [if_neg (by assumption)]))
theorem kH:cW Tryz.prog 160 [ag .i64 code] (bD [ai 1 aj (aN code).1,ai 1 aj (aN code).2]):=by
 refine In 169 Tryz.func160 fun _ _ _=> ?_
 refine Vf ?_
 refine Cd (fun c0=> ?_) fun c0=> ?_
 ·
  refine Z9 ?_
  refine j9 ?_ ?_
  · first|(refine af.trans (aG 1 aj) (af.of_eq ?_);unfold aN;repeat (first|rfl|rw [if_pos (by assumption)]|rw [if_neg (by assumption)]))|(refine af.of_eq ?_;unfold aN;repeat (first|rfl|rw [if_pos (by assumption)]|rw [if_neg (by assumption)]))
  first|(refine af.trans (aG 1 aj) (af.of_eq ?_);unfold aN;repeat (first|rfl|rw [if_pos (by assumption)]|rw [if_neg (by assumption)]))|(refine af.of_eq ?_;unfold aN;repeat (first|rfl|rw [if_pos (by assumption)]|rw [if_neg (by assumption)]))
 refine nZ ?_
 refine Cd (fun c1=> ?_) fun c1=> ?_
 ·
  refine Z3 ?_
  refine .p (cB aj [127]) rfl ?_
  refine Z1 ?_
  refine .p (cB aj [127]) rfl ?_
  refine Z7 ?_
  refine j9 ?_ ?_
  · first|(refine af.trans (aG 1 aj) (af.of_eq ?_);unfold aN;repeat (first|rfl|rw [if_pos (by assumption)]|rw [if_neg (by assumption)]))|(refine af.of_eq ?_;unfold aN;repeat (first|rfl|rw [if_pos (by assumption)]|rw [if_neg (by assumption)]))
  first|(refine af.trans (aG 1 aj) (af.of_eq ?_);unfold aN;repeat (first|rfl|rw [if_pos (by assumption)]|rw [if_neg (by assumption)]))|(refine af.of_eq ?_;unfold aN;repeat (first|rfl|rw [if_pos (by assumption)]|rw [if_neg (by assumption)]))
 refine nZ ?_
 refine Cd (fun c2=> ?_) fun c2=> ?_
 ·
  refine Z3 ?_
  refine .p (cB aj [127]) rfl ?_
  refine Z1 ?_
  refine .p (cB aj [126]) rfl ?_
  refine Z7 ?_
  refine j9 ?_ ?_
  · first|(refine af.trans (aG 1 aj) (af.of_eq ?_);unfold aN;repeat (first|rfl|rw [if_pos (by assumption)]|rw [if_neg (by assumption)]))|(refine af.of_eq ?_;unfold aN;repeat (first|rfl|rw [if_pos (by assumption)]|rw [if_neg (by assumption)]))
  first|(refine af.trans (aG 1 aj) (af.of_eq ?_);unfold aN;repeat (first|rfl|rw [if_pos (by assumption)]|rw [if_neg (by assumption)]))|(refine af.of_eq ?_;unfold aN;repeat (first|rfl|rw [if_pos (by assumption)]|rw [if_neg (by assumption)]))
 refine nZ ?_
 refine Cd (fun c3=> ?_) fun c3=> ?_
 ·
  refine Z4 ?_
  refine .p (cB aj [127,127]) rfl ?_
  refine Z7 ?_
  refine j9 ?_ ?_
  · first|(refine af.trans (aG 1 aj) (af.of_eq ?_);unfold aN;repeat (first|rfl|rw [if_pos (by assumption)]|rw [if_neg (by assumption)]))|(refine af.of_eq ?_;unfold aN;repeat (first|rfl|rw [if_pos (by assumption)]|rw [if_neg (by assumption)]))
  first|(refine af.trans (aG 1 aj) (af.of_eq ?_);unfold aN;repeat (first|rfl|rw [if_pos (by assumption)]|rw [if_neg (by assumption)]))|(refine af.of_eq ?_;unfold aN;repeat (first|rfl|rw [if_pos (by assumption)]|rw [if_neg (by assumption)]))
 refine Z7 ?_
 refine Cd (fun c4=> ?_) fun c4=> ?_
 ·
  refine Z4 ?_
  refine .p (cB aj [127,126]) rfl ?_
  refine Z7 ?_
  refine j9 ?_ ?_
  · first|(refine af.trans (aG 1 aj) (af.of_eq ?_);unfold aN;repeat (first|rfl|rw [if_pos (by assumption)]|rw [if_neg (by assumption)]))|(refine af.of_eq ?_;unfold aN;repeat (first|rfl|rw [if_pos (by assumption)]|rw [if_neg (by assumption)]))
  first|(refine af.trans (aG 1 aj) (af.of_eq ?_);unfold aN;repeat (first|rfl|rw [if_pos (by assumption)]|rw [if_neg (by assumption)]))|(refine af.of_eq ?_;unfold aN;repeat (first|rfl|rw [if_pos (by assumption)]|rw [if_neg (by assumption)]))
 refine cT ?_
 refine Cd (fun c5=> ?_) fun c5=> ?_
 ·
  refine Z3 ?_
  refine .p (cB aj [127]) rfl ?_
  refine Z7 ?_
  refine j9 ?_ ?_
  · first|(refine af.trans (aG 1 aj) (af.of_eq ?_);unfold aN;repeat (first|rfl|rw [if_pos (by assumption)]|rw [if_neg (by assumption)]))|(refine af.of_eq ?_;unfold aN;repeat (first|rfl|rw [if_pos (by assumption)]|rw [if_neg (by assumption)]))
  first|(refine af.trans (aG 1 aj) (af.of_eq ?_);unfold aN;repeat (first|rfl|rw [if_pos (by assumption)]|rw [if_neg (by assumption)]))|(refine af.of_eq ?_;unfold aN;repeat (first|rfl|rw [if_pos (by assumption)]|rw [if_neg (by assumption)]))
 refine Z7 ?_
 refine Cd (fun c6=> ?_) fun c6=> ?_
 ·
  refine Z3 ?_
  refine .p (cB aj [126]) rfl ?_
  refine Z7 ?_
  refine j9 ?_ ?_
  · first|(refine af.trans (aG 1 aj) (af.of_eq ?_);unfold aN;repeat (first|rfl|rw [if_pos (by assumption)]|rw [if_neg (by assumption)]))|(refine af.of_eq ?_;unfold aN;repeat (first|rfl|rw [if_pos (by assumption)]|rw [if_neg (by assumption)]))
  first|(refine af.trans (aG 1 aj) (af.of_eq ?_);unfold aN;repeat (first|rfl|rw [if_pos (by assumption)]|rw [if_neg (by assumption)]))|(refine af.of_eq ?_;unfold aN;repeat (first|rfl|rw [if_pos (by assumption)]|rw [if_neg (by assumption)]))
 refine cT ?_
 refine Cd (fun c7=> ?_) fun c7=> ?_
 ·
  refine Z3 ?_
  refine .p (cB aj [126]) rfl ?_
  refine Z1 ?_
  refine .p (cB aj [127]) rfl ?_
  refine Z7 ?_
  refine j9 ?_ ?_
  · first|(refine af.trans (aG 1 aj) (af.of_eq ?_);unfold aN;repeat (first|rfl|rw [if_pos (by assumption)]|rw [if_neg (by assumption)]))|(refine af.of_eq ?_;unfold aN;repeat (first|rfl|rw [if_pos (by assumption)]|rw [if_neg (by assumption)]))
  first|(refine af.trans (aG 1 aj) (af.of_eq ?_);unfold aN;repeat (first|rfl|rw [if_pos (by assumption)]|rw [if_neg (by assumption)]))|(refine af.of_eq ?_;unfold aN;repeat (first|rfl|rw [if_pos (by assumption)]|rw [if_neg (by assumption)]))
 refine EC ?_
 refine Cd (fun c8=> ?_) fun c8=> ?_
 ·
  refine Z4 ?_
  refine .p (cB aj [127,127]) rfl ?_
  refine Z1 ?_
  refine .p (cB aj [127]) rfl ?_
  refine Z7 ?_
  refine j9 ?_ ?_
  · first|(refine af.trans (aG 1 aj) (af.of_eq ?_);unfold aN;repeat (first|rfl|rw [if_pos (by assumption)]|rw [if_neg (by assumption)]))|(refine af.of_eq ?_;unfold aN;repeat (first|rfl|rw [if_pos (by assumption)]|rw [if_neg (by assumption)]))
  first|(refine af.trans (aG 1 aj) (af.of_eq ?_);unfold aN;repeat (first|rfl|rw [if_pos (by assumption)]|rw [if_neg (by assumption)]))|(refine af.of_eq ?_;unfold aN;repeat (first|rfl|rw [if_pos (by assumption)]|rw [if_neg (by assumption)]))
 refine cT ?_
 refine Cd (fun c9=> ?_) fun c9=> ?_
 ·
  refine Z4 ?_
  refine .p (cB aj [126,126]) rfl ?_
  refine Z1 ?_
  refine .p (cB aj [127]) rfl ?_
  refine Z7 ?_
  refine j9 ?_ ?_
  · first|(refine af.trans (aG 1 aj) (af.of_eq ?_);unfold aN;repeat (first|rfl|rw [if_pos (by assumption)]|rw [if_neg (by assumption)]))|(refine af.of_eq ?_;unfold aN;repeat (first|rfl|rw [if_pos (by assumption)]|rw [if_neg (by assumption)]))
  first|(refine af.trans (aG 1 aj) (af.of_eq ?_);unfold aN;repeat (first|rfl|rw [if_pos (by assumption)]|rw [if_neg (by assumption)]))|(refine af.of_eq ?_;unfold aN;repeat (first|rfl|rw [if_pos (by assumption)]|rw [if_neg (by assumption)]))
 refine cT ?_
 refine Cd (fun lq=> ?_) fun lq=> ?_
 ·
  refine Z4 ?_
  refine .p (cB aj [126,126]) rfl ?_
  refine Z1 ?_
  refine .p (cB aj [126]) rfl ?_
  refine Z7 ?_
  refine j9 ?_ ?_
  · first|(refine af.trans (aG 1 aj) (af.of_eq ?_);unfold aN;repeat (first|rfl|rw [if_pos (by assumption)]|rw [if_neg (by assumption)]))|(refine af.of_eq ?_;unfold aN;repeat (first|rfl|rw [if_pos (by assumption)]|rw [if_neg (by assumption)]))
  first|(refine af.trans (aG 1 aj) (af.of_eq ?_);unfold aN;repeat (first|rfl|rw [if_pos (by assumption)]|rw [if_neg (by assumption)]))|(refine af.of_eq ?_;unfold aN;repeat (first|rfl|rw [if_pos (by assumption)]|rw [if_neg (by assumption)]))
 refine cT ?_
 refine Cd (fun nc=> ?_) fun nc=> ?_
 ·
  refine Z3 ?_
  refine .p (cB aj [127]) rfl ?_
  refine Z1 ?_
  refine .p (cB aj [126]) rfl ?_
  refine Z7 ?_
  refine j9 ?_ ?_
  · first|(refine af.trans (aG 1 aj) (af.of_eq ?_);unfold aN;repeat (first|rfl|rw [if_pos (by assumption)]|rw [if_neg (by assumption)]))|(refine af.of_eq ?_;unfold aN;repeat (first|rfl|rw [if_pos (by assumption)]|rw [if_neg (by assumption)]))
  first|(refine af.trans (aG 1 aj) (af.of_eq ?_);unfold aN;repeat (first|rfl|rw [if_pos (by assumption)]|rw [if_neg (by assumption)]))|(refine af.of_eq ?_;unfold aN;repeat (first|rfl|rw [if_pos (by assumption)]|rw [if_neg (by assumption)]))
 refine EC ?_
 refine Cd (fun o5=> ?_) fun o5=> ?_
 ·
  refine Z3 ?_
  refine .p (cB aj [126]) rfl ?_
  refine Z1 ?_
  refine .p (cB aj [126]) rfl ?_
  refine Z7 ?_
  refine j9 ?_ ?_
  · first|(refine af.trans (aG 1 aj) (af.of_eq ?_);unfold aN;repeat (first|rfl|rw [if_pos (by assumption)]|rw [if_neg (by assumption)]))|(refine af.of_eq ?_;unfold aN;repeat (first|rfl|rw [if_pos (by assumption)]|rw [if_neg (by assumption)]))
  first|(refine af.trans (aG 1 aj) (af.of_eq ?_);unfold aN;repeat (first|rfl|rw [if_pos (by assumption)]|rw [if_neg (by assumption)]))|(refine af.of_eq ?_;unfold aN;repeat (first|rfl|rw [if_pos (by assumption)]|rw [if_neg (by assumption)]))
 refine Z7 ?_
 refine Cd (fun s4=> ?_) fun s4=> ?_
 ·
  refine Z5 ?_
  refine .p (cB aj [127,127,127]) rfl ?_
  refine Z7 ?_
  refine j9 ?_ ?_
  · first|(refine af.trans (aG 1 aj) (af.of_eq ?_);unfold aN;repeat (first|rfl|rw [if_pos (by assumption)]|rw [if_neg (by assumption)]))|(refine af.of_eq ?_;unfold aN;repeat (first|rfl|rw [if_pos (by assumption)]|rw [if_neg (by assumption)]))
  first|(refine af.trans (aG 1 aj) (af.of_eq ?_);unfold aN;repeat (first|rfl|rw [if_pos (by assumption)]|rw [if_neg (by assumption)]))|(refine af.of_eq ?_;unfold aN;repeat (first|rfl|rw [if_pos (by assumption)]|rw [if_neg (by assumption)]))
 refine Z6 ?_
 refine .p (cB aj [127]) rfl ?_
 refine Z1 ?_
 refine .p (cB aj [127]) rfl ?_
 refine Z5 ?_
 refine j9 ?_ ?_
 · first|(refine af.trans (aG 1 aj) (af.of_eq ?_);unfold aN;repeat (first|rfl|rw [if_pos (by assumption)]|rw [if_neg (by assumption)]))|(refine af.of_eq ?_;unfold aN;repeat (first|rfl|rw [if_pos (by assumption)]|rw [if_neg (by assumption)]))
 first|(refine af.trans (aG 1 aj) (af.of_eq ?_);unfold aN;repeat (first|rfl|rw [if_pos (by assumption)]|rw [if_neg (by assumption)]))|(refine af.of_eq ?_;unfold aN;repeat (first|rfl|rw [if_pos (by assumption)]|rw [if_neg (by assumption)]))
theorem GG:cW Tryz.prog 161 [ag .i64 code] (ag .i64 (gW code)):=by
 refine In 27 Tryz.func161 fun _ _ _=> ?_
 refine dM ?_
 refine .cut (σ:=Unit) (fun _=>[]) (fun _=>[(4,aq (code=40∨code=52∨code=53∨code=54∨code=62))]) (fun _=>True) ?_ ?_
 ·
  refine Z6 ?_
  refine Cd (fun c0=> ?_) fun c0=> ?_
  ·
   refine Z1 ?_
   refine .meet () trivial rfl (.get rfl (af.prop (by omega)) (.keep 2 rfl rfl))
  refine Z6 ?_
  refine Cd (fun c1=> ?_) fun c1=> ?_
  ·
   refine Z1 ?_
   refine .meet () trivial rfl (.get rfl (af.prop (by omega)) (.keep 4 rfl rfl))
  refine Z6 ?_
  refine Cd (fun c2=> ?_) fun c2=> ?_
  ·
   refine Z1 ?_
   refine .meet () trivial rfl (.get rfl (af.prop (by omega)) (.keep 6 rfl rfl))
  refine Z6 ?_
  refine Cd (fun c3=> ?_) fun c3=> ?_
  ·
   refine Z1 ?_
   refine .meet () trivial rfl (.get rfl (af.prop (by omega)) (.keep 8 rfl rfl))
  refine Z4 ?_
  refine .meet () trivial rfl (.get rfl (af.prop (by omega)) (.keep 10 rfl rfl))
 intro _ _
 refine Cd (fun c4=> ?_) fun c4=> ?_
 ·
  refine Z8 ?_
  refine bL ?_
  exact af.int (by unfold gW;repeat (first|rfl|rw [if_pos (by assumption)]|rw [if_neg (by assumption)]))
 refine .cut (σ:=Unit) (fun _=>[]) (fun _=>[(10,aq (code=41∨code=55))]) (fun _=>True) ?_ ?_
 ·
  refine Z6 ?_
  refine Cd (fun c5=> ?_) fun c5=> ?_
  ·
   refine Z1 ?_
   refine .meet () trivial rfl (.get rfl (af.prop (by omega)) (.keep 2 rfl rfl))
  refine Z4 ?_
  refine .meet () trivial rfl (.get rfl (af.prop (by omega)) (.keep 4 rfl rfl))
 intro _ _
 refine Cd (fun c6=> ?_) fun c6=> ?_
 ·
  refine Z8 ?_
  refine bL ?_
  exact af.int (by unfold gW;repeat (first|rfl|rw [if_pos (by assumption)]|rw [if_neg (by assumption)]))
 refine .cut (σ:=Unit) (fun _=>[]) (fun _=>[(13,aq (code=44∨code=45∨code=48∨code=49∨code=58∨code=60))]) (fun _=>True) ?_ ?_
 ·
  refine Z6 ?_
  refine Cd (fun c7=> ?_) fun c7=> ?_
  ·
   refine Z1 ?_
   refine .meet () trivial rfl (.get rfl (af.prop (by omega)) (.keep 2 rfl rfl))
  refine Z6 ?_
  refine Cd (fun c8=> ?_) fun c8=> ?_
  ·
   refine Z1 ?_
   refine .meet () trivial rfl (.get rfl (af.prop (by omega)) (.keep 4 rfl rfl))
  refine Z6 ?_
  refine Cd (fun c9=> ?_) fun c9=> ?_
  ·
   refine Z1 ?_
   refine .meet () trivial rfl (.get rfl (af.prop (by omega)) (.keep 6 rfl rfl))
  refine Z6 ?_
  refine Cd (fun lq=> ?_) fun lq=> ?_
  ·
   refine Z1 ?_
   refine .meet () trivial rfl (.get rfl (af.prop (by omega)) (.keep 8 rfl rfl))
  refine Z6 ?_
  refine Cd (fun nc=> ?_) fun nc=> ?_
  ·
   refine Z1 ?_
   refine .meet () trivial rfl (.get rfl (af.prop (by omega)) (.keep 10 rfl rfl))
  refine Z4 ?_
  refine .meet () trivial rfl (.get rfl (af.prop (by omega)) (.keep 12 rfl rfl))
 intro _ _
 refine Cd (fun o5=> ?_) fun o5=> ?_
 ·
  refine Z8 ?_
  refine bL ?_
  exact af.int (by unfold gW;repeat (first|rfl|rw [if_pos (by assumption)]|rw [if_neg (by assumption)]))
 refine .cut (σ:=Unit) (fun _=>[]) (fun _=>[(20,aq (code=46∨code=47∨code=50∨code=51∨code=59∨code=61))]) (fun _=>True) ?_ ?_
 ·
  refine Z6 ?_
  refine Cd (fun s4=> ?_) fun s4=> ?_
  ·
   refine Z1 ?_
   refine .meet () trivial rfl (.get rfl (af.prop (by omega)) (.keep 2 rfl rfl))
  refine Z6 ?_
  refine Cd (fun q9=> ?_) fun q9=> ?_
  ·
   refine Z1 ?_
   refine .meet () trivial rfl (.get rfl (af.prop (by omega)) (.keep 4 rfl rfl))
  refine Z6 ?_
  refine Cd (fun vX=> ?_) fun vX=> ?_
  ·
   refine Z1 ?_
   refine .meet () trivial rfl (.get rfl (af.prop (by omega)) (.keep 6 rfl rfl))
  refine Z6 ?_
  refine Cd (fun xl=> ?_) fun xl=> ?_
  ·
   refine Z1 ?_
   refine .meet () trivial rfl (.get rfl (af.prop (by omega)) (.keep 8 rfl rfl))
  refine Z6 ?_
  refine Cd (fun MT=> ?_) fun MT=> ?_
  ·
   refine Z1 ?_
   refine .meet () trivial rfl (.get rfl (af.prop (by omega)) (.keep 10 rfl rfl))
  refine Z4 ?_
  refine .meet () trivial rfl (.get rfl (af.prop (by omega)) (.keep 12 rfl rfl))
 intro _ _
 refine Cd (fun JA=> ?_) fun JA=> ?_
 ·
  refine Z8 ?_
  refine bL ?_
  exact af.int (by unfold gW;repeat (first|rfl|rw [if_pos (by assumption)]|rw [if_neg (by assumption)]))
 refine Z9 ?_
 refine bL ?_
 exact af.int (by unfold gW;repeat (first|rfl|rw [if_pos (by assumption)]|rw [if_neg (by assumption)]))
variable {s:dw} {base:Int}
theorem qQ {w:UInt8} (av:s.1.length≤60000):cw Tryz.prog 157 [aC (bg s base),ag .u8 ((w:UInt8).toNat:Int)] [] (γ:=dw×UInt8×Int) (PO s w) (fun _=>[]) (fun g=>bD [aC (bg g.1 base),ag .u8 (g.2.1.toNat:Int),ag .i64 g.2.2]):=by
 refine In 52 Tryz.func157 fun _ _ _=> ?_
 obtain ⟨sl,sd⟩:=s
 simp only at av
 refine Z2 ?_
 refine .n (bT (.t rfl)) rfl fun b2 _=> ?_
 refine .n (ax FZ.out) rfl fun b4 _=> ?_
 refine EC ?_
 refine Cd (fun c0=> ?_) fun c0=> ?_
 ·
  have Cp:sl=[]:=List.eq_nil_of_length_eq_zero (by have:(sl.length:Int)=0:=c0;omega)
  subst Cp
  refine Z8 ?_
  refine Cd (fun c1=> ?_) fun c1=> ?_
  ·
   refine cT ?_
   refine Post.bf rfl rfl ((([],sd),0,5)) (by exact ⟨.inr ⟨by show (5:Int)≠0;decide,Af c1⟩,Nat.le_refl _⟩) (aB.dD [] [0,1] rfl rfl) rfl (.cons (.ra (i:=0) FA.out FC.out rfl rfl rfl rfl) ?_ (.cons (.rt rfl) ?_ (.cons (.rt rfl) ?_ .nil)))
   · exact af.refl _
   · exact af.refl _
   exact af.refl _
  refine lg ?_
  refine Post.bf rfl rfl ((([],sd),w,0)) (by exact ⟨.inl ⟨rfl,Kq (Classical.not_not.1 c1)⟩,Nat.le_refl _⟩) (aB.dD [] [0,1] rfl rfl) rfl (.cons (.ra (i:=0) FA.out FC.out rfl rfl rfl rfl) ?_ (.cons (.rt rfl) ?_ (.cons (.rt rfl) ?_ .nil)))
  · exact af.refl _
  · exact af.refl _
  exact af.refl _
 obtain ⟨l,x,rfl⟩:=vw (l:=sl) (fun e=>c0 (by rw [e];rfl))
 simp only [List.length_append,List.length_cons,List.length_nil] at av
 refine Z7 ?_
 refine .p (jZ (.t rfl) (.c _) (bY (by simp<;>omega) (by simp<;>omega))) rfl ?_
 refine .p (cI l.length (h:=show (l++[x])[l.length]?=some x by simp) (hi:=by simp)) rfl ?_
 refine Z6 ?_
 refine .p (kL FU.out FC.out rfl FZ.out rfl) rfl ?_
 refine Z3 ?_
 refine .p (jZ (.t rfl) (.c _) (bY (by simp<;>omega) (by simp<;>omega))) rfl ?_
 refine .p (we (h:=l.length) FU.out FC.out rfl (.t rfl) (.t rfl) (by simp) (by simp)) rfl ?_
 refine .p (sJ FU.out FU.out FC.out rfl FZ.out rfl FY.out (.t rfl) (.t rfl) (by simp<;>omega)) rfl ?_
 refine La ?_
 refine Cd (fun c2=> ?_) fun c2=> ?_
 ·
  refine cK ?_
  refine Post.bf rfl rfl (((l,sd),0,5)) (by exact ⟨.inr ⟨by show (5:Int)≠0;decide,Sa c2⟩,by (show l.length≤_;simp)⟩) (aB.dD [] [0,1] rfl rfl) rfl (.cons (.ra (i:=0) FA.out FC.out rfl rfl rfl rfl) ?_ (.cons (.rt rfl) ?_ (.cons (.rt rfl) ?_ .nil)))
  · exact af.agg (.cons (af.of_eq (by simp)) (.cons (af.refl _) (.cons (af.refl _) .nil)))
  · exact af.refl _
  exact af.refl _
 refine Z9 ?_
 refine Cd (fun c3=> ?_) fun c3=> ?_
 ·
  refine cT ?_
  refine Post.bf rfl rfl (((l,sd),w,0)) (by exact ⟨.inl ⟨rfl,by rw [GF c2,if_pos ((oG x).1 c3)]⟩,by (show l.length≤_;simp)⟩) (aB.dD [] [0,1] rfl rfl) rfl (.cons (.ra (i:=0) FA.out FC.out rfl rfl rfl rfl) ?_ (.cons (.rt rfl) ?_ (.cons (.rt rfl) ?_ .nil)))
  · exact af.agg (.cons (af.of_eq (by simp)) (.cons (af.refl _) (.cons (af.refl _) .nil)))
  · exact af.refl _
  exact af.refl _
 refine dM ?_
 refine Post.bf rfl rfl (((l,sd),x,0)) (by exact ⟨.inl ⟨rfl,by rw [GF c2,if_neg (fun e=>c3 ((oG x).2 e))]⟩,by (show l.length≤_;simp)⟩) (aB.dD [] [0,1] rfl rfl) rfl (.cons (.ra (i:=0) FA.out FC.out rfl rfl rfl rfl) ?_ (.cons (.rt rfl) ?_ (.cons (.rt rfl) ?_ .nil)))
 · exact af.agg (.cons (af.of_eq (by simp)) (.cons (af.refl _) (.cons (af.refl _) .nil)))
 · exact af.refl _
 exact af.refl _
theorem bW {l:List UInt8} (av:s.1.length≤60000):cw Tryz.prog 135 [aC (bg s base),ai 1 aj (l)] [] (γ:=dw×Int) (Qq s l) (fun _=>[]) (fun g=>bD [aC (bg g.1 base),ag .i64 g.2]):=by
 refine In 30 Tryz.func135 fun _ _ _=> ?_
 refine .fact (t:=1) rfl (fun S w v h=>bM h) fun qX=> ?_
 refine Z2 ?_
 refine .n (bT (.t rfl)) rfl fun b2 _=> ?_
 refine .n (ax FZ.out) rfl fun b4 _=> ?_
 refine lg ?_
 refine .own (aB.perm (Perm.idx [1,0] rfl rfl)) ?_
 refine .aT (σ:=Nat×dw) (fun g=>[az b2 (bg g.2 base),az b4 (List.map aa [.slice none 0 0, .bool false, .int .i64 0])]) (fun g=>[(6,ag .i64 ((g.1:Int)-1))]) (fun g=>g.1≤l.length∧cQ g.2 (l.take g.1)=cQ s l∧g.2.1.length≤s.1.length) (fun g=>g.1) (l.length,s) ⟨Nat.le_refl _,by simp,Nat.le_refl _⟩ rfl ?_ ?_
 · exact (.get rfl (af.refl _) (.refl _ _))
 rintro ⟨j,s1⟩ ⟨hj,hinv,Cp⟩
 simp only at hj hinv Cp ⊢
 refine Z7 ?_
 refine Cd (fun c0=> ?_) fun c0=> ?_
 ·
  obtain ⟨t,ht⟩:=ah (xs:=l) (k:=j-1) (by omega)
  have hjt:cQ s1 (l.take j)=(jh s1 t).bind fun p=>cQ p.1 (l.take (j-1)):=by (have h9:=O6 (s:=s1) ht;rwa [show j-1+1=j by omega] at h9)
  refine cK ?_
  refine .bP [(0,1),(1,0),(2,0),(3,0),(4,0),(5,2),(6,0),(7,0),(8,0),(9,0),(10,3)] 11 1 FM.out (by kernel_rfl) (k:= ?_)
  refine Z3 ?_
  refine .p rfl (fun _=>aO (j:=j-1) FU.out FC.out rfl (.t rfl) (.t rfl) (by omega) ht) ?_
  refine Z1 ?_
  refine .e rfl (cE (h:=qQ (s:=s1) (w:=t) (by omega))) fun g21 LV=> ?_
  refine Z4 ?_
  refine .s rfl (gA (i:=0) FC.out rfl (.t rfl) (.t rfl) rfl rfl rfl) ?_
  refine .fin ?_
  refine Z9 ?_
  refine Cd (fun c1=> ?_) fun c1=> ?_
  ·
   refine iW ?_
   refine Post.bf rfl rfl ((g21.1,g21.2.2)) (by exact ⟨.inr ⟨c1,by rw [←hinv,hjt,LV.no c1];rfl⟩,Nat.le_trans LV.2 Cp⟩) (aB.dD [] [0,1] rfl rfl) rfl (.cons (.ra (i:=1) FA.out FC.out rfl rfl rfl rfl) ?_ (.cons (.rt rfl) ?_ .nil))
   · exact af.refl _
   exact af.refl _
  refine Z8 ?_
  refine .round (j-1,g21.1) ⟨by show j-1≤_;omega,by (show cQ g21.1 _=_;rw [←hinv,hjt,LV.ok (Classical.not_not.1 c1)];rfl),Nat.le_trans LV.2 Cp⟩ (by show j-1<j;omega) rfl ?_
  exact (.get rfl (af.int (by show (_:Int)=((j-1:Nat):Int)-1;omega)) ((.keep 21 rfl rfl)))
 have hj0:j=0:=by omega
 subst hj0
 refine lg ?_
 refine Post.bf rfl rfl ((s1,0)) (by exact ⟨.inl ⟨rfl,by rw [←hinv];rfl⟩,Cp⟩) (aB.dD [] [0,1] rfl rfl) rfl (.cons (.ra (i:=1) FA.out FC.out rfl rfl rfl rfl) ?_ (.cons (.rt rfl) ?_ .nil))
 · exact af.refl _
 exact af.refl _
theorem dQ {l:List UInt8} (av:s.1.length≤60000) (hp1:l.length≤60000):cw Tryz.prog 137 [aC (bg s base),ai 1 aj (l)] [] (γ:=Unit) (fun _=>True) (fun _=>[]) (fun _=>aC (bg (bC s l) base)):=by
 refine In 13 Tryz.func137 fun _ _ _=> ?_
 refine Z2 ?_
 refine .n (bT (.t rfl)) rfl fun b2 _=> ?_
 refine .n (ax FZ.out) rfl fun b4 _=> ?_
 refine Z4 ?_
 refine .n (cq aj ([]:List UInt8) FU.out FC.out rfl FZ.out rfl .nil rfl rfl rfl rfl rfl) rfl fun g5 _=> ?_
 refine Z2 ?_
 refine .n (aD (i:=0) FU.out FU.out FC.out rfl FZ.out rfl FY.out (.t rfl) (.t rfl) rfl (by simp<;>omega) (by simp<;>omega)) rfl fun g8 _=> ?_
 refine Z1 ?_
 refine .n (fV.er (G:=fun g=>g) (hs1:=fun _=>_) (xs:=fun _=>_) (aD (i:=0) FU.out FU.out FC.out rfl FZ.out rfl FY.out (.t rfl) (.t rfl) rfl (by simp<;>omega) (by simp<;>omega))) rfl fun _ _=> ?_
 refine cT ?_
 refine Post.aP rfl (()) (by trivial) (aB.dD [] [0,1] rfl rfl) (.ra (i:=0) FA.out FC.out rfl rfl rfl rfl) ?_
 exact af.agg (.cons (af.of_eq (by simp [bC])) (.cons (af.refl _) (.cons (af.refl _) .nil)))
theorem qR:cw Tryz.prog 158 [aC (bg s base)] [] (γ:=Unit) (fun _=>True) (fun _=>[]) (fun _=>aC (bg eO base)):=by
 refine In 6 Tryz.func158 fun _ _ _=> ?_
 refine Z3 ?_
 refine .n (ax FZ.out) rfl fun b2 _=> ?_
 refine cT ?_
 refine Post.aP rfl (()) (by trivial) (aB.dD [] [0] rfl rfl) (.ra (i:=0) FA.out FC.out rfl rfl rfl rfl) ?_
 exact af.agg (.cons (aG 1 aj) (.cons (af.refl _) (.cons (af.refl _) .nil)))
theorem JB {a b:List UInt8}:cW Tryz.prog 159 [ai 1 aj (a),ai 1 aj (b)] (aq (a=b)):=by
 refine In 10 Tryz.func159 fun _ _ _=> ?_
 refine D0 ?_
 refine bL ?_
 exact af.refl _
variable {v:om} {x:aA} {labs:List (List UInt8)}
theorem PS (av:o7 v x s labs) (hp1:x.Code=0):cw Tryz.prog 136 [aC (eB v),aC (aK x),aC (bg s base),ai 1 dP labs] [] (γ:=dw×Int) (yt s (ia v x s labs)) (fun _=>[]) (fun g=>bD [aC (bg g.1 base),ag .i64 g.2]):=by
 refine In 517 Tryz.func136 fun _ _ _=> ?_
 have hs5:=av.stk
 have oN:=av.ins.A0
 have DK:=av.ins.ym
 have qX:=av.Ch
 have hE:=av.env
 have AE:=hE.F
 have AF:=hE.S
 have DL:=hE.L
 have DM:=hE.G
 have ry:=hE.W
 refine Z4 ?_
 refine .n (bT (.t rfl)) rfl fun b6 _=> ?_
 refine .n (ax FZ.out) rfl fun b8 _=> ?_
 refine Bw ?_
 refine Cd (fun c0=> ?_) fun c0=> ?_
 ·
  refine Z3 ?_
  refine .n (cE (h:=qR (s:=s))) rfl fun g37 h37=> ?_
  refine Z7 ?_
  refine Post.bf rfl rfl ((eO,0)) (by exact uB (S4 hp1) (by simp [eO])) (aB.dD [] [0,1] rfl rfl) rfl (.cons (.ra (i:=0) FA.out FC.out rfl rfl rfl rfl) ?_ (.cons (.rt rfl) ?_ .nil))
  · exact af.refl _
  exact af.refl _
 exfalso;omega
theorem MU (av:o7 v x s labs) (hp1:x.Code=12):cw Tryz.prog 136 [aC (eB v),aC (aK x),aC (bg s base),ai 1 dP labs] [] (γ:=dw×Int) (yt s (ia v x s labs)) (fun _=>[]) (fun g=>bD [aC (bg g.1 base),ag .i64 g.2]):=by
 refine In 517 Tryz.func136 fun _ _ _=> ?_
 have hs5:=av.stk
 have oN:=av.ins.A0
 have DK:=av.ins.ym
 have qX:=av.Ch
 have hE:=av.env
 have AE:=hE.F
 have AF:=hE.S
 have DL:=hE.L
 have DM:=hE.G
 have ry:=hE.W
 refine Z4 ?_
 refine .n (bT (.t rfl)) rfl fun b6 _=> ?_
 refine .n (ax FZ.out) rfl fun b8 _=> ?_
 refine Bw ?_
 refine Cd (fun c0=> ?_) fun c0=> ?_
 · exfalso;omega
 refine Z7 ?_
 refine Cd (fun c1=> ?_) fun c1=> ?_
 ·
  refine Z2 ?_
  refine Cd (fun c2=> ?_) fun c2=> ?_
  ·
   refine cK ?_
   refine Cd (fun c3=> ?_) fun c3=> ?_
   ·
    have hno:=vP (L:=labs) c3
    refine cT ?_
    refine Post.bf rfl rfl ((s,2)) (by exact ei (by decide) (by rw [wZ hp1,hno];rfl) (by omega)) (aB.dD [] [0,1] rfl rfl) rfl (.cons (.ra (i:=0) FA.out FC.out rfl rfl rfl rfl) ?_ (.cons (.rt rfl) ?_ .nil))
    · exact af.refl _
    exact af.refl _
   obtain ⟨w,hw,p9⟩:=vO (L:=labs) oN c3
   have hwl:w.length≤20:=av.lbw w (List.mem_of_getElem? p9)
   refine cT ?_
   refine .p (cI (labs.length-1-x.A.toNat) (h:=p9)) rfl ?_
   refine dM ?_
   refine Cd (fun c4=> ?_) fun c4=> ?_
   · exfalso;omega
   refine Z6 ?_
   refine .n (cE (h:=bW (s:=s) (l:=w) (by omega))) rfl fun Uw Qp=> ?_
   refine iW ?_
   refine Cd (fun c5=> ?_) fun c5=> ?_
   ·
    refine dM ?_
    refine Post.bf rfl rfl (Uw) (by exact ei c5 (by rw [wZ hp1,hw,Option.bind_some,Qp.no c5];rfl) (by have:=Qp.2;omega)) (aB.dD [] [0,1] rfl rfl) rfl (.cons (.ra (i:=0) FA.out FC.out rfl rfl rfl rfl) ?_ (.cons (.rt rfl) ?_ .nil))
    · exact af.refl _
    exact af.refl _
   refine cK ?_
   refine Cd (fun c6=> ?_) fun c6=> ?_
   ·
    refine Z3 ?_
    refine .n (cE (h:=qR (s:=Uw.1))) rfl fun g84 Xb=> ?_
    refine Z8 ?_
    refine Post.bf rfl rfl ((eO,0)) (by exact uB (by rw [wZ hp1,hw,Option.bind_some,Qp.ok (Classical.not_not.1 c5)];rfl) (by simp [eO])) (aB.dD [] [0,1] rfl rfl) rfl (.cons (.ra (i:=0) FA.out FC.out rfl rfl rfl rfl) ?_ (.cons (.rt rfl) ?_ .nil))
    · exact af.refl _
    exact af.refl _
   exfalso;omega
  exfalso;omega
 exfalso;omega
theorem MV (av:o7 v x s labs) (hp1:x.Code=13):cw Tryz.prog 136 [aC (eB v),aC (aK x),aC (bg s base),ai 1 dP labs] [] (γ:=dw×Int) (yt s (ia v x s labs)) (fun _=>[]) (fun g=>bD [aC (bg g.1 base),ag .i64 g.2]):=by
 refine In 517 Tryz.func136 fun _ _ _=> ?_
 have hs5:=av.stk
 have oN:=av.ins.A0
 have DK:=av.ins.ym
 have qX:=av.Ch
 have hE:=av.env
 have AE:=hE.F
 have AF:=hE.S
 have DL:=hE.L
 have DM:=hE.G
 have ry:=hE.W
 refine Z4 ?_
 refine .n (bT (.t rfl)) rfl fun b6 _=> ?_
 refine .n (ax FZ.out) rfl fun b8 _=> ?_
 refine Bw ?_
 refine Cd (fun c0=> ?_) fun c0=> ?_
 · exfalso;omega
 refine Z7 ?_
 refine Cd (fun c1=> ?_) fun c1=> ?_
 · exfalso;omega
 refine Z5 ?_
 refine Cd (fun c2=> ?_) fun c2=> ?_
 ·
  refine cK ?_
  refine Cd (fun c3=> ?_) fun c3=> ?_
  ·
   have hno:=vP (L:=labs) c3
   refine cT ?_
   refine Post.bf rfl rfl ((s,2)) (by exact ei (by decide) (by rw [sv hp1,hno];rfl) (by omega)) (aB.dD [] [0,1] rfl rfl) rfl (.cons (.ra (i:=0) FA.out FC.out rfl rfl rfl rfl) ?_ (.cons (.rt rfl) ?_ .nil))
   · exact af.refl _
   exact af.refl _
  obtain ⟨w,hw,p9⟩:=vO (L:=labs) oN c3
  have hwl:w.length≤20:=av.lbw w (List.mem_of_getElem? p9)
  refine cT ?_
  refine .p (cI (labs.length-1-x.A.toNat) (h:=p9)) rfl ?_
  refine dM ?_
  refine Cd (fun c4=> ?_) fun c4=> ?_
  ·
   refine Z4 ?_
   refine .p (cB aj [127]) rfl ?_
   refine .n (cE (h:=bW (s:=s) (l:=[127]) (by omega))) rfl fun g63 h63=> ?_
   refine lg ?_
   refine Cd (fun c5=> ?_) fun c5=> ?_
   ·
    refine dM ?_
    refine Post.bf rfl rfl (g63) (by exact ei c5 (by rw [sv hp1,hw,Option.bind_some,pS,xk,h63.no c5];rfl) (by have:=h63.2;omega)) (aB.dD [] [0,1] rfl rfl) rfl (.cons (.ra (i:=0) FA.out FC.out rfl rfl rfl rfl) ?_ (.cons (.rt rfl) ?_ .nil))
    · exact af.refl _
    exact af.refl _
   refine Z6 ?_
   refine .n (cE (h:=bW (s:=g63.1) (l:=w) (by have:=h63.2;omega))) rfl fun Uw Qp=> ?_
   refine iW ?_
   refine Cd (fun c6=> ?_) fun c6=> ?_
   ·
    refine dM ?_
    refine Post.bf rfl rfl (Uw) (by exact ei c6 (by rw [sv hp1,hw,Option.bind_some,pS,xk,h63.ok (Classical.not_not.1 c5),Option.bind_some,Qp.no c6];rfl) (by have:=h63.2;have:=Qp.2;omega)) (aB.dD [] [0,1] rfl rfl) rfl (.cons (.ra (i:=0) FA.out FC.out rfl rfl rfl rfl) ?_ (.cons (.rt rfl) ?_ .nil))
    · exact af.refl _
    exact af.refl _
   refine cK ?_
   refine Cd (fun c7=> ?_) fun c7=> ?_
   · exfalso;omega
   refine Z6 ?_
   refine .n (cE (h:=dQ (s:=Uw.1) (l:=w) (by have:=h63.2;have:=Qp.2;omega) (by omega))) rfl fun g87 h87=> ?_
   refine Z7 ?_
   refine Post.bf rfl rfl ((bC Uw.1 w,0)) (by exact uB (by rw [sv hp1,hw,Option.bind_some,pS,xk,h63.ok (Classical.not_not.1 c5),Option.bind_some,Qp.ok (Classical.not_not.1 c6)];rfl) (by have:=h63.2;have:=Qp.2;simp only [bC,List.length_append];omega)) (aB.dD [] [0,1] rfl rfl) rfl (.cons (.ra (i:=0) FA.out FC.out rfl rfl rfl rfl) ?_ (.cons (.rt rfl) ?_ .nil))
   · exact af.refl _
   exact af.refl _
  exfalso;omega
 exfalso;omega
theorem MW (av:o7 v x s labs) (hp1:x.Code=15):cw Tryz.prog 136 [aC (eB v),aC (aK x),aC (bg s base),ai 1 dP labs] [] (γ:=dw×Int) (yt s (ia v x s labs)) (fun _=>[]) (fun g=>bD [aC (bg g.1 base),ag .i64 g.2]):=by
 refine In 517 Tryz.func136 fun _ _ _=> ?_
 have hs5:=av.stk
 have oN:=av.ins.A0
 have DK:=av.ins.ym
 have qX:=av.Ch
 have hE:=av.env
 have AE:=hE.F
 have AF:=hE.S
 have DL:=hE.L
 have DM:=hE.G
 have ry:=hE.W
 refine Z4 ?_
 refine .n (bT (.t rfl)) rfl fun b6 _=> ?_
 refine .n (ax FZ.out) rfl fun b8 _=> ?_
 refine Bw ?_
 refine Cd (fun c0=> ?_) fun c0=> ?_
 · exfalso;omega
 refine Z7 ?_
 refine Cd (fun c1=> ?_) fun c1=> ?_
 · exfalso;omega
 refine Z5 ?_
 refine Cd (fun c2=> ?_) fun c2=> ?_
 · exfalso;omega
 refine Z6 ?_
 refine Cd (fun c3=> ?_) fun c3=> ?_
 · exfalso;omega
 refine Z6 ?_
 refine Cd (fun c4=> ?_) fun c4=> ?_
 ·
  refine Z6 ?_
  refine .n (cE (h:=bW (s:=s) (l:=v.cS.R) (by omega))) rfl fun Xr UD=> ?_
  refine iW ?_
  refine Cd (fun c5=> ?_) fun c5=> ?_
  ·
   refine dM ?_
   refine Post.bf rfl rfl (Xr) (by exact ei c5 (by rw [Dh hp1,UD.no c5];rfl) (by have:=UD.2;omega)) (aB.dD [] [0,1] rfl rfl) rfl (.cons (.ra (i:=0) FA.out FC.out rfl rfl rfl rfl) ?_ (.cons (.rt rfl) ?_ .nil))
   · exact af.refl _
   exact af.refl _
  refine Z5 ?_
  refine .n (cE (h:=qR (s:=Xr.1))) rfl fun bv8 bv9=> ?_
  refine Z7 ?_
  refine Post.bf rfl rfl ((eO,0)) (by exact uB (by rw [Dh hp1,UD.ok (Classical.not_not.1 c5)];rfl) (by simp [eO])) (aB.dD [] [0,1] rfl rfl) rfl (.cons (.ra (i:=0) FA.out FC.out rfl rfl rfl rfl) ?_ (.cons (.rt rfl) ?_ .nil))
  · exact af.refl _
  exact af.refl _
 exfalso;omega
theorem MX (av:o7 v x s labs) (hp1:x.Code=16):cw Tryz.prog 136 [aC (eB v),aC (aK x),aC (bg s base),ai 1 dP labs] [] (γ:=dw×Int) (yt s (ia v x s labs)) (fun _=>[]) (fun g=>bD [aC (bg g.1 base),ag .i64 g.2]):=by
 refine In 517 Tryz.func136 fun _ _ _=> ?_
 have hs5:=av.stk
 have oN:=av.ins.A0
 have DK:=av.ins.ym
 have qX:=av.Ch
 have hE:=av.env
 have AE:=hE.F
 have AF:=hE.S
 have DL:=hE.L
 have DM:=hE.G
 have ry:=hE.W
 refine Z4 ?_
 refine .n (bT (.t rfl)) rfl fun b6 _=> ?_
 refine .n (ax FZ.out) rfl fun b8 _=> ?_
 refine Bw ?_
 refine Cd (fun c0=> ?_) fun c0=> ?_
 · exfalso;omega
 refine Z7 ?_
 refine Cd (fun c1=> ?_) fun c1=> ?_
 · exfalso;omega
 refine Z5 ?_
 refine Cd (fun c2=> ?_) fun c2=> ?_
 · exfalso;omega
 refine Z6 ?_
 refine Cd (fun c3=> ?_) fun c3=> ?_
 · exfalso;omega
 refine Z6 ?_
 refine Cd (fun c4=> ?_) fun c4=> ?_
 · exfalso;omega
 refine Z6 ?_
 refine Cd (fun c5=> ?_) fun c5=> ?_
 ·
  refine dM ?_
  refine Cd (fun c6=> ?_) fun c6=> ?_
  ·
   have hno:=jH (L:=v.ay) c6
   refine cT ?_
   refine Post.bf rfl rfl ((s,2)) (by exact ei (by decide) (by rw [Aj hp1,hno];rfl) (by omega)) (aB.dD [] [0,1] rfl rfl) rfl (.cons (.ra (i:=0) FA.out FC.out rfl rfl rfl rfl) ?_ (.cons (.rt rfl) ?_ .nil))
   · exact af.refl _
   exact af.refl _
  obtain ⟨sg,hw,p9⟩:=iT (L:=v.ay) oN c6
  refine Z3 ?_
  have RY:=hE.sf sg (List.mem_of_getElem? p9)
  refine .bP [(0,1),(1,0),(2,0),(3,0),(4,0),(5,0),(6,0),(7,0),(8,2),(9,0),(10,0),(11,0),(12,3)] 13 1 FM.out (by kernel_rfl) (k:= ?_)
  refine Z5 ?_
  refine .p rfl (fun _=>aO (j:=x.A.toNat) FU.out FC.out rfl (.t rfl) (.t rfl) (by omega) p9) ?_
  refine Z2 ?_
  refine .e rfl (cE (h:=bW (s:=s) (l:=sg.P) (by omega))) fun UE Xs=> ?_
  refine Z3 ?_
  refine .s rfl (gA (i:=1) FC.out rfl (.t rfl) (.t rfl) rfl rfl rfl) ?_
  refine .fin ?_
  refine Z4 ?_
  refine .bP [(0,1),(1,0),(2,0),(3,0),(4,0),(5,0),(6,0),(7,0),(9,0),(8,2),(10,3)] 11 1 FM.out (by kernel_rfl) (k:= ?_)
  refine Z5 ?_
  refine .p rfl (fun _=>aO (j:=x.A.toNat) FU.out FC.out rfl (.t rfl) (.t rfl) (by omega) p9) ?_
  refine Z3 ?_
  refine .e rfl (cE (h:=dQ (s:=UE.1) (l:=sg.R) (by have:=Xs.2;omega) (by omega))) fun bw0 bw1=> ?_
  refine .s rfl (gA (i:=0) FC.out rfl (.t rfl) (.t rfl) rfl rfl rfl) ?_
  refine .fin ?_
  refine Z6 ?_
  refine Post.bf rfl rfl ((bC UE.1 sg.R,UE.2)) (by exact qP (by rw [Aj hp1,hw,Option.bind_some]) Xs RY.2) (aB.dD [] [0,1] rfl rfl) rfl (.cons (.ra (i:=0) FA.out FC.out rfl rfl rfl rfl) ?_ (.cons (.rt rfl) ?_ .nil))
  · exact af.refl _
  exact af.refl _
 exfalso;omega
theorem MY (av:o7 v x s labs) (hp1:x.Code=26):cw Tryz.prog 136 [aC (eB v),aC (aK x),aC (bg s base),ai 1 dP labs] [] (γ:=dw×Int) (yt s (ia v x s labs)) (fun _=>[]) (fun g=>bD [aC (bg g.1 base),ag .i64 g.2]):=by
 refine In 517 Tryz.func136 fun _ _ _=> ?_
 have hs5:=av.stk
 have oN:=av.ins.A0
 have DK:=av.ins.ym
 have qX:=av.Ch
 have hE:=av.env
 have AE:=hE.F
 have AF:=hE.S
 have DL:=hE.L
 have DM:=hE.G
 have ry:=hE.W
 refine Z4 ?_
 refine .n (bT (.t rfl)) rfl fun b6 _=> ?_
 refine .n (ax FZ.out) rfl fun b8 _=> ?_
 refine Bw ?_
 refine Cd (fun c0=> ?_) fun c0=> ?_
 · exfalso;omega
 refine Z7 ?_
 refine Cd (fun c1=> ?_) fun c1=> ?_
 · exfalso;omega
 refine Z5 ?_
 refine Cd (fun c2=> ?_) fun c2=> ?_
 · exfalso;omega
 refine Z6 ?_
 refine Cd (fun c3=> ?_) fun c3=> ?_
 · exfalso;omega
 refine Z6 ?_
 refine Cd (fun c4=> ?_) fun c4=> ?_
 · exfalso;omega
 refine Z6 ?_
 refine Cd (fun c5=> ?_) fun c5=> ?_
 · exfalso;omega
 refine Z6 ?_
 refine Cd (fun c6=> ?_) fun c6=> ?_
 · exfalso;omega
 refine Z6 ?_
 refine Cd (fun c7=> ?_) fun c7=> ?_
 ·
  refine Z3 ?_
  refine .n (cE (h:=qQ (s:=s) (w:=0) (by omega))) rfl fun UF Xt=> ?_
  refine EC ?_
  refine Post.bf rfl rfl ((UF.1,UF.2.2)) (by exact ⟨by (rw [IJ hp1];rcases Xt.1 with ⟨h1,h2⟩|⟨h1,h2⟩;exact .inl ⟨h1,by rw [h2];rfl⟩;exact .inr ⟨h1,by rw [h2];rfl⟩),by have:=Xt.2;(show UF.1.1.length≤_;omega)⟩) (aB.dD [] [0,1] rfl rfl) rfl (.cons (.ra (i:=0) FA.out FC.out rfl rfl rfl rfl) ?_ (.cons (.rt rfl) ?_ .nil))
  · exact af.refl _
  exact af.refl _
 exfalso;omega
theorem MZ (av:o7 v x s labs) (hp1:x.Code=27):cw Tryz.prog 136 [aC (eB v),aC (aK x),aC (bg s base),ai 1 dP labs] [] (γ:=dw×Int) (yt s (ia v x s labs)) (fun _=>[]) (fun g=>bD [aC (bg g.1 base),ag .i64 g.2]):=by
 refine In 517 Tryz.func136 fun _ _ _=> ?_
 have hs5:=av.stk
 have oN:=av.ins.A0
 have DK:=av.ins.ym
 have qX:=av.Ch
 have hE:=av.env
 have AE:=hE.F
 have AF:=hE.S
 have DL:=hE.L
 have DM:=hE.G
 have ry:=hE.W
 refine Z4 ?_
 refine .n (bT (.t rfl)) rfl fun b6 _=> ?_
 refine .n (ax FZ.out) rfl fun b8 _=> ?_
 refine Bw ?_
 refine Cd (fun c0=> ?_) fun c0=> ?_
 · exfalso;omega
 refine Z7 ?_
 refine Cd (fun c1=> ?_) fun c1=> ?_
 · exfalso;omega
 refine Z5 ?_
 refine Cd (fun c2=> ?_) fun c2=> ?_
 · exfalso;omega
 refine Z6 ?_
 refine Cd (fun c3=> ?_) fun c3=> ?_
 · exfalso;omega
 refine Z6 ?_
 refine Cd (fun c4=> ?_) fun c4=> ?_
 · exfalso;omega
 refine Z6 ?_
 refine Cd (fun c5=> ?_) fun c5=> ?_
 · exfalso;omega
 refine Z6 ?_
 refine Cd (fun c6=> ?_) fun c6=> ?_
 · exfalso;omega
 refine Z6 ?_
 refine Cd (fun c7=> ?_) fun c7=> ?_
 · exfalso;omega
 refine Z6 ?_
 refine Cd (fun c8=> ?_) fun c8=> ?_
 ·
  refine Z4 ?_
  refine .p (cB aj [127]) rfl ?_
  refine .n (cE (h:=bW (s:=s) (l:=[127]) (by omega))) rfl fun Xu DN=> ?_
  refine iW ?_
  refine Cd (fun c9=> ?_) fun c9=> ?_
  ·
   refine dM ?_
   refine Post.bf rfl rfl (Xu) (by exact ei c9 (by rw [uk hp1,DN.no c9];rfl) (by have:=DN.2;omega)) (aB.dD [] [0,1] rfl rfl) rfl (.cons (.ra (i:=0) FA.out FC.out rfl rfl rfl rfl) ?_ (.cons (.rt rfl) ?_ .nil))
   · exact af.refl _
   exact af.refl _
  refine cT ?_
  refine .n (cE (h:=qQ (s:=Xu.1) (w:=0) (by have:=DN.2;omega))) rfl fun Sb M0=> ?_
  refine D0 ?_
  refine Cd (fun lq=> ?_) fun lq=> ?_
  ·
   refine dM ?_
   refine Post.bf rfl rfl ((Sb.1,Sb.2.2)) (by exact ei lq (by rw [uk hp1,DN.ok (Classical.not_not.1 c9),Option.bind_some,M0.no lq];rfl) (by have:=DN.2;have:=M0.2;omega)) (aB.dD [] [0,1] rfl rfl) rfl (.cons (.ra (i:=0) FA.out FC.out rfl rfl rfl rfl) ?_ (.cons (.rt rfl) ?_ .nil))
   · exact af.refl _
   exact af.refl _
  refine Z6 ?_
  refine .n (cE (h:=qQ (s:=Sb.1) (w:=Sb.2.1) (by have:=DN.2;have:=M0.2;omega))) rfl fun JC UG=> ?_
  refine lg ?_
  refine .p (cB aj [JC.2.1]) rfl ?_
  refine .n (cE (h:=dQ (s:=JC.1) (l:=[JC.2.1]) (by have:=DN.2;have:=M0.2;have:=UG.2;omega) (by simp))) rfl fun bw2 bw3=> ?_
  refine Z8 ?_
  refine Post.bf rfl rfl ((bC JC.1 [JC.2.1],JC.2.2)) (by exact ⟨by (rw [uk hp1,DN.ok (Classical.not_not.1 c9),Option.bind_some,M0.ok (Classical.not_not.1 lq),Option.bind_some];rcases UG.1 with ⟨h1,h2⟩|⟨h1,h2⟩;exact .inl ⟨h1,by rw [h2];rfl⟩;exact .inr ⟨h1,by rw [h2];rfl⟩),by have:=DN.2;have:=M0.2;have:=UG.2;(show (JC.1.1++_).length≤_;rw [List.length_append];simp only [List.length_cons,List.length_nil];omega)⟩) (aB.dD [] [0,1] rfl rfl) rfl (.cons (.ra (i:=0) FA.out FC.out rfl rfl rfl rfl) ?_ (.cons (.rt rfl) ?_ .nil))
  · exact af.refl _
  exact af.refl _
 exfalso;omega
theorem M1 (av:o7 v x s labs) (hp1:x.Code=14):cw Tryz.prog 136 [aC (eB v),aC (aK x),aC (bg s base),ai 1 dP labs] [] (γ:=dw×Int) (yt s (ia v x s labs)) (fun _=>[]) (fun g=>bD [aC (bg g.1 base),ag .i64 g.2]):=by
 refine In 517 Tryz.func136 fun _ _ _=> ?_
 have hs5:=av.stk
 have oN:=av.ins.A0
 have DK:=av.ins.ym
 have qX:=av.Ch
 have hE:=av.env
 have AE:=hE.F
 have AF:=hE.S
 have DL:=hE.L
 have DM:=hE.G
 have ry:=hE.W
 have hLn:=av.ins.Ln
 refine Z4 ?_
 refine .n (bT (.t rfl)) rfl fun b6 _=> ?_
 refine .n (ax FZ.out) rfl fun b8 _=> ?_
 refine Bw ?_
 refine Cd (fun c0=> ?_) fun c0=> ?_
 · exfalso;omega
 refine Z7 ?_
 refine Cd (fun c1=> ?_) fun c1=> ?_
 · exfalso;omega
 refine Z5 ?_
 refine Cd (fun c2=> ?_) fun c2=> ?_
 · exfalso;omega
 refine Z6 ?_
 refine Cd (fun c3=> ?_) fun c3=> ?_
 ·
  refine cK ?_
  refine Cd (fun c4=> ?_) fun c4=> ?_
  ·
   have hno:=vP (L:=labs) c4
   refine cT ?_
   refine Post.bf rfl rfl ((s,2)) (by exact ei (by decide) (by rw [mP hp1,hno];rfl) (by omega)) (aB.dD [] [0,1] rfl rfl) rfl (.cons (.ra (i:=0) FA.out FC.out rfl rfl rfl rfl) ?_ (.cons (.rt rfl) ?_ .nil))
   · exact af.refl _
   exact af.refl _
  obtain ⟨w,hw,p9⟩:=vO (L:=labs) oN c4
  have hwl:w.length≤20:=av.lbw w (List.mem_of_getElem? p9)
  refine cT ?_
  refine .p (cI (labs.length-1-x.A.toNat) (h:=p9)) rfl ?_
  refine cT ?_
  refine .aT (σ:=Nat) (fun _=>[az b8 (List.map aa [.slice none 0 0, .bool false, .int .i64 0]),az b6 (bg s base)]) (fun k=>[(16,ag .i64 (k:Int))]) (fun k=>k≤x.L.length∧∀n∈x.L.take k,n<(labs.length:Int)) (fun k=>x.L.length-k) 0 ⟨Nat.zero_le _,by simp⟩ rfl ?_ ?_
  · exact (.get rfl (af.refl _) (.refl _ _))
  rintro k ⟨hk,hall⟩
  refine cK ?_
  refine Cd (fun c5=> ?_) fun c5=> ?_
  ·
   obtain ⟨n,hn⟩:=ah (xs:=x.L) (k:=k) (by omega)
   have hn0:=av.ins.L0 n (List.mem_of_getElem? hn)
   refine Z9 ?_
   refine .p (cI k (h:=hn)) rfl ?_
   refine Z6 ?_
   refine Cd (fun c6=> ?_) fun c6=> ?_
   ·
    refine nZ ?_
    refine Post.bf rfl rfl ((s,2)) (by exact ei (by decide) (by rw [mP hp1,hw,Option.bind_some];exact if_neg (fun h=>by have h9:=h n (List.mem_of_getElem? hn);rw [vP c6] at h9;cases h9)) (by omega)) (aB.dD [] [0,1] rfl rfl) rfl (.cons (.ra (i:=0) FA.out FC.out rfl rfl rfl rfl) ?_ (.cons (.rt rfl) ?_ .nil))
    · exact af.refl _
    exact af.refl _
   refine Z8 ?_
   refine .round (k+1) ⟨by omega,fun y hy=>by (rw [←bn hn] at hy;rcases List.mem_append.1 hy with hy|hy;exact hall y hy;(simp only [List.mem_singleton] at hy;subst hy;omega))⟩ (by omega) rfl ?_
   exact (.get rfl (af.int (by omega)) ((.keep 17 rfl rfl)))
  have PT:∀n∈x.L,n<(labs.length:Int):=fun n hn=>hall n (by rw [List.take_of_length_le (by omega)];exact hn)
  refine dM ?_
  refine .aT (σ:=Nat) (fun _=>[az b8 (List.map aa [.slice none 0 0, .bool false, .int .i64 0]),az b6 (bg s base)]) (fun k=>[(17,ag .i64 (k:Int))]) (fun k=>k≤x.L.length∧∀n∈x.L.take k,jj labs n=some w) (fun k=>x.L.length-k) 0 ⟨Nat.zero_le _,by simp⟩ rfl ?_ ?_
  · exact (.get rfl (af.refl _) (.refl _ _))
  rintro k ⟨hk,hall⟩
  refine cK ?_
  refine Cd (fun c7=> ?_) fun c7=> ?_
  ·
   obtain ⟨n,hn⟩:=ah (xs:=x.L) (k:=k) (by omega)
   have hnm:=List.mem_of_getElem? hn
   have hn0:=av.ins.L0 n hnm
   have Vt:=PT n hnm
   obtain ⟨w2,Qk,hw4⟩:=vO (L:=labs) hn0 (by omega)
   refine dM ?_
   refine .p (cI k (h:=hn)) rfl ?_
   refine Z3 ?_
   refine .p (cI (labs.length-1-n.toNat) (h:=hw4)) rfl ?_
   refine Z2 ?_
   refine .p (cA (h:=JB)) rfl ?_
   refine Z3 ?_
   refine Cd (fun c8=> ?_) fun c8=> ?_
   ·
    refine nZ ?_
    refine Post.bf rfl rfl ((s,5)) (by exact ei (by decide) (by rw [mP hp1,hw,Option.bind_some];exact if_neg (fun h=>c8 (by have h9:=h n hnm;rw [Qk] at h9;exact Option.some.inj h9))) (by omega)) (aB.dD [] [0,1] rfl rfl) rfl (.cons (.ra (i:=0) FA.out FC.out rfl rfl rfl rfl) ?_ (.cons (.rt rfl) ?_ .nil))
    · exact af.refl _
    exact af.refl _
   refine Z8 ?_
   refine .round (k+1) ⟨by omega,fun y hy=>by (rw [←bn hn] at hy;rcases List.mem_append.1 hy with hy|hy;exact hall y hy;(simp only [List.mem_singleton] at hy;subst hy;exact Qk.trans (by rw [Classical.not_not.1 c8])))⟩ (by omega) rfl ?_
   exact (.get rfl (af.int (by omega)) ((.keep 24 rfl rfl)))
  have tH:∀n∈x.L,jj labs n=some w:=fun n hn=>hall n (by rw [List.take_of_length_le (by omega)];exact hn)
  refine Z6 ?_
  refine .Cy (FR:=[az b6 (bg s base)]) [(0,1),(2,0),(4,0),(5,0),(1,4),(3,4),(6,4),(7,4),(8,0),(9,0),(10,0),(11,3)] 12 1 FM.out (by kernel_rfl) ?_
  refine .o rfl (iX (i:=0) FA.out FC.out rfl (.t rfl) rfl rfl) (aB.dD [1] [0] rfl rfl) ?_
  refine Z2 ?_
  refine .p rfl (fun _=>bF (enc:=aj) [127] FU.out FC.out rfl FZ.out rfl (.cons (.t rfl) .nil) rfl rfl rfl rfl rfl) ?_
  refine .a rfl (cq aj ([]:List UInt8) FU.out FC.out rfl FZ.out rfl .nil rfl rfl rfl rfl rfl) (fun _ _=>(aB.dD [2] [0,1] rfl rfl)) fun an0 _=> ?_
  refine .a rfl (aD (i:=0) FU.out FU.out FC.out rfl FZ.out rfl FY.out (.t rfl) (.t rfl) rfl (by simp<;>omega) (by simp<;>omega)) (fun _ _=>(aB.dD [2] [0,1] rfl rfl)) fun bw4 _=> ?_
  refine .a rfl (fV.er (G:=fun g=>g) (hs1:=fun _=>_) (xs:=fun _=>_) (aD (i:=0) FU.out FU.out FC.out rfl FZ.out rfl FY.out (.t rfl) (.t rfl) rfl (by simp<;>omega) (by simp<;>omega))) (fun _ _=>(aB.dD [1] [0] rfl rfl)) fun _ _=> ?_
  refine .a rfl (cE (h:=bW (s:=s) (l:=([]++w)++[127]) (by omega))) (fun _ _=>(aB.dD [1] [0] rfl rfl)) fun UH UI=> ?_
  refine Z3 ?_
  refine .s rfl (gA (i:=1) FC.out rfl (.t rfl) (.t rfl) rfl rfl rfl) ?_
  refine .fin ?_
  refine cK ?_
  refine Cd (fun c9=> ?_) fun c9=> ?_
  ·
   refine dM ?_
   refine Post.bf rfl rfl (UH) (by exact ei c9 (by rw [mP hp1,hw,Option.bind_some];exact (if_pos tH).trans (by rw [show cQ s (w++[127])=none from UI.no c9];rfl)) (by have:=UI.2;omega)) (aB.dD [] [0,1] rfl rfl) rfl (.cons (.ra (i:=0) FA.out FC.out rfl rfl rfl rfl) ?_ (.cons (.rt rfl) ?_ .nil))
   · exact af.refl _
   exact af.refl _
  refine Z5 ?_
  refine .n (cE (h:=qR (s:=UH.1))) rfl fun bw5 bw6=> ?_
  refine Z7 ?_
  refine Post.bf rfl rfl ((eO,0)) (by exact uB (by rw [mP hp1,hw,Option.bind_some];exact (if_pos tH).trans (by rw [show cQ s (w++[127])=some UH.1 from UI.ok (Classical.not_not.1 c9)];rfl)) (by simp [eO])) (aB.dD [] [0,1] rfl rfl) rfl (.cons (.ra (i:=0) FA.out FC.out rfl rfl rfl rfl) ?_ (.cons (.rt rfl) ?_ .nil))
  · exact af.refl _
  exact af.refl _
 exfalso;omega
theorem M3 (av:o7 v x s labs) (hp1:x.Code=17):cw Tryz.prog 136 [aC (eB v),aC (aK x),aC (bg s base),ai 1 dP labs] [] (γ:=dw×Int) (yt s (ia v x s labs)) (fun _=>[]) (fun g=>bD [aC (bg g.1 base),ag .i64 g.2]):=by
 refine In 517 Tryz.func136 fun _ _ _=> ?_
 have hs5:=av.stk
 have oN:=av.ins.A0
 have DK:=av.ins.ym
 have qX:=av.Ch
 have hE:=av.env
 have AE:=hE.F
 have AF:=hE.S
 have DL:=hE.L
 have DM:=hE.G
 have ry:=hE.W
 refine Z4 ?_
 refine .n (bT (.t rfl)) rfl fun b6 _=> ?_
 refine .n (ax FZ.out) rfl fun b8 _=> ?_
 refine Bw ?_
 refine Cd (fun c0=> ?_) fun c0=> ?_
 · exfalso;omega
 refine Z7 ?_
 refine Cd (fun c1=> ?_) fun c1=> ?_
 · exfalso;omega
 refine Z5 ?_
 refine Cd (fun c2=> ?_) fun c2=> ?_
 · exfalso;omega
 refine Z6 ?_
 refine Cd (fun c3=> ?_) fun c3=> ?_
 · exfalso;omega
 refine Z6 ?_
 refine Cd (fun c4=> ?_) fun c4=> ?_
 · exfalso;omega
 refine Z6 ?_
 refine Cd (fun c5=> ?_) fun c5=> ?_
 · exfalso;omega
 refine Z6 ?_
 refine Cd (fun c6=> ?_) fun c6=> ?_
 ·
  refine Z22 ?_
  refine Cd (fun c7=> ?_) fun c7=> ?_
  ·
   refine cT ?_
   refine Post.bf rfl rfl ((s,2)) (by exact ei (by decide) (by (rw [w5 hp1];rcases c7 with (h|h)|h;(rw [jH h];rfl);(cases ec v.bR x.A with|none=>rfl|some g=>exact if_neg (fun h2=>h h2.1));(cases ec v.bR x.A with|none=>rfl|some g=>exact if_neg (fun h2=>h h2.2)))) (by omega)) (aB.dD [] [0,1] rfl rfl) rfl (.cons (.ra (i:=0) FA.out FC.out rfl rfl rfl rfl) ?_ (.cons (.rt rfl) ?_ .nil))
   · exact af.refl _
   exact af.refl _
  obtain ⟨sg,hw,p9⟩:=iT (L:=v.bR) oN (fun h=>c7 (.inl (.inl h)))
  have hxB:x.B=0:=Classical.byContradiction fun h=>c7 (.inl (.inr h))
  have hvT:v.Table:=Classical.byContradiction fun h=>c7 (.inr h)
  have RY:=hE.ss sg (List.mem_of_getElem? p9)
  refine Z3 ?_
  refine .Cy (FR:=[az b6 (bg s base)]) [(0,1),(2,0),(3,0),(4,0),(5,0),(6,0),(7,0),(8,0),(10,0),(11,0),(1,4),(9,4),(12,4),(13,4),(14,0),(15,0),(16,0),(17,3)] 18 1 FM.out (by kernel_rfl) ?_
  refine .o rfl (iX (i:=0) FA.out FC.out rfl (.t rfl) rfl rfl) (aB.dD [1] [0] rfl rfl) ?_
  refine Z4 ?_
  refine .p rfl (fun _=>aO (j:=x.A.toNat) FU.out FC.out rfl (.t rfl) (.t rfl) (by omega) p9) ?_
  refine Z3 ?_
  refine .p rfl (fun _=>bF (enc:=aj) [127] FU.out FC.out rfl FZ.out rfl (.cons (.t rfl) .nil) rfl rfl rfl rfl rfl) ?_
  refine .a rfl (cq aj ([]:List UInt8) FU.out FC.out rfl FZ.out rfl .nil rfl rfl rfl rfl rfl) (fun _ _=>(aB.dD [2] [0,1] rfl rfl)) fun bw7 _=> ?_
  refine .a rfl (aD (i:=0) FU.out FU.out FC.out rfl FZ.out rfl FY.out (.t rfl) (.t rfl) rfl (by simp<;>omega) (by simp<;>omega)) (fun _ _=>(aB.dD [2] [0,1] rfl rfl)) fun bw8 _=> ?_
  refine .a rfl (fV.er (G:=fun g=>g) (hs1:=fun _=>_) (xs:=fun _=>_) (aD (i:=0) FU.out FU.out FC.out rfl FZ.out rfl FY.out (.t rfl) (.t rfl) rfl (by simp<;>omega) (by simp<;>omega))) (fun _ _=>(aB.dD [1] [0] rfl rfl)) fun _ _=> ?_
  refine .a rfl (cE (h:=bW (s:=s) (l:=([]++sg.P)++[127]) (by omega))) (fun _ _=>(aB.dD [1] [0] rfl rfl)) fun UJ Xv=> ?_
  refine Z3 ?_
  refine .s rfl (gA (i:=1) FC.out rfl (.t rfl) (.t rfl) rfl rfl rfl) ?_
  refine .fin ?_
  refine Z4 ?_
  refine .bP [(0,1),(1,0),(2,0),(3,0),(4,0),(5,0),(6,0),(7,0),(9,0),(8,2),(10,3)] 11 1 FM.out (by kernel_rfl) (k:= ?_)
  refine Z5 ?_
  refine .p rfl (fun _=>aO (j:=x.A.toNat) FU.out FC.out rfl (.t rfl) (.t rfl) (by omega) p9) ?_
  refine Z3 ?_
  refine .e rfl (cE (h:=dQ (s:=UJ.1) (l:=sg.R) (by have:=Xv.2;omega) (by omega))) fun bw9 bx0=> ?_
  refine .s rfl (gA (i:=0) FC.out rfl (.t rfl) (.t rfl) rfl rfl rfl) ?_
  refine .fin ?_
  refine Z6 ?_
  refine Post.bf rfl rfl ((bC UJ.1 sg.R,UJ.2)) (by exact qP (i:=sg.P++[127]) (by rw [w5 hp1,hw,Option.bind_some];exact if_pos ⟨hxB,hvT⟩) Xv RY.2) (aB.dD [] [0,1] rfl rfl) rfl (.cons (.ra (i:=0) FA.out FC.out rfl rfl rfl rfl) ?_ (.cons (.rt rfl) ?_ .nil))
  · exact af.refl _
  exact af.refl _
 exfalso;omega
theorem M4 (av:o7 v x s labs) (hp1:x.Code=32):cw Tryz.prog 136 [aC (eB v),aC (aK x),aC (bg s base),ai 1 dP labs] [] (γ:=dw×Int) (yt s (ia v x s labs)) (fun _=>[]) (fun g=>bD [aC (bg g.1 base),ag .i64 g.2]):=by
 refine In 517 Tryz.func136 fun _ _ _=> ?_
 have hs5:=av.stk
 have oN:=av.ins.A0
 have DK:=av.ins.ym
 have qX:=av.Ch
 have hE:=av.env
 have AE:=hE.F
 have AF:=hE.S
 have DL:=hE.L
 have DM:=hE.G
 have ry:=hE.W
 refine Z4 ?_
 refine .n (bT (.t rfl)) rfl fun b6 _=> ?_
 refine .n (ax FZ.out) rfl fun b8 _=> ?_
 refine Bw ?_
 refine Cd (fun c0=> ?_) fun c0=> ?_
 · exfalso;omega
 refine Z7 ?_
 refine Cd (fun c1=> ?_) fun c1=> ?_
 · exfalso;omega
 refine Z5 ?_
 refine Cd (fun c2=> ?_) fun c2=> ?_
 · exfalso;omega
 refine Z6 ?_
 refine Cd (fun c3=> ?_) fun c3=> ?_
 · exfalso;omega
 refine Z6 ?_
 refine Cd (fun c4=> ?_) fun c4=> ?_
 · exfalso;omega
 refine Z6 ?_
 refine Cd (fun c5=> ?_) fun c5=> ?_
 · exfalso;omega
 refine Z6 ?_
 refine Cd (fun c6=> ?_) fun c6=> ?_
 · exfalso;omega
 refine Z6 ?_
 refine Cd (fun c7=> ?_) fun c7=> ?_
 · exfalso;omega
 refine Z6 ?_
 refine Cd (fun c8=> ?_) fun c8=> ?_
 · exfalso;omega
 refine Z7 ?_
 refine Cd (fun c9=> ?_) fun c9=> ?_
 ·
  refine Z2 ?_
  refine Cd (fun lq=> ?_) fun lq=> ?_
  ·
   refine dM ?_
   refine Cd (fun nc=> ?_) fun nc=> ?_
   ·
    have hno:=jH (L:=v.aV) nc
    refine cT ?_
    refine Post.bf rfl rfl ((s,2)) (by exact ei (by decide) (by rw [Di hp1,hno];rfl) (by omega)) (aB.dD [] [0,1] rfl rfl) rfl (.cons (.ra (i:=0) FA.out FC.out rfl rfl rfl rfl) ?_ (.cons (.rt rfl) ?_ .nil))
    · exact af.refl _
    exact af.refl _
   obtain ⟨t,hw,p9⟩:=iT (L:=v.aV) oN nc
   refine Z8 ?_
   refine .p (cI x.A.toNat (h:=p9)) rfl ?_
   refine Z1 ?_
   refine .p (cB aj [t]) rfl ?_
   refine cT ?_
   refine Cd (fun o5=> ?_) fun o5=> ?_
   · exfalso;omega
   refine cK ?_
   refine Cd (fun s4=> ?_) fun s4=> ?_
   ·
    refine Z3 ?_
    refine .n (cE (h:=dQ (s:=s) (l:=[t]) (by omega) (by simp))) rfl fun an1 an2=> ?_
    refine iW ?_
    refine Post.bf rfl rfl ((bC s [t],0)) (by exact uB (by rw [Di hp1,hw];rfl) (by simp only [bC,List.length_append,List.length_cons,List.length_nil];omega)) (aB.dD [] [0,1] rfl rfl) rfl (.cons (.ra (i:=0) FA.out FC.out rfl rfl rfl rfl) ?_ (.cons (.rt rfl) ?_ .nil))
    · exact af.refl _
    exact af.refl _
   exfalso;omega
  exfalso;omega
 exfalso;omega
theorem M5 (av:o7 v x s labs) (hp1:x.Code=33):cw Tryz.prog 136 [aC (eB v),aC (aK x),aC (bg s base),ai 1 dP labs] [] (γ:=dw×Int) (yt s (ia v x s labs)) (fun _=>[]) (fun g=>bD [aC (bg g.1 base),ag .i64 g.2]):=by
 refine In 517 Tryz.func136 fun _ _ _=> ?_
 have hs5:=av.stk
 have oN:=av.ins.A0
 have DK:=av.ins.ym
 have qX:=av.Ch
 have hE:=av.env
 have AE:=hE.F
 have AF:=hE.S
 have DL:=hE.L
 have DM:=hE.G
 have ry:=hE.W
 refine Z4 ?_
 refine .n (bT (.t rfl)) rfl fun b6 _=> ?_
 refine .n (ax FZ.out) rfl fun b8 _=> ?_
 refine Bw ?_
 refine Cd (fun c0=> ?_) fun c0=> ?_
 · exfalso;omega
 refine Z7 ?_
 refine Cd (fun c1=> ?_) fun c1=> ?_
 · exfalso;omega
 refine Z5 ?_
 refine Cd (fun c2=> ?_) fun c2=> ?_
 · exfalso;omega
 refine Z6 ?_
 refine Cd (fun c3=> ?_) fun c3=> ?_
 · exfalso;omega
 refine Z6 ?_
 refine Cd (fun c4=> ?_) fun c4=> ?_
 · exfalso;omega
 refine Z6 ?_
 refine Cd (fun c5=> ?_) fun c5=> ?_
 · exfalso;omega
 refine Z6 ?_
 refine Cd (fun c6=> ?_) fun c6=> ?_
 · exfalso;omega
 refine Z6 ?_
 refine Cd (fun c7=> ?_) fun c7=> ?_
 · exfalso;omega
 refine Z6 ?_
 refine Cd (fun c8=> ?_) fun c8=> ?_
 · exfalso;omega
 refine Z7 ?_
 refine Cd (fun c9=> ?_) fun c9=> ?_
 · exfalso;omega
 refine Z6 ?_
 refine Cd (fun lq=> ?_) fun lq=> ?_
 ·
  refine Z2 ?_
  refine Cd (fun nc=> ?_) fun nc=> ?_
  ·
   refine dM ?_
   refine Cd (fun o5=> ?_) fun o5=> ?_
   ·
    have hno:=jH (L:=v.aV) o5
    refine cT ?_
    refine Post.bf rfl rfl ((s,2)) (by exact ei (by decide) (by rw [Ak hp1,hno];rfl) (by omega)) (aB.dD [] [0,1] rfl rfl) rfl (.cons (.ra (i:=0) FA.out FC.out rfl rfl rfl rfl) ?_ (.cons (.rt rfl) ?_ .nil))
    · exact af.refl _
    exact af.refl _
   obtain ⟨t,hw,p9⟩:=iT (L:=v.aV) oN o5
   refine Z8 ?_
   refine .p (cI x.A.toNat (h:=p9)) rfl ?_
   refine Z1 ?_
   refine .p (cB aj [t]) rfl ?_
   refine cT ?_
   refine Cd (fun s4=> ?_) fun s4=> ?_
   ·
    refine Z3 ?_
    refine .n (cE (h:=bW (s:=s) (l:=[t]) (by omega))) rfl fun PU Sc=> ?_
    refine nZ ?_
    refine Cd (fun q9=> ?_) fun q9=> ?_
    · exfalso;omega
    refine lg ?_
    refine Post.bf rfl rfl (PU) (by exact PR (by rw [Ak hp1,hw];rfl) Sc) (aB.dD [] [0,1] rfl rfl) rfl (.cons (.ra (i:=0) FA.out FC.out rfl rfl rfl rfl) ?_ (.cons (.rt rfl) ?_ .nil))
    · exact af.refl _
    exact af.refl _
   exfalso;omega
  exfalso;omega
 exfalso;omega
theorem M6 (av:o7 v x s labs) (hp1:x.Code=34):cw Tryz.prog 136 [aC (eB v),aC (aK x),aC (bg s base),ai 1 dP labs] [] (γ:=dw×Int) (yt s (ia v x s labs)) (fun _=>[]) (fun g=>bD [aC (bg g.1 base),ag .i64 g.2]):=by
 refine In 517 Tryz.func136 fun _ _ _=> ?_
 have hs5:=av.stk
 have oN:=av.ins.A0
 have DK:=av.ins.ym
 have qX:=av.Ch
 have hE:=av.env
 have AE:=hE.F
 have AF:=hE.S
 have DL:=hE.L
 have DM:=hE.G
 have ry:=hE.W
 refine Z4 ?_
 refine .n (bT (.t rfl)) rfl fun b6 _=> ?_
 refine .n (ax FZ.out) rfl fun b8 _=> ?_
 refine Bw ?_
 refine Cd (fun c0=> ?_) fun c0=> ?_
 · exfalso;omega
 refine Z7 ?_
 refine Cd (fun c1=> ?_) fun c1=> ?_
 · exfalso;omega
 refine Z5 ?_
 refine Cd (fun c2=> ?_) fun c2=> ?_
 · exfalso;omega
 refine Z6 ?_
 refine Cd (fun c3=> ?_) fun c3=> ?_
 · exfalso;omega
 refine Z6 ?_
 refine Cd (fun c4=> ?_) fun c4=> ?_
 · exfalso;omega
 refine Z6 ?_
 refine Cd (fun c5=> ?_) fun c5=> ?_
 · exfalso;omega
 refine Z6 ?_
 refine Cd (fun c6=> ?_) fun c6=> ?_
 · exfalso;omega
 refine Z6 ?_
 refine Cd (fun c7=> ?_) fun c7=> ?_
 · exfalso;omega
 refine Z6 ?_
 refine Cd (fun c8=> ?_) fun c8=> ?_
 · exfalso;omega
 refine Z7 ?_
 refine Cd (fun c9=> ?_) fun c9=> ?_
 · exfalso;omega
 refine Z6 ?_
 refine Cd (fun lq=> ?_) fun lq=> ?_
 · exfalso;omega
 refine Z5 ?_
 refine Cd (fun nc=> ?_) fun nc=> ?_
 ·
  refine dM ?_
  refine Cd (fun o5=> ?_) fun o5=> ?_
  ·
   have hno:=jH (L:=v.aV) o5
   refine cT ?_
   refine Post.bf rfl rfl ((s,2)) (by exact ei (by decide) (by rw [Al hp1,hno];rfl) (by omega)) (aB.dD [] [0,1] rfl rfl) rfl (.cons (.ra (i:=0) FA.out FC.out rfl rfl rfl rfl) ?_ (.cons (.rt rfl) ?_ .nil))
   · exact af.refl _
   exact af.refl _
  obtain ⟨t,hw,p9⟩:=iT (L:=v.aV) oN o5
  refine Z8 ?_
  refine .p (cI x.A.toNat (h:=p9)) rfl ?_
  refine Z1 ?_
  refine .p (cB aj [t]) rfl ?_
  refine cT ?_
  refine Cd (fun s4=> ?_) fun s4=> ?_
  ·
   refine Z3 ?_
   refine .n (cE (h:=bW (s:=s) (l:=[t]) (by omega))) rfl fun PU Sc=> ?_
   refine nZ ?_
   refine Cd (fun q9=> ?_) fun q9=> ?_
   ·
    refine Z3 ?_
    refine .n (cE (h:=dQ (s:=PU.1) (l:=[t]) (by have:=Sc.2;omega) (by simp))) rfl fun an1 an2=> ?_
    refine iW ?_
    refine Post.bf rfl rfl ((bC PU.1 [t],PU.2)) (by exact qP (by rw [Al hp1,hw];rfl) Sc (by simp)) (aB.dD [] [0,1] rfl rfl) rfl (.cons (.ra (i:=0) FA.out FC.out rfl rfl rfl rfl) ?_ (.cons (.rt rfl) ?_ .nil))
    · exact af.refl _
    exact af.refl _
   exfalso;omega
  exfalso;omega
 exfalso;omega
theorem M7 (av:o7 v x s labs) (hp1:x.Code=35):cw Tryz.prog 136 [aC (eB v),aC (aK x),aC (bg s base),ai 1 dP labs] [] (γ:=dw×Int) (yt s (ia v x s labs)) (fun _=>[]) (fun g=>bD [aC (bg g.1 base),ag .i64 g.2]):=by
 refine In 517 Tryz.func136 fun _ _ _=> ?_
 have hs5:=av.stk
 have oN:=av.ins.A0
 have DK:=av.ins.ym
 have qX:=av.Ch
 have hE:=av.env
 have AE:=hE.F
 have AF:=hE.S
 have DL:=hE.L
 have DM:=hE.G
 have ry:=hE.W
 refine Z4 ?_
 refine .n (bT (.t rfl)) rfl fun b6 _=> ?_
 refine .n (ax FZ.out) rfl fun b8 _=> ?_
 refine Bw ?_
 refine Cd (fun c0=> ?_) fun c0=> ?_
 · exfalso;omega
 refine Z7 ?_
 refine Cd (fun c1=> ?_) fun c1=> ?_
 · exfalso;omega
 refine Z5 ?_
 refine Cd (fun c2=> ?_) fun c2=> ?_
 · exfalso;omega
 refine Z6 ?_
 refine Cd (fun c3=> ?_) fun c3=> ?_
 · exfalso;omega
 refine Z6 ?_
 refine Cd (fun c4=> ?_) fun c4=> ?_
 · exfalso;omega
 refine Z6 ?_
 refine Cd (fun c5=> ?_) fun c5=> ?_
 · exfalso;omega
 refine Z6 ?_
 refine Cd (fun c6=> ?_) fun c6=> ?_
 · exfalso;omega
 refine Z6 ?_
 refine Cd (fun c7=> ?_) fun c7=> ?_
 · exfalso;omega
 refine Z6 ?_
 refine Cd (fun c8=> ?_) fun c8=> ?_
 · exfalso;omega
 refine Z7 ?_
 refine Cd (fun c9=> ?_) fun c9=> ?_
 · exfalso;omega
 refine Z6 ?_
 refine Cd (fun lq=> ?_) fun lq=> ?_
 · exfalso;omega
 refine Z5 ?_
 refine Cd (fun nc=> ?_) fun nc=> ?_
 · exfalso;omega
 refine Z7 ?_
 refine Cd (fun o5=> ?_) fun o5=> ?_
 ·
  refine Z2 ?_
  refine Cd (fun s4=> ?_) fun s4=> ?_
  ·
   refine dM ?_
   refine Cd (fun q9=> ?_) fun q9=> ?_
   ·
    have hno:=jH (L:=v.an) q9
    refine cT ?_
    refine Post.bf rfl rfl ((s,2)) (by exact ei (by decide) (by rw [Dj hp1,hno];rfl) (by omega)) (aB.dD [] [0,1] rfl rfl) rfl (.cons (.ra (i:=0) FA.out FC.out rfl rfl rfl rfl) ?_ (.cons (.rt rfl) ?_ .nil))
    · exact af.refl _
    exact af.refl _
   obtain ⟨t,hw,p9⟩:=iT (L:=v.an) oN q9
   refine Z8 ?_
   refine .p (cI x.A.toNat (h:=p9)) rfl ?_
   refine Z1 ?_
   refine .p (cB aj [t]) rfl ?_
   refine cT ?_
   refine Cd (fun vX=> ?_) fun vX=> ?_
   ·
    refine Z4 ?_
    refine .n (cE (h:=dQ (s:=s) (l:=[t]) (by omega) (by simp))) rfl fun bx1 bx2=> ?_
    refine Z8 ?_
    refine Post.bf rfl rfl ((bC s [t],0)) (by exact uB (by rw [Dj hp1,hw];rfl) (by simp only [bC,List.length_append,List.length_cons,List.length_nil];omega)) (aB.dD [] [0,1] rfl rfl) rfl (.cons (.ra (i:=0) FA.out FC.out rfl rfl rfl rfl) ?_ (.cons (.rt rfl) ?_ .nil))
    · exact af.refl _
    exact af.refl _
   exfalso;omega
  exfalso;omega
 exfalso;omega
theorem M8 (av:o7 v x s labs) (hp1:x.Code=36):cw Tryz.prog 136 [aC (eB v),aC (aK x),aC (bg s base),ai 1 dP labs] [] (γ:=dw×Int) (yt s (ia v x s labs)) (fun _=>[]) (fun g=>bD [aC (bg g.1 base),ag .i64 g.2]):=by
 refine In 517 Tryz.func136 fun _ _ _=> ?_
 have hs5:=av.stk
 have oN:=av.ins.A0
 have DK:=av.ins.ym
 have qX:=av.Ch
 have hE:=av.env
 have AE:=hE.F
 have AF:=hE.S
 have DL:=hE.L
 have DM:=hE.G
 have ry:=hE.W
 refine Z4 ?_
 refine .n (bT (.t rfl)) rfl fun b6 _=> ?_
 refine .n (ax FZ.out) rfl fun b8 _=> ?_
 refine Bw ?_
 refine Cd (fun c0=> ?_) fun c0=> ?_
 · exfalso;omega
 refine Z7 ?_
 refine Cd (fun c1=> ?_) fun c1=> ?_
 · exfalso;omega
 refine Z5 ?_
 refine Cd (fun c2=> ?_) fun c2=> ?_
 · exfalso;omega
 refine Z6 ?_
 refine Cd (fun c3=> ?_) fun c3=> ?_
 · exfalso;omega
 refine Z6 ?_
 refine Cd (fun c4=> ?_) fun c4=> ?_
 · exfalso;omega
 refine Z6 ?_
 refine Cd (fun c5=> ?_) fun c5=> ?_
 · exfalso;omega
 refine Z6 ?_
 refine Cd (fun c6=> ?_) fun c6=> ?_
 · exfalso;omega
 refine Z6 ?_
 refine Cd (fun c7=> ?_) fun c7=> ?_
 · exfalso;omega
 refine Z6 ?_
 refine Cd (fun c8=> ?_) fun c8=> ?_
 · exfalso;omega
 refine Z7 ?_
 refine Cd (fun c9=> ?_) fun c9=> ?_
 · exfalso;omega
 refine Z6 ?_
 refine Cd (fun lq=> ?_) fun lq=> ?_
 · exfalso;omega
 refine Z5 ?_
 refine Cd (fun nc=> ?_) fun nc=> ?_
 · exfalso;omega
 refine Z7 ?_
 refine Cd (fun o5=> ?_) fun o5=> ?_
 · exfalso;omega
 refine Z5 ?_
 refine Cd (fun s4=> ?_) fun s4=> ?_
 ·
  refine dM ?_
  refine Cd (fun q9=> ?_) fun q9=> ?_
  ·
   have hno:=jH (L:=v.an) q9
   refine cT ?_
   refine Post.bf rfl rfl ((s,2)) (by exact ei (by decide) (by rw [um hp1,hno];rfl) (by omega)) (aB.dD [] [0,1] rfl rfl) rfl (.cons (.ra (i:=0) FA.out FC.out rfl rfl rfl rfl) ?_ (.cons (.rt rfl) ?_ .nil))
   · exact af.refl _
   exact af.refl _
  obtain ⟨t,hw,p9⟩:=iT (L:=v.an) oN q9
  refine Z8 ?_
  refine .p (cI x.A.toNat (h:=p9)) rfl ?_
  refine Z1 ?_
  refine .p (cB aj [t]) rfl ?_
  refine cT ?_
  refine Cd (fun vX=> ?_) fun vX=> ?_
  · exfalso;omega
  obtain ⟨mu,hm,hm2⟩:=iT (L:=v.fD) oN (by rw [hE.mu];exact q9)
  refine Z9 ?_
  refine .p (cI x.A.toNat (h:=hm2)) rfl ?_
  refine Z4 ?_
  refine Cd (fun xl=> ?_) fun xl=> ?_
  ·
   refine cT ?_
   refine Post.bf rfl rfl ((s,5)) (by exact ei (by decide) (by rw [um hp1,hw,Option.bind_some,hm,Option.bind_some];exact if_neg xl) (by omega)) (aB.dD [] [0,1] rfl rfl) rfl (.cons (.ra (i:=0) FA.out FC.out rfl rfl rfl rfl) ?_ (.cons (.rt rfl) ?_ .nil))
   · exact af.refl _
   exact af.refl _
  refine Z6 ?_
  refine .n (cE (h:=bW (s:=s) (l:=[t]) (by omega))) rfl fun an3 an4=> ?_
  refine Z9 ?_
  refine Post.bf rfl rfl (an3) (by exact PR (by rw [um hp1,hw,Option.bind_some,hm,Option.bind_some];exact if_pos (Classical.not_not.1 xl)) an4) (aB.dD [] [0,1] rfl rfl) rfl (.cons (.ra (i:=0) FA.out FC.out rfl rfl rfl rfl) ?_ (.cons (.rt rfl) ?_ .nil))
  · exact af.refl _
  exact af.refl _
 exfalso;omega
theorem GH (av:o7 v x s labs) (hp1:¬fL x.Code) (hp2:¬ee x.Code) (fI:¬cD x.Code) (oe:aU x.Code<8∨10<aU x.Code):cw Tryz.prog 136 [aC (eB v),aC (aK x),aC (bg s base),ai 1 dP labs] [] (γ:=dw×Int) (yt s (ia v x s labs)) (fun _=>[]) (fun g=>bD [aC (bg g.1 base),ag .i64 g.2]):=by
 refine In 517 Tryz.func136 fun _ _ _=> ?_
 have hs5:=av.stk
 have oN:=av.ins.A0
 have DK:=av.ins.ym
 have qX:=av.Ch
 have hE:=av.env
 have AE:=hE.F
 have AF:=hE.S
 have DL:=hE.L
 have DM:=hE.G
 have ry:=hE.W
 have hp1b:=hp1
 have hp2b:=hp2
 have hp3b:=fI
 unfold fL at hp1b
 unfold ee at hp2b
 unfold cD at hp3b
 have htl:=jG x.Code
 refine Z4 ?_
 refine .n (bT (.t rfl)) rfl fun b6 _=> ?_
 refine .n (ax FZ.out) rfl fun b8 _=> ?_
 refine Bw ?_
 refine Cd (fun c0=> ?_) fun c0=> ?_
 · exfalso;omega
 refine Z7 ?_
 refine Cd (fun c1=> ?_) fun c1=> ?_
 · exfalso;omega
 refine Z5 ?_
 refine Cd (fun c2=> ?_) fun c2=> ?_
 · exfalso;omega
 refine Z6 ?_
 refine Cd (fun c3=> ?_) fun c3=> ?_
 · exfalso;omega
 refine Z6 ?_
 refine Cd (fun c4=> ?_) fun c4=> ?_
 · exfalso;omega
 refine Z6 ?_
 refine Cd (fun c5=> ?_) fun c5=> ?_
 · exfalso;omega
 refine Z6 ?_
 refine Cd (fun c6=> ?_) fun c6=> ?_
 · exfalso;omega
 refine Z6 ?_
 refine Cd (fun c7=> ?_) fun c7=> ?_
 · exfalso;omega
 refine Z6 ?_
 refine Cd (fun c8=> ?_) fun c8=> ?_
 · exfalso;omega
 refine Z7 ?_
 refine Cd (fun c9=> ?_) fun c9=> ?_
 · exfalso;omega
 refine Z6 ?_
 refine Cd (fun lq=> ?_) fun lq=> ?_
 · exfalso;omega
 refine Z5 ?_
 refine Cd (fun nc=> ?_) fun nc=> ?_
 · exfalso;omega
 refine Z7 ?_
 refine Cd (fun o5=> ?_) fun o5=> ?_
 · exfalso;omega
 refine Z5 ?_
 refine Cd (fun s4=> ?_) fun s4=> ?_
 · exfalso;omega
 refine Z7 ?_
 refine .p (cA (h:=js)) rfl ?_
 refine Z7 ?_
 refine .p (cA (h:=kH)) rfl ?_
 refine AU ?_
 refine Cd (fun q9=> ?_) fun q9=> ?_
 ·
  refine Z4 ?_
  refine .n (cE (h:=bW (s:=s) (l:=(aN x.Code).1) (by omega))) rfl fun UK Xw=> ?_
  refine cT ?_
  refine .n (cE (h:=dQ (s:=UK.1) (l:=(aN x.Code).2) (by have:=Xw.2;omega) (by omega))) rfl fun bx3 bx4=> ?_
  refine Z7 ?_
  refine Post.bf rfl rfl ((bC UK.1 (aN x.Code).2,UK.2)) (by exact qP (Am hp1 hp2 fI oe) Xw (by omega)) (aB.dD [] [0,1] rfl rfl) rfl (.cons (.ra (i:=0) FA.out FC.out rfl rfl rfl rfl) ?_ (.cons (.rt rfl) ?_ .nil))
  · exact af.refl _
  exact af.refl _
 exact absurd oe q9
theorem PV (av:o7 v x s labs) (hp1:¬fL x.Code) (hp2:¬ee x.Code) (fI:¬cD x.Code) (oe:aU x.Code=8):cw Tryz.prog 136 [aC (eB v),aC (aK x),aC (bg s base),ai 1 dP labs] [] (γ:=dw×Int) (yt s (ia v x s labs)) (fun _=>[]) (fun g=>bD [aC (bg g.1 base),ag .i64 g.2]):=by
 refine In 517 Tryz.func136 fun _ _ _=> ?_
 have hs5:=av.stk
 have oN:=av.ins.A0
 have DK:=av.ins.ym
 have qX:=av.Ch
 have hE:=av.env
 have AE:=hE.F
 have AF:=hE.S
 have DL:=hE.L
 have DM:=hE.G
 have ry:=hE.W
 have hp1b:=hp1
 have hp2b:=hp2
 have hp3b:=fI
 unfold fL at hp1b
 unfold ee at hp2b
 unfold cD at hp3b
 have htl:=jG x.Code
 obtain ⟨t0,tl,D4⟩:=Ku oe
 have bx5:1≤(aN x.Code).1.length:=by rw [D4];simp
 have ha0:=av.ins.a0
 have ha1:=av.ins.a31
 refine Z4 ?_
 refine .n (bT (.t rfl)) rfl fun b6 _=> ?_
 refine .n (ax FZ.out) rfl fun b8 _=> ?_
 refine Bw ?_
 refine Cd (fun c0=> ?_) fun c0=> ?_
 · exfalso;omega
 refine Z7 ?_
 refine Cd (fun c1=> ?_) fun c1=> ?_
 · exfalso;omega
 refine Z5 ?_
 refine Cd (fun c2=> ?_) fun c2=> ?_
 · exfalso;omega
 refine Z6 ?_
 refine Cd (fun c3=> ?_) fun c3=> ?_
 · exfalso;omega
 refine Z6 ?_
 refine Cd (fun c4=> ?_) fun c4=> ?_
 · exfalso;omega
 refine Z6 ?_
 refine Cd (fun c5=> ?_) fun c5=> ?_
 · exfalso;omega
 refine Z6 ?_
 refine Cd (fun c6=> ?_) fun c6=> ?_
 · exfalso;omega
 refine Z6 ?_
 refine Cd (fun c7=> ?_) fun c7=> ?_
 · exfalso;omega
 refine Z6 ?_
 refine Cd (fun c8=> ?_) fun c8=> ?_
 · exfalso;omega
 refine Z7 ?_
 refine Cd (fun c9=> ?_) fun c9=> ?_
 · exfalso;omega
 refine Z6 ?_
 refine Cd (fun lq=> ?_) fun lq=> ?_
 · exfalso;omega
 refine Z5 ?_
 refine Cd (fun nc=> ?_) fun nc=> ?_
 · exfalso;omega
 refine Z7 ?_
 refine Cd (fun o5=> ?_) fun o5=> ?_
 · exfalso;omega
 refine Z5 ?_
 refine Cd (fun s4=> ?_) fun s4=> ?_
 · exfalso;omega
 refine Z7 ?_
 refine .p (cA (h:=js)) rfl ?_
 refine Z7 ?_
 refine .p (cA (h:=kH)) rfl ?_
 refine AU ?_
 refine Cd (fun q9=> ?_) fun q9=> ?_
 · exfalso;omega
 refine Wh ?_
 refine Cd (fun vX=> ?_) fun vX=> ?_
 ·
  refine Z9 ?_
  refine Post.bf rfl rfl ((s,2)) (by exact ei (by decide) (by (rw [gu hp1 hp2 fI (by omega),qH oe];rcases vX with h|⟨h,h2⟩;(rw [jH h];rfl);omega)) (by omega)) (aB.dD [] [0,1] rfl rfl) rfl (.cons (.ra (i:=0) FA.out FC.out rfl rfl rfl rfl) ?_ (.cons (.rt rfl) ?_ .nil))
  · exact af.refl _
  exact af.refl _
 obtain ⟨wa,hw,p9⟩:=iT (L:=v.bN) oN (fun h=>vX (.inl h))
 refine Z8 ?_
 refine .cut (σ:=Unit) (fun _=>[az b8 (List.map aa [.slice none 0 0, .bool false, .int .i64 0]),az b6 (bg s base)]) (fun _=>[(25,ag .u8 ((bS wa:UInt8).toNat:Int))]) (fun _=>True) ?_ ?_
 ·
  refine Z6 ?_
  refine .p (cI x.A.toNat (h:=p9)) rfl ?_
  refine Z3 ?_
  refine Cd (fun xl=> ?_) fun xl=> ?_
  ·
   refine Z4 ?_
   refine .meet () trivial rfl (.get rfl (af.of_eq (by rw [show bS wa=126 from uC xl];rfl)) (.keep 8 rfl rfl))
  refine Z1 ?_
  refine .meet () trivial rfl (.get rfl (af.of_eq (by rw [show bS wa=127 from uD xl];rfl)) (.keep 6 rfl rfl))
 intro _ _
 refine Z9 ?_
 refine Cd (fun MT=> ?_) fun MT=> ?_
 ·
  refine Z7 ?_
  refine .p (cI x.A.toNat (h:=p9)) rfl ?_
  refine Z9 ?_
  refine Cd (fun JA=> ?_) fun JA=> ?_
  ·
   refine cT ?_
   refine Post.bf rfl rfl ((s,2)) (by exact ei (by decide) (by rw [gu hp1 hp2 fI (by omega),qH oe,hw,Option.bind_some];exact if_pos (.inl JA)) (by omega)) (aB.dD [] [0,1] rfl rfl) rfl (.cons (.ra (i:=0) FA.out FC.out rfl rfl rfl rfl) ?_ (.cons (.rt rfl) ?_ .nil))
   · exact af.refl _
   exact af.refl _
  refine iW ?_
  refine .aT (σ:=Nat) (fun _=>[az b8 (List.map aa [.slice none 0 0, .bool false, .int .i64 0]),az b6 (bg s base)]) (fun k=>[(26,ag .i64 ((2:Int)^k)),(27,ag .i64 (k:Int))]) (fun k=>k≤x.dz.toNat) (fun k=>x.dz.toNat-k) 0 (Nat.zero_le _) rfl ?_ ?_
  · exact (.get rfl (af.int (by show (1:Int)=2^0;rfl)) (.get rfl (af.refl _) (.refl _ _)))
  rintro k hk
  refine Z9 ?_
  refine Cd (fun Sd=> ?_) fun Sd=> ?_
  ·
   have hpk:=am9 (k:=k) (by omega)
   refine D0 ?_
   refine .round (k+1) (by omega) (by omega) rfl ?_
   exact (.get rfl (af.int (by show (_:Int)=2^(k+1);rw [Int.pow_succ];omega)) (.get rfl (af.int (by omega)) ((.keep 12 rfl rfl))))
  have hkk:k=x.dz.toNat:=by omega
  subst hkk
  refine cT ?_
  refine .p (cA (h:=GG)) rfl ?_
  refine Z3 ?_
  refine Cd (fun PW=> ?_) fun PW=> ?_
  ·
   refine cT ?_
   refine Post.bf rfl rfl ((s,5)) (by exact ei (by decide) (by rw [gu hp1 hp2 fI (by omega),qH oe,hw,Option.bind_some];exact if_pos (.inr PW)) (by omega)) (aB.dD [] [0,1] rfl rfl) rfl (.cons (.ra (i:=0) FA.out FC.out rfl rfl rfl rfl) ?_ (.cons (.rt rfl) ?_ .nil))
   · exact af.refl _
   exact af.refl _
  refine Z4 ?_
  refine .n (cq aj [bS wa] FU.out FC.out rfl FZ.out rfl (.cons (.t rfl) .nil) rfl rfl rfl rfl rfl) rfl fun bx6 _=> ?_
  refine Z1 ?_
  refine .p (Bp FU.out FC.out rfl (.t rfl) (.c _) rfl (by omega)) rfl ?_
  refine .n (fV.er (G:=fun g=>g) (hs1:=fun _=>_) (xs:=fun _=>_) (aD (i:=0) FU.out FU.out FC.out rfl FZ.out rfl FY.out (.t rfl) (.t rfl) rfl (by rw [D4] at htl ⊢;simp at htl ⊢;omega) (by rw [D4] at htl ⊢;simp at htl ⊢;omega))) rfl fun _ _=> ?_
  refine Z8 ?_
  refine .n (cE (h:=bW (s:=s) (l:=[bS wa]++List.drop 1 (aN x.Code).1) (by omega))) rfl fun qS vQ=> ?_
  refine cT ?_
  refine .n (cE (h:=dQ (s:=qS.1) (l:=(aN x.Code).2) (by have:=vQ.2;omega) (by omega))) rfl fun Se Sf=> ?_
  refine Z6 ?_
  refine Post.bf rfl rfl ((bC qS.1 (aN x.Code).2,qS.2)) (by exact qP (by rw [gu hp1 hp2 fI (by omega),qH oe,hw,Option.bind_some,←List.drop_one];exact if_neg (by rintro (h|h);exact JA h;exact PW h)) vQ (by omega)) (aB.dD [] [0,1] rfl rfl) rfl (.cons (.ra (i:=0) FA.out FC.out rfl rfl rfl rfl) ?_ (.cons (.rt rfl) ?_ .nil))
  · exact af.refl _
  exact af.refl _
 exfalso;omega
theorem M9 (av:o7 v x s labs) (hp1:x.Code=63):cw Tryz.prog 136 [aC (eB v),aC (aK x),aC (bg s base),ai 1 dP labs] [] (γ:=dw×Int) (yt s (ia v x s labs)) (fun _=>[]) (fun g=>bD [aC (bg g.1 base),ag .i64 g.2]):=by
 refine In 517 Tryz.func136 fun _ _ _=> ?_
 have hs5:=av.stk
 have oN:=av.ins.A0
 have DK:=av.ins.ym
 have qX:=av.Ch
 have hE:=av.env
 have AE:=hE.F
 have AF:=hE.S
 have DL:=hE.L
 have DM:=hE.G
 have ry:=hE.W
 have hf:aU x.Code=9:=by rw [hp1];decide
 have htl:=jG x.Code
 refine Z4 ?_
 refine .n (bT (.t rfl)) rfl fun b6 _=> ?_
 refine .n (ax FZ.out) rfl fun b8 _=> ?_
 refine Bw ?_
 refine Cd (fun c0=> ?_) fun c0=> ?_
 · exfalso;omega
 refine Z7 ?_
 refine Cd (fun c1=> ?_) fun c1=> ?_
 · exfalso;omega
 refine Z5 ?_
 refine Cd (fun c2=> ?_) fun c2=> ?_
 · exfalso;omega
 refine Z6 ?_
 refine Cd (fun c3=> ?_) fun c3=> ?_
 · exfalso;omega
 refine Z6 ?_
 refine Cd (fun c4=> ?_) fun c4=> ?_
 · exfalso;omega
 refine Z6 ?_
 refine Cd (fun c5=> ?_) fun c5=> ?_
 · exfalso;omega
 refine Z6 ?_
 refine Cd (fun c6=> ?_) fun c6=> ?_
 · exfalso;omega
 refine Z6 ?_
 refine Cd (fun c7=> ?_) fun c7=> ?_
 · exfalso;omega
 refine Z6 ?_
 refine Cd (fun c8=> ?_) fun c8=> ?_
 · exfalso;omega
 refine Z7 ?_
 refine Cd (fun c9=> ?_) fun c9=> ?_
 · exfalso;omega
 refine Z6 ?_
 refine Cd (fun lq=> ?_) fun lq=> ?_
 · exfalso;omega
 refine Z5 ?_
 refine Cd (fun nc=> ?_) fun nc=> ?_
 · exfalso;omega
 refine Z7 ?_
 refine Cd (fun o5=> ?_) fun o5=> ?_
 · exfalso;omega
 refine Z5 ?_
 refine Cd (fun s4=> ?_) fun s4=> ?_
 · exfalso;omega
 refine Z7 ?_
 refine .p (cA (h:=js)) rfl ?_
 refine Z7 ?_
 refine .p (cA (h:=kH)) rfl ?_
 refine AU ?_
 refine Cd (fun q9=> ?_) fun q9=> ?_
 · exfalso;omega
 refine Wh ?_
 refine Cd (fun vX=> ?_) fun vX=> ?_
 ·
  refine Z9 ?_
  refine Post.bf rfl rfl ((s,2)) (by exact ei (by decide) (by (rw [gu (by unfold fL;omega) (by unfold ee;omega) (by unfold cD;omega) (by omega),yK hp1];rcases vX with h|⟨h,h2⟩;(rw [jH h];rfl);omega)) (by omega)) (aB.dD [] [0,1] rfl rfl) rfl (.cons (.ra (i:=0) FA.out FC.out rfl rfl rfl rfl) ?_ (.cons (.rt rfl) ?_ .nil))
  · exact af.refl _
  exact af.refl _
 obtain ⟨wa,hw,p9⟩:=iT (L:=v.bN) oN (fun h=>vX (.inl h))
 refine Z8 ?_
 refine .cut (σ:=Unit) (fun _=>[az b8 (List.map aa [.slice none 0 0, .bool false, .int .i64 0]),az b6 (bg s base)]) (fun _=>[(25,ag .u8 ((bS wa:UInt8).toNat:Int))]) (fun _=>True) ?_ ?_
 ·
  refine Z6 ?_
  refine .p (cI x.A.toNat (h:=p9)) rfl ?_
  refine Z3 ?_
  refine Cd (fun xl=> ?_) fun xl=> ?_
  ·
   refine Z4 ?_
   refine .meet () trivial rfl (.get rfl (af.of_eq (by rw [show bS wa=126 from uC xl];rfl)) (.keep 8 rfl rfl))
  refine Z1 ?_
  refine .meet () trivial rfl (.get rfl (af.of_eq (by rw [show bS wa=127 from uD xl];rfl)) (.keep 6 rfl rfl))
 intro _ _
 refine Z9 ?_
 refine Cd (fun MT=> ?_) fun MT=> ?_
 · exfalso;omega
 refine Z8 ?_
 refine Cd (fun JA=> ?_) fun JA=> ?_
 ·
  refine Z2 ?_
  refine .p (cB aj [bS wa]) rfl ?_
  refine Z8 ?_
  refine .n (cE (h:=bW (s:=s) (l:=(aN x.Code).1) (by omega))) rfl fun qS vQ=> ?_
  refine cT ?_
  refine .n (cE (h:=dQ (s:=qS.1) (l:=[bS wa]) (by have:=vQ.2;omega) (by simp))) rfl fun Se Sf=> ?_
  refine Z6 ?_
  refine Post.bf rfl rfl ((bC qS.1 [bS wa],qS.2)) (by exact qP (by rw [gu (by unfold fL;omega) (by unfold ee;omega) (by unfold cD;omega) (by omega),yK hp1,hw,Option.bind_some,show (aN x.Code).1=[] by rw [hp1];rfl];rfl) vQ (by simp)) (aB.dD [] [0,1] rfl rfl) rfl (.cons (.ra (i:=0) FA.out FC.out rfl rfl rfl rfl) ?_ (.cons (.rt rfl) ?_ .nil))
  · exact af.refl _
  exact af.refl _
 exfalso;omega
theorem Na (av:o7 v x s labs) (hp1:x.Code=64):cw Tryz.prog 136 [aC (eB v),aC (aK x),aC (bg s base),ai 1 dP labs] [] (γ:=dw×Int) (yt s (ia v x s labs)) (fun _=>[]) (fun g=>bD [aC (bg g.1 base),ag .i64 g.2]):=by
 refine In 517 Tryz.func136 fun _ _ _=> ?_
 have hs5:=av.stk
 have oN:=av.ins.A0
 have DK:=av.ins.ym
 have qX:=av.Ch
 have hE:=av.env
 have AE:=hE.F
 have AF:=hE.S
 have DL:=hE.L
 have DM:=hE.G
 have ry:=hE.W
 have hf:aU x.Code=9:=by rw [hp1];decide
 have htl:=jG x.Code
 refine Z4 ?_
 refine .n (bT (.t rfl)) rfl fun b6 _=> ?_
 refine .n (ax FZ.out) rfl fun b8 _=> ?_
 refine Bw ?_
 refine Cd (fun c0=> ?_) fun c0=> ?_
 · exfalso;omega
 refine Z7 ?_
 refine Cd (fun c1=> ?_) fun c1=> ?_
 · exfalso;omega
 refine Z5 ?_
 refine Cd (fun c2=> ?_) fun c2=> ?_
 · exfalso;omega
 refine Z6 ?_
 refine Cd (fun c3=> ?_) fun c3=> ?_
 · exfalso;omega
 refine Z6 ?_
 refine Cd (fun c4=> ?_) fun c4=> ?_
 · exfalso;omega
 refine Z6 ?_
 refine Cd (fun c5=> ?_) fun c5=> ?_
 · exfalso;omega
 refine Z6 ?_
 refine Cd (fun c6=> ?_) fun c6=> ?_
 · exfalso;omega
 refine Z6 ?_
 refine Cd (fun c7=> ?_) fun c7=> ?_
 · exfalso;omega
 refine Z6 ?_
 refine Cd (fun c8=> ?_) fun c8=> ?_
 · exfalso;omega
 refine Z7 ?_
 refine Cd (fun c9=> ?_) fun c9=> ?_
 · exfalso;omega
 refine Z6 ?_
 refine Cd (fun lq=> ?_) fun lq=> ?_
 · exfalso;omega
 refine Z5 ?_
 refine Cd (fun nc=> ?_) fun nc=> ?_
 · exfalso;omega
 refine Z7 ?_
 refine Cd (fun o5=> ?_) fun o5=> ?_
 · exfalso;omega
 refine Z5 ?_
 refine Cd (fun s4=> ?_) fun s4=> ?_
 · exfalso;omega
 refine Z7 ?_
 refine .p (cA (h:=js)) rfl ?_
 refine Z7 ?_
 refine .p (cA (h:=kH)) rfl ?_
 refine AU ?_
 refine Cd (fun q9=> ?_) fun q9=> ?_
 · exfalso;omega
 refine Wh ?_
 refine Cd (fun vX=> ?_) fun vX=> ?_
 ·
  refine Z9 ?_
  refine Post.bf rfl rfl ((s,2)) (by exact ei (by decide) (by (rw [gu (by unfold fL;omega) (by unfold ee;omega) (by unfold cD;omega) (by omega),vB hp1];rcases vX with h|⟨h,h2⟩;(rw [jH h];rfl);omega)) (by omega)) (aB.dD [] [0,1] rfl rfl) rfl (.cons (.ra (i:=0) FA.out FC.out rfl rfl rfl rfl) ?_ (.cons (.rt rfl) ?_ .nil))
  · exact af.refl _
  exact af.refl _
 obtain ⟨wa,hw,p9⟩:=iT (L:=v.bN) oN (fun h=>vX (.inl h))
 refine Z8 ?_
 refine .cut (σ:=Unit) (fun _=>[az b8 (List.map aa [.slice none 0 0, .bool false, .int .i64 0]),az b6 (bg s base)]) (fun _=>[(25,ag .u8 ((bS wa:UInt8).toNat:Int))]) (fun _=>True) ?_ ?_
 ·
  refine Z6 ?_
  refine .p (cI x.A.toNat (h:=p9)) rfl ?_
  refine Z3 ?_
  refine Cd (fun xl=> ?_) fun xl=> ?_
  ·
   refine Z4 ?_
   refine .meet () trivial rfl (.get rfl (af.of_eq (by rw [show bS wa=126 from uC xl];rfl)) (.keep 8 rfl rfl))
  refine Z1 ?_
  refine .meet () trivial rfl (.get rfl (af.of_eq (by rw [show bS wa=127 from uD xl];rfl)) (.keep 6 rfl rfl))
 intro _ _
 refine Z9 ?_
 refine Cd (fun MT=> ?_) fun MT=> ?_
 · exfalso;omega
 refine Z8 ?_
 refine Cd (fun JA=> ?_) fun JA=> ?_
 · exfalso;omega
 refine Z8 ?_
 refine Cd (fun Sd=> ?_) fun Sd=> ?_
 ·
  refine Z2 ?_
  refine .p (cB aj [bS wa]) rfl ?_
  refine Z1 ?_
  refine .p (cB aj [bS wa]) rfl ?_
  refine Z9 ?_
  refine .n (cE (h:=bW (s:=s) (l:=[bS wa]) (by omega))) rfl fun qS vQ=> ?_
  refine cT ?_
  refine .n (cE (h:=dQ (s:=qS.1) (l:=[bS wa]) (by have:=vQ.2;omega) (by simp))) rfl fun Se Sf=> ?_
  refine Z6 ?_
  refine Post.bf rfl rfl ((bC qS.1 [bS wa],qS.2)) (by exact qP (by rw [gu (by unfold fL;omega) (by unfold ee;omega) (by unfold cD;omega) (by omega),vB hp1,hw,Option.bind_some]) vQ (by simp)) (aB.dD [] [0,1] rfl rfl) rfl (.cons (.ra (i:=0) FA.out FC.out rfl rfl rfl rfl) ?_ (.cons (.rt rfl) ?_ .nil))
  · exact af.refl _
  exact af.refl _
 exfalso;omega
theorem GI (av:o7 v x s labs) (hp1:x.Code=64523):cw Tryz.prog 136 [aC (eB v),aC (aK x),aC (bg s base),ai 1 dP labs] [] (γ:=dw×Int) (yt s (ia v x s labs)) (fun _=>[]) (fun g=>bD [aC (bg g.1 base),ag .i64 g.2]):=by
 refine In 517 Tryz.func136 fun _ _ _=> ?_
 have hs5:=av.stk
 have oN:=av.ins.A0
 have DK:=av.ins.ym
 have qX:=av.Ch
 have hE:=av.env
 have AE:=hE.F
 have AF:=hE.S
 have DL:=hE.L
 have DM:=hE.G
 have ry:=hE.W
 have hf:aU x.Code=9:=by rw [hp1];decide
 have htl:=jG x.Code
 refine Z4 ?_
 refine .n (bT (.t rfl)) rfl fun b6 _=> ?_
 refine .n (ax FZ.out) rfl fun b8 _=> ?_
 refine Bw ?_
 refine Cd (fun c0=> ?_) fun c0=> ?_
 · exfalso;omega
 refine Z7 ?_
 refine Cd (fun c1=> ?_) fun c1=> ?_
 · exfalso;omega
 refine Z5 ?_
 refine Cd (fun c2=> ?_) fun c2=> ?_
 · exfalso;omega
 refine Z6 ?_
 refine Cd (fun c3=> ?_) fun c3=> ?_
 · exfalso;omega
 refine Z6 ?_
 refine Cd (fun c4=> ?_) fun c4=> ?_
 · exfalso;omega
 refine Z6 ?_
 refine Cd (fun c5=> ?_) fun c5=> ?_
 · exfalso;omega
 refine Z6 ?_
 refine Cd (fun c6=> ?_) fun c6=> ?_
 · exfalso;omega
 refine Z6 ?_
 refine Cd (fun c7=> ?_) fun c7=> ?_
 · exfalso;omega
 refine Z6 ?_
 refine Cd (fun c8=> ?_) fun c8=> ?_
 · exfalso;omega
 refine Z7 ?_
 refine Cd (fun c9=> ?_) fun c9=> ?_
 · exfalso;omega
 refine Z6 ?_
 refine Cd (fun lq=> ?_) fun lq=> ?_
 · exfalso;omega
 refine Z5 ?_
 refine Cd (fun nc=> ?_) fun nc=> ?_
 · exfalso;omega
 refine Z7 ?_
 refine Cd (fun o5=> ?_) fun o5=> ?_
 · exfalso;omega
 refine Z5 ?_
 refine Cd (fun s4=> ?_) fun s4=> ?_
 · exfalso;omega
 refine Z7 ?_
 refine .p (cA (h:=js)) rfl ?_
 refine Z7 ?_
 refine .p (cA (h:=kH)) rfl ?_
 refine AU ?_
 refine Cd (fun q9=> ?_) fun q9=> ?_
 · exfalso;omega
 refine Wh ?_
 refine Cd (fun vX=> ?_) fun vX=> ?_
 ·
  refine Z9 ?_
  refine Post.bf rfl rfl ((s,2)) (by exact ei (by decide) (by (rw [gu (by unfold fL;omega) (by unfold ee;omega) (by unfold cD;omega) (by omega),pU hp1];rcases vX with h|⟨h,h2⟩;(rw [jH h];rfl);omega)) (by omega)) (aB.dD [] [0,1] rfl rfl) rfl (.cons (.ra (i:=0) FA.out FC.out rfl rfl rfl rfl) ?_ (.cons (.rt rfl) ?_ .nil))
  · exact af.refl _
  exact af.refl _
 obtain ⟨wa,hw,p9⟩:=iT (L:=v.bN) oN (fun h=>vX (.inl h))
 refine Z8 ?_
 refine .cut (σ:=Unit) (fun _=>[az b8 (List.map aa [.slice none 0 0, .bool false, .int .i64 0]),az b6 (bg s base)]) (fun _=>[(25,ag .u8 ((bS wa:UInt8).toNat:Int))]) (fun _=>True) ?_ ?_
 ·
  refine Z6 ?_
  refine .p (cI x.A.toNat (h:=p9)) rfl ?_
  refine Z3 ?_
  refine Cd (fun xl=> ?_) fun xl=> ?_
  ·
   refine Z4 ?_
   refine .meet () trivial rfl (.get rfl (af.of_eq (by rw [show bS wa=126 from uC xl];rfl)) (.keep 8 rfl rfl))
  refine Z1 ?_
  refine .meet () trivial rfl (.get rfl (af.of_eq (by rw [show bS wa=127 from uD xl];rfl)) (.keep 6 rfl rfl))
 intro _ _
 refine Z9 ?_
 refine Cd (fun MT=> ?_) fun MT=> ?_
 · exfalso;omega
 refine Z8 ?_
 refine Cd (fun JA=> ?_) fun JA=> ?_
 · exfalso;omega
 refine Z8 ?_
 refine Cd (fun Sd=> ?_) fun Sd=> ?_
 · exfalso;omega
 refine Z8 ?_
 refine Cd (fun PW=> ?_) fun PW=> ?_
 ·
  refine Z4 ?_
  refine .p (cB aj [bS wa,127,bS wa]) rfl ?_
  refine Z8 ?_
  refine .n (cE (h:=bW (s:=s) (l:=[bS wa,127,bS wa]) (by omega))) rfl fun qS vQ=> ?_
  refine cT ?_
  refine .n (cE (h:=dQ (s:=qS.1) (l:=(aN x.Code).2) (by have:=vQ.2;omega) (by omega))) rfl fun Se Sf=> ?_
  refine Z6 ?_
  refine Post.bf rfl rfl ((bC qS.1 (aN x.Code).2,qS.2)) (by exact qP (by rw [gu (by unfold fL;omega) (by unfold ee;omega) (by unfold cD;omega) (by omega),pU hp1,hw,Option.bind_some,show (aN x.Code).2=[] by rw [hp1];rfl,oH]) vQ (by omega)) (aB.dD [] [0,1] rfl rfl) rfl (.cons (.ra (i:=0) FA.out FC.out rfl rfl rfl rfl) ?_ (.cons (.rt rfl) ?_ .nil))
  · exact af.refl _
  exact af.refl _
 exfalso;omega
theorem GJ (av:o7 v x s labs) (hp1:x.Code=64522):cw Tryz.prog 136 [aC (eB v),aC (aK x),aC (bg s base),ai 1 dP labs] [] (γ:=dw×Int) (yt s (ia v x s labs)) (fun _=>[]) (fun g=>bD [aC (bg g.1 base),ag .i64 g.2]):=by
 refine In 517 Tryz.func136 fun _ _ _=> ?_
 have hs5:=av.stk
 have oN:=av.ins.A0
 have DK:=av.ins.ym
 have qX:=av.Ch
 have hE:=av.env
 have AE:=hE.F
 have AF:=hE.S
 have DL:=hE.L
 have DM:=hE.G
 have ry:=hE.W
 have hf:aU x.Code=10:=by rw [hp1];decide
 have htl:=jG x.Code
 have hB0:=av.ins.B0
 have hB6:=av.ins.B64
 refine Z4 ?_
 refine .n (bT (.t rfl)) rfl fun b6 _=> ?_
 refine .n (ax FZ.out) rfl fun b8 _=> ?_
 refine Bw ?_
 refine Cd (fun c0=> ?_) fun c0=> ?_
 · exfalso;omega
 refine Z7 ?_
 refine Cd (fun c1=> ?_) fun c1=> ?_
 · exfalso;omega
 refine Z5 ?_
 refine Cd (fun c2=> ?_) fun c2=> ?_
 · exfalso;omega
 refine Z6 ?_
 refine Cd (fun c3=> ?_) fun c3=> ?_
 · exfalso;omega
 refine Z6 ?_
 refine Cd (fun c4=> ?_) fun c4=> ?_
 · exfalso;omega
 refine Z6 ?_
 refine Cd (fun c5=> ?_) fun c5=> ?_
 · exfalso;omega
 refine Z6 ?_
 refine Cd (fun c6=> ?_) fun c6=> ?_
 · exfalso;omega
 refine Z6 ?_
 refine Cd (fun c7=> ?_) fun c7=> ?_
 · exfalso;omega
 refine Z6 ?_
 refine Cd (fun c8=> ?_) fun c8=> ?_
 · exfalso;omega
 refine Z7 ?_
 refine Cd (fun c9=> ?_) fun c9=> ?_
 · exfalso;omega
 refine Z6 ?_
 refine Cd (fun lq=> ?_) fun lq=> ?_
 · exfalso;omega
 refine Z5 ?_
 refine Cd (fun nc=> ?_) fun nc=> ?_
 · exfalso;omega
 refine Z7 ?_
 refine Cd (fun o5=> ?_) fun o5=> ?_
 · exfalso;omega
 refine Z5 ?_
 refine Cd (fun s4=> ?_) fun s4=> ?_
 · exfalso;omega
 refine Z7 ?_
 refine .p (cA (h:=js)) rfl ?_
 refine Z7 ?_
 refine .p (cA (h:=kH)) rfl ?_
 refine AU ?_
 refine Cd (fun q9=> ?_) fun q9=> ?_
 · exfalso;omega
 refine Wh ?_
 refine Cd (fun vX=> ?_) fun vX=> ?_
 ·
  refine Z9 ?_
  refine Post.bf rfl rfl ((s,2)) (by exact ei (by decide) (by (rw [gu (by unfold fL;omega) (by unfold ee;omega) (by unfold cD;omega) (by omega),nk hp1];rcases vX with h|⟨h,h2⟩;(rw [jH h];rfl);(cases ec v.bN x.A with|none=>rfl|some g=>rw [Option.bind_some,jH h2];rfl))) (by omega)) (aB.dD [] [0,1] rfl rfl) rfl (.cons (.ra (i:=0) FA.out FC.out rfl rfl rfl rfl) ?_ (.cons (.rt rfl) ?_ .nil))
  · exact af.refl _
  exact af.refl _
 obtain ⟨wa,hw,p9⟩:=iT (L:=v.bN) oN (fun h=>vX (.inl h))
 obtain ⟨wb,hx,hx2⟩:=iT (L:=v.bN) hB0 (fun h=>vX (.inr ⟨by omega,h⟩))
 refine Z8 ?_
 refine .cut (σ:=Unit) (fun _=>[az b8 (List.map aa [.slice none 0 0, .bool false, .int .i64 0]),az b6 (bg s base)]) (fun _=>[(25,ag .u8 ((bS wa:UInt8).toNat:Int))]) (fun _=>True) ?_ ?_
 ·
  refine Z6 ?_
  refine .p (cI x.A.toNat (h:=p9)) rfl ?_
  refine Z3 ?_
  refine Cd (fun xl=> ?_) fun xl=> ?_
  ·
   refine Z4 ?_
   refine .meet () trivial rfl (.get rfl (af.of_eq (by rw [show bS wa=126 from uC xl];rfl)) (.keep 8 rfl rfl))
  refine Z1 ?_
  refine .meet () trivial rfl (.get rfl (af.of_eq (by rw [show bS wa=127 from uD xl];rfl)) (.keep 6 rfl rfl))
 intro _ _
 refine Z9 ?_
 refine Cd (fun MT=> ?_) fun MT=> ?_
 · exfalso;omega
 refine Z8 ?_
 refine Cd (fun JA=> ?_) fun JA=> ?_
 · exfalso;omega
 refine Z8 ?_
 refine Cd (fun Sd=> ?_) fun Sd=> ?_
 · exfalso;omega
 refine Z8 ?_
 refine Cd (fun PW=> ?_) fun PW=> ?_
 · exfalso;omega
 refine Z8 ?_
 refine .cut (σ:=Unit) (fun _=>[az b8 (List.map aa [.slice none 0 0, .bool false, .int .i64 0]),az b6 (bg s base)]) (fun _=>[(28,ag .u8 ((bS wb:UInt8).toNat:Int))]) (fun _=>True) ?_ ?_
 ·
  refine Z6 ?_
  refine .p (cI x.B.toNat (h:=hx2)) rfl ?_
  refine Z3 ?_
  refine Cd (fun Xx=> ?_) fun Xx=> ?_
  ·
   refine Z4 ?_
   refine .meet () trivial rfl (.get rfl (af.of_eq (by rw [show bS wb=126 from uC Xx];rfl)) (.keep 8 rfl rfl))
  refine Z1 ?_
  refine .meet () trivial rfl (.get rfl (af.of_eq (by rw [show bS wb=127 from uD Xx];rfl)) (.keep 6 rfl rfl))
 intro _ _
 refine .cut (σ:=Unit) (fun _=>[az b8 (List.map aa [.slice none 0 0, .bool false, .int .i64 0]),az b6 (bg s base)]) (fun _=>[(29,ag .u8 ((bS (wa∧wb):UInt8).toNat:Int))]) (fun _=>True) ?_ ?_
 ·
  refine dM ?_
  refine Cd (fun Tf=> ?_) fun Tf=> ?_
  ·
   refine Z4 ?_
   refine .meet () trivial rfl (.get rfl (af.of_eq (by rw [show bS (wa∧wb)=126 from uC ⟨mw.1 Tf.1,mw.1 Tf.2⟩];rfl)) (.keep 10 rfl rfl))
  refine Z1 ?_
  refine .meet () trivial rfl (.get rfl (af.of_eq (by rw [show bS (wa∧wb)=127 from uD (fun h=>Tf ⟨mw.2 h.1,mw.2 h.2⟩)];rfl)) (.keep 8 rfl rfl))
 intro _ _
 refine Z4 ?_
 refine .p (cB aj [bS wa,bS wb,bS (wa∧wb)]) rfl ?_
 refine Z8 ?_
 refine .n (cE (h:=bW (s:=s) (l:=[bS wa,bS wb,bS (wa∧wb)]) (by omega))) rfl fun qS vQ=> ?_
 refine cT ?_
 refine .n (cE (h:=dQ (s:=qS.1) (l:=(aN x.Code).2) (by have:=vQ.2;omega) (by omega))) rfl fun Se Sf=> ?_
 refine Z6 ?_
 refine Post.bf rfl rfl ((bC qS.1 (aN x.Code).2,qS.2)) (by exact qP (by rw [gu (by unfold fL;omega) (by unfold ee;omega) (by unfold cD;omega) (by omega),nk hp1,hw,Option.bind_some,hx,Option.bind_some,show (aN x.Code).2=[] by rw [hp1];rfl,oH]) vQ (by omega)) (aB.dD [] [0,1] rfl rfl) rfl (.cons (.ra (i:=0) FA.out FC.out rfl rfl rfl rfl) ?_ (.cons (.rt rfl) ?_ .nil))
 · exact af.refl _
 exact af.refl _
end Go.Proofs.YtpfobikpggmleaaGreatDoor
end
section
namespace Go.Proofs.YtpfobikpggmleaaGreatDoor
open Go.Hl Go.RowKit
theorem GK {v:om} {x:aA} {s:dw} {base:Int} {labs:List (List UInt8)} (hp:o7 v x s labs) (hn:¬(x.Code=2∨x.Code=3∨x.Code=4∨x.Code=5∨x.Code=11)):
    cw Tryz.prog 136 [aC (eB v),aC (aK x),aC (bg s base),ai 1 dP labs] [] (γ:=dw×Int) (yt s (ia v x s labs)) (fun _=>[]) (fun g=>bD [aC (bg g.1 base),ag .i64 g.2]):=by
  by_cases h0:x.Code=0
  · exact PS hp h0
  by_cases h12:x.Code=12
  · exact MU hp h12
  by_cases h13:x.Code=13
  · exact MV hp h13
  by_cases yF:x.Code=14
  · exact M1 hp yF
  by_cases D5:x.Code=15
  · exact MW hp D5
  by_cases T6:x.Code=16
  · exact MX hp T6
  by_cases Kk:x.Code=17
  · exact M3 hp Kk
  by_cases Xf:x.Code=26
  · exact MY hp Xf
  by_cases h27:x.Code=27
  · exact MZ hp h27
  by_cases T9:x.Code=32
  · exact M4 hp T9
  by_cases h33:x.Code=33
  · exact M5 hp h33
  by_cases Np:x.Code=34
  · exact M6 hp Np
  by_cases h35:x.Code=35
  · exact M7 hp h35
  by_cases OX:x.Code=36
  · exact M8 hp OX
  by_cases h63:x.Code=63
  · exact M9 hp h63
  by_cases Ua:x.Code=64
  · exact Na hp Ua
  by_cases hfl:x.Code=64523
  · exact GI hp hfl
  by_cases hcp:x.Code=64522
  · exact GJ hp hcp
  have c1:¬fL x.Code:=by unfold fL;omega
  have c2:¬ee x.Code:=by unfold ee;omega
  have c3:¬cD x.Code:=by unfold cD;omega
  by_cases hf8:aU x.Code=8
  · exact PV hp c1 c2 c3 hf8
  refine GH hp c1 c2 c3 ?_
  have n9:aU x.Code≠9:=fun h=>by have:=O9 h;omega
  have n10:aU x.Code≠10:=fun h=>by have:=Kt h;omega
  rcases Int.lt_or_le (aU x.Code) 8 with h|h
  · exact .inl h
  · exact .inr (by omega)
end Go.Proofs.YtpfobikpggmleaaGreatDoor
namespace Go.Hl
open Go.RowKit
noncomputable abbrev uE (v:om):=GC (fun x:aA=>x.Code) eD (ia v)
section
variable {v:om} {l:List aA} {x:aA} {i d yT base:Nat} {labs:List (List UInt8)} {res:List UInt8} {s s1:dw} {hs:List Nat}
theorem gZ {α:Type} {l:List α} {i:Nat} {x:α} (h:l[i]?=some x):l.drop i=x::l.drop (i+1):=by
 obtain ⟨h1,h2⟩:=List.getElem?_eq_some_iff.1 h
 rw [List.drop_eq_getElem_cons h1,h2]
def uF (x:aA):List UInt8:=if x.Code=3 then [] else eD x
abbrev Tg (x:aA) (s:dw) (o:Option dw):Prop:=(x.Code=4→o=cQ s [127])∧(x.Code≠4→o=some s)
theorem xm {o:Option dw} (h:Tg x s o) [Decidable (x.Code=4)]:(if x.Code=4 then cQ s [127] else some s)=o:=by
 by_cases h4:x.Code=4
 · rw [if_pos h4,h.1 h4]
 · rw [if_neg h4,h.2 h4]
theorem Sg [Decidable (x.Code=3)]:(if x.Code=3 then [] else eD x)=uF x:=by
 unfold uF;by_cases h:x.Code=3
 · rw [if_pos h,if_pos h]
 · rw [if_neg h,if_neg h]
theorem vR (x:aA):(eD x).length≤1:=by unfold eD;split<;>simp
theorem Sh (x:aA):(uF x).length≤1:=by
 unfold uF;split
 · simp
 · exact vR x
theorem Si (hx:l[i]?=some x) (h:x.Code=11∨x.Code=5) (hc:∃s',cQ s res=some s'∧s'.1=[]):uE v (l.drop i) labs res s base=some ([base+s.1.length],l.drop i):=by
 rw [gZ hx];exact RZ h hc
theorem JD (hx:l[i]?=some x) (h:x.Code=11∨x.Code=5) (hc:¬∃s',cQ s res=some s'∧s'.1=[]):uE v (l.drop i) labs res s base=none:=by
 rw [gZ hx];exact Jv h hc
theorem Ci (hx:l[i]?=some x) (h1:¬(x.Code=11∨x.Code=5)) (h2:¬aQ x.Code):uE v (l.drop i) labs res s base=(ia v x s labs).bind fun s1=>(uE v (l.drop (i+1)) labs res s1 base).map fun p=>((base+s.1.length)::p.1,p.2):=by
 rw [gZ hx];exact MO h1 h2
def p6 (v:om) (l:List aA) (labs:List (List UInt8)) (res:List UInt8) (base d:Nat) (yT:Nat) (s0:dw) (i:Nat) (s:dw) (pre:List Nat):Prop:=
 oo (fun x:aA=>x.Code) (l.drop i) d∧uE v (l.drop yT) labs res s0 base=(uE v (l.drop i) labs res s base).map fun p=>(pre++p.1,p.2)
theorem p6.refl (h:oo (fun x:aA=>x.Code) (l.drop yT) d):p6 v l labs res base d yT s yT s []:=⟨h,by simp⟩
theorem p6.trans {a:Nat} {s0:dw} {pre p2:List Nat} {k:Nat} {s2:dw} (h:p6 v l labs res base d a s0 i s pre) (h2:p6 v l labs res base d i s k s2 p2):p6 v l labs res base d a s0 k s2 (pre++p2):=
 ⟨h2.1,by rw [h.2,h2.2,Option.map_map];congr 1;funext p;simp⟩
theorem p6.plain {s2:dw} (hok:oo (fun x:aA=>x.Code) (l.drop i) d) (hx:l[i]?=some x) (h1:¬(x.Code=11∨x.Code=5)) (h2:¬aQ x.Code) (hp:ia v x s labs=some s2):p6 v l labs res base d i s (i+1) s2 [base+s.1.length]:=
 ⟨Jw (by rw [←gZ hx];exact hok) h1 h2,by rw [Ci hx h1 h2,hp];rfl⟩
theorem p6.none {a:Nat} {s0:dw} {pre:List Nat} (h:p6 v l labs res base d a s0 i s pre) (hn:uE v (l.drop i) labs res s base=Option.none):uE v (l.drop a) labs res s0 base=Option.none:=by rw [h.2,hn];rfl
theorem DO (hx:l[i]?=some x) (h1:¬(x.Code=11∨x.Code=5)) (h2:¬aQ x.Code) (hp:ia v x s labs=none):uE v (l.drop i) labs res s base=none:=by rw [Ci hx h1 h2,hp];rfl
noncomputable abbrev Qr (v:om) (l:List aA) (labs:List (List UInt8)) (x:aA) (base:Nat) (s1:dw) (k:Nat):=uE v (l.drop k) (labs++[uF x]) (eD x) ([],False) (base+s1.1.length)
theorem p7 (hx:l[i]?=some x) (h2:aQ x.Code):uE v (l.drop i) labs res s base=((if x.Code=4 then cQ s [127] else some s).bind fun s1=>
      (Qr v l labs x base s1 (i+1)).bind fun p=>
      match p.2 with
      |[]=>none
      | x2::r2=>
        if x2.Code=5 then
          (uE v r2 (labs++[uF x]) (eD x) ([],False) (base+s1.1.length)).bind fun p2=>
          match p2.2 with
          |[]=>none
          |_::r3=>(uE v r3 labs res (bC s1 (eD x)) base).map fun p3=>((base+s.1.length)::p.1++p2.1++p3.1,p3.2)
        else if x.Code=4∧eD x≠[] then none
        else (uE v r2 labs res (bC s1 (eD x)) base).map fun p3=>((base+s.1.length)::p.1++p3.1,p3.2)):=by
  rw [gZ hx,uE,PG (by unfold aQ at h2;omega) h2]
  simp only [Sg]
  refine Option.bind_congr fun s1 _=> ?_
  unfold Qr
  refine Option.bind_congr fun p _=> ?_
  obtain ⟨ha,la⟩:=p
  cases la with
  |nil=>rfl
  | cons x2 r2=>
    dsimp only
    by_cases h5:x2.Code=5
    · rw [if_pos h5,if_pos h5]
      refine Option.bind_congr fun p2 _=> ?_
      obtain ⟨hb,lb⟩:=p2
      cases lb<;>rfl
    · rw [if_neg h5,if_neg h5]
theorem DP (hx:l[i]?=some x) (h2:aQ x.Code) (h:Tg x s none):uE v (l.drop i) labs res s base=none:=by
 rw [p7 hx h2,xm h];rfl
theorem DQ (hx:l[i]?=some x) (h2:aQ x.Code) (h:Tg x s (some s1)) (hi:Qr v l labs x base s1 (i+1)=none):uE v (l.drop i) labs res s base=none:=by
 rw [p7 hx h2,xm h,Option.bind_some,hi];rfl
theorem DR {k:Nat} {h1:List Nat} {x2:aA} (hok:oo (fun x:aA=>x.Code) (l.drop i) d) (hx:l[i]?=some x) (h2:aQ x.Code) (h:Tg x s (some s1)) (hi:Qr v l labs x base s1 (i+1)=some (h1,l.drop k)) (hx2:l[k]?=some x2) (h5:¬x2.Code=5) (h4:¬(x.Code=4∧eD x≠[])):
    p6 v l labs res base d i s (k+1) (bC s1 (eD x)) ((base+s.1.length)::h1):=by
  rw [gZ hx] at hok
  rw [gZ hx2] at hi
  refine ⟨((uA hok h2 hi).resolve_right (fun h=>h5 h.1)).2, ?_⟩
  rw [p7 hx h2,xm h,Option.bind_some,hi,Option.bind_some]
  simp only
  rw [if_neg h5,if_neg h4]
theorem DS {k:Nat} {h1:List Nat} {x2:aA} (hx:l[i]?=some x) (h2:aQ x.Code) (h:Tg x s (some s1)) (hi:Qr v l labs x base s1 (i+1)=some (h1,l.drop k)) (hx2:l[k]?=some x2) (h5:¬x2.Code=5) (h4:x.Code=4∧eD x≠[]):
    uE v (l.drop i) labs res s base=none:=by
  rw [gZ hx2] at hi
  rw [p7 hx h2,xm h,Option.bind_some,hi,Option.bind_some]
  simp only
  rw [if_neg h5,if_pos h4]
theorem DT {k:Nat} {h1:List Nat} {x2:aA} (hx:l[i]?=some x) (h2:aQ x.Code) (h:Tg x s (some s1)) (hi:Qr v l labs x base s1 (i+1)=some (h1,l.drop k)) (hx2:l[k]?=some x2) (h5:x2.Code=5) (hi2:Qr v l labs x base s1 (k+1)=none):
    uE v (l.drop i) labs res s base=none:=by
  rw [gZ hx2] at hi
  rw [p7 hx h2,xm h,Option.bind_some,hi,Option.bind_some]
  simp only
  rw [if_pos h5,show uE v (l.drop (k+1)) (labs++[uF x]) (eD x) ([],False) (base+s1.1.length)=none from hi2];rfl
theorem DU {k k2:Nat} {h1 h3:List Nat} {x2 x3:aA} (hok:oo (fun x:aA=>x.Code) (l.drop i) d) (hx:l[i]?=some x) (h2:aQ x.Code) (h:Tg x s (some s1)) (hi:Qr v l labs x base s1 (i+1)=some (h1,l.drop k)) (hx2:l[k]?=some x2) (h5:x2.Code=5) (hi2:Qr v l labs x base s1 (k+1)=some (h3,l.drop k2)) (Um:l[k2]?=some x3):
    p6 v l labs res base d i s (k2+1) (bC s1 (eD x)) ((base+s.1.length)::(h1++h3)):=by
  rw [gZ hx] at hok
  rw [gZ hx2] at hi
  rw [gZ Um] at hi2
  obtain ⟨_,_,_,hb⟩:=(uA hok h2 hi).resolve_left (fun h=>by omega)
  obtain ⟨x3',r3,e,_,_,Pp⟩:=hb _ _ _ _ _ _ hi2
  cases e
  refine ⟨Pp, ?_⟩
  rw [p7 hx h2,xm h,Option.bind_some,hi,Option.bind_some]
  simp only
  rw [if_pos h5,show uE v (l.drop (k+1)) (labs++[uF x]) (eD x) ([],False) (base+s1.1.length)=_ from hi2,Option.bind_some]
  simp only
  first|done|(congr 1;done)|(congr 1;funext p;simp)
def UL (v:om) (l:List aA) (yT:Nat) (labs:List (List UInt8)) (res:List UInt8) (base:Nat) (hs:List Nat) (g:Int×Int×SB×List Nat):Prop:=
 (g.2.1=0∧∃(h1:List Nat) (k:Nat),g.1=(k:Int)∧yT≤k∧k≤l.length∧g.2.2.2.length≤k+1∧uE v (l.drop yT) labs res ([],False) base=some (h1,l.drop k)∧g.2.2.2=hs++h1)∨(g.2.1≠0∧uE v (l.drop yT) labs res ([],False) base=none)
theorem UM (hok:oo (fun x:aA=>x.Code) (l.drop i) d) (hx:l[i]?=some x) (h2:aQ x.Code):oo (fun x:aA=>x.Code) (l.drop (i+1)) (d+1)∧¬64≤d:=R1 (by rw [←gZ hx];exact hok) h2
theorem PX {k:Nat} {hs1:List Nat} {labs':List (List UInt8)} {res':List UInt8} {st':dw} {b':Nat} (hok:oo (fun x:aA=>x.Code) (l.drop i) d) (hb:uE v (l.drop i) labs' res' st' b'=some (hs1,l.drop k)):∃x2,l[k]?=some x2:=by
 obtain ⟨x2,r2,h1,h2⟩:=R2 (labs':=labs') hok hb
 have:k<l.length:=Classical.byContradiction fun h=>by rw [List.drop_eq_nil_of_le (by omega)] at h1;cases h1
 exact ah this
theorem GL {k:Nat} {h1:List Nat} {x2:aA} (hok:oo (fun x:aA=>x.Code) (l.drop i) d) (hx:l[i]?=some x) (h2:aQ x.Code) (hi:Qr v l labs x base s1 (i+1)=some (h1,l.drop k)) (hx2:l[k]?=some x2) (h5:x2.Code=5):oo (fun x:aA=>x.Code) (l.drop (k+1)) (d+1):=by
 rw [gZ hx] at hok
 rw [gZ hx2] at hi
 exact ((uA hok h2 hi).resolve_left (fun h=>by omega)).2.2.1
theorem p6.fin {a:Nat} {s0:dw} {pre h1:List Nat} {r:List aA} (h:p6 v l labs res base d a s0 i s pre) (he:uE v (l.drop i) labs res s base=some (h1,r)):uE v (l.drop a) labs res s0 base=some (pre++h1,r):=by rw [h.2,he];rfl
theorem p6.Sj {a:Nat} {s0:dw} {pre:List Nat} (h:p6 v l labs res base d a s0 i s pre) (hi:l.length≤i):uE v (l.drop a) labs res s0 base=some (pre,l.drop i):=by
 have e:l.drop i=[]:=List.drop_eq_nil_of_le hi
 have:=h.fin (h1:=[]) (r:=[]) (by rw [e];rfl)
 rw [this,e,List.append_nil]
theorem Sk {g:dw×Int} (h:Qq s res g) (c:g.2=0∧(g.1.1.length:Int)>0):(5:Int)=0↔∃s',cQ s res=some s'∧s'.1=[]:=
 ⟨fun h=>by simp at h,fun ⟨s',h1,h2⟩=>by
  rw [h.ok c.1] at h1;cases h1;have:=c.2;rw [h2] at this;simp at this⟩
theorem UN {g:dw×Int} (h:Qq s res g) (c:¬(g.2=0∧(g.1.1.length:Int)>0)):g.2=0↔∃s',cQ s res=some s'∧s'.1=[]:=
 ⟨fun h0=>⟨g.1,h.ok h0,List.eq_nil_of_length_eq_zero (Classical.byContradiction fun h9=>c ⟨h0,by omega⟩)⟩,fun ⟨s',h1,h2⟩=>Classical.byContradiction fun h0=>by
  rw [h.no h0] at h1;cases h1⟩
structure PY (v:om) (l:List aA):Prop where
 env:Jy v
 ins:∀x∈l,mT x
 len:l.length≤2000
end
end Go.Hl
end
