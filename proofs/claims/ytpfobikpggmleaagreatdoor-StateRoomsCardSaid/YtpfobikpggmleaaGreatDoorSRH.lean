/-
  What the statement's proof leans on, several texts in one (packed by a program).
-/
import Derived.Test.YtpfobikpggmleaaGreatDoorSRG
import Derived.Laws.Bits64b
import Derived.Laws.BitsLemmas
set_option linter.all false
set_option maxRecDepth 1000000
set_option maxHeartbeats 4000000
section
namespace Go.Hl
open Go.RowKit
section
variable {P:Program} {hs:List HP} {env:Env} {q:VP} {dst:Option Tmp} {ty T T' E:TypeId} {pos:String} {after:Array Edge} {gd:Option (Nat×Bool)} {x y z:Operand}
theorem M9 (n:Int) (h0:0≤n) (h1:n<2^64):IntKind.u64.wrap n=n:=eM (pz h0 (by omega))
theorem KL {a b:Nat} (ha:a<18446744073709551616) (hb:b<18446744073709551616) (hx:bp env x (ag .u64 (a:Int))) (hy:bp env y (ag .u64 (b:Int))):bg P hs env ⟨dst, .binOp .or T x y T',ty,pos,after,gd⟩ (ag .u64 ((a|||b:Nat):Int)):=
 bg.aI fun ρ w S F _ he=>by
  have h1:=he.o _ _ hx;have h2:=he.o _ _ hy;simp only [af] at h1 h2
  exact ⟨.int .u64 ((a|||b:Nat):Int),by simp [execOp,h1,h2,go_sem,(bits_nat .u64 64 (by decide) M9 a b (by omega) (by omega)).2],rfl⟩
theorem OX {k k':IntKind} {n:Int} {s:Nat} (hx:bp env x (ag k n)) (hy:bp env y (ag k' (s:Int))) (h:s≤k.bits):bg P hs env ⟨dst, .binOp .shr T x y T',ty,pos,after,gd⟩ (ag k (n/2^s)):=
 bg.aI fun ρ w S F _ he=>by
  have h1:=he.o _ _ hx;have h2:=he.o _ _ hy;simp only [af] at h1 h2
  have hn:¬((s:Int)<0):=by omega
  have hf:n.fdiv (2^s)=n/2^s:=Int.fdiv_eq_ediv_of_nonneg _ (Int.le_of_lt (Int.pow_pos (by decide)))
  refine ⟨.int k (n/2^s), ?_,rfl⟩
  cases k<;>simp only [IntKind.bits] at h<;>simp [execOp,h1,h2,go_sem,Op.shift,hn,Nat.min_eq_left h,hf]
theorem wB {k k':IntKind} {a s:Nat} (hx:bp env x (ag k (a:Int))) (hy:bp env y (ag k' (s:Int))) (h:s≤k.bits):bg P hs env ⟨dst, .binOp .shr T x y T',ty,pos,after,gd⟩ (ag k ((a/2^s:Nat):Int)):=
 (OX hx hy h).le (aa.int (by simp))
theorem HQ {k':IntKind} {a s:Nat} (hx:bp env x (ag .u64 (a:Int))) (hy:bp env y (ag k' (s:Int))) (h:s≤64):bg P hs env ⟨dst, .binOp .shl T x y T',ty,pos,after,gd⟩ (ag .u64 ((a*2^s%18446744073709551616:Nat):Int)):=
 (KG hx hy h).le (aa.int (by
  rw [IntKind.wrap_u64,Int.natCast_emod,Int.natCast_mul,Int.natCast_pow];rfl))
theorem yU {a b:Nat} (hb:0<b) (hx:bp env x (ag .u64 (a:Int))) (hy:bp env y (ag .u64 (b:Int))):bg P hs env ⟨dst, .binOp .rem T x y T',ty,pos,after,gd⟩ (ag .u64 ((a%b:Nat):Int)):=
 (BJ hx hy (by omega) (by omega)).le (aa.int (by rw [Int.natCast_emod]))
theorem yW {a b:Nat} (hb:0<b∧a<18446744073709551616) (hx:bp env x (ag .u64 (a:Int))) (hy:bp env y (ag .u64 (b:Int))):bg P hs env ⟨dst, .binOp .quo T x y T',ty,pos,after,gd⟩ (ag .u64 ((a/b:Nat):Int)):=
 (KF hx hy (by omega) (by omega) (pz (Int.ediv_nonneg (by omega) (by omega)) (by rw [←Int.natCast_ediv];have:=Nat.div_le_self a b;omega))).le (aa.int (by rw [Int.natCast_ediv]))
theorem P7 {k:IntKind} {n m:Int} (hx:bp env x (ag k n)) (hy:bp env y (ag k m)) (hm:m≠0):bg P hs env ⟨dst, .binOp .quo T x y T',ty,pos,after,gd⟩ (ag k (k.wrap (n.tdiv m))):=
 bg.aI fun ρ w S F _ he=>by
  have h1:=he.o _ _ hx;have h2:=he.o _ _ hy;simp only [af] at h1 h2
  exact ⟨.int k (k.wrap (n.tdiv m)),by simp [execOp,h1,h2,go_sem,Op.intDiv,hm],rfl⟩
theorem P8 {k:IntKind} {n m:Int} (hx:bp env x (ag k n)) (hy:bp env y (ag k m)) (hm:m≠0):bg P hs env ⟨dst, .binOp .rem T x y T',ty,pos,after,gd⟩ (ag k (n.tmod m)):=
 bg.aI fun ρ w S F _ he=>by
  have h1:=he.o _ _ hx;have h2:=he.o _ _ hy;simp only [af] at h1 h2
  exact ⟨.int k (n.tmod m),by simp [execOp,h1,h2,go_sem,Op.intDiv,hm],rfl⟩
theorem gL.fu {α:Type} {o:Oper} {γ:Type} {φ:γ→Prop} {oP:γ→List HP} {G:γ→SB} {n:Nat} {enc:α→List VP} {xs:γ→List α} [he:gN n enc] (h:gL P hs env o φ (fun g=>av (G g) n enc (xs g)::oP g) (fun g=>af (br (G g) (xs g).length))):
    gL P hs env o φ oP (fun g=>ah n enc (xs g)):=by
  intro c a w S F aC hown oX K Q hk
  refine h c a w S F aC hown oX K Q fun g v w' S' F' hφ h3 hS' hag wq hq=> ?_
  obtain ⟨F1,F2,f1,f2,f3,f5⟩:=wq
  simp only [af] at hq
  generalize hG:G g=gg at*
  cases gg with
  | none=>
    have hxs:xs g=[]:=f3
    refine hk g v w' S' F2 hφ ⟨h3.os,h3.tape,h3.output,h3.size,h3.kept,fun k hk hf=>h3.di k hk (f2 k hf),h3.bM,fun k hk=>h3.cc k (f2 k hk),fun k hk=>h3.own k (f2 k hk),h3.shr,h3.base⟩ hS' hag f5 ⟨none,0,hq.trans (by rw [hxs];rfl),by rw [hxs];simp,by rw [hxs];simp,rfl⟩
  | some bc=>
    obtain ⟨b,cap⟩:=bc
    obtain ⟨hFb,hl,hm,arr,T,hh,hn,hc⟩:=f3
    have hb:=f1 b hFb
    have hS:∀k,S' k→S' k∨k=b:=fun _ h=> .inl h
    have o6:bU (fun k=>S' k∨k=b) w' b 0 ((xs g).flatMap enc):=fun j q hj=>let ⟨u,hu,hq⟩:=hc j q hj;⟨u,by simp [World.cell?,hh,hu],q.mono hS (fun _ _=>rfl) hq⟩
    refine hk g v w' (fun k=>S' k∨k=b) F2 hφ ⟨h3.os,h3.tape,h3.output,h3.size,h3.kept, ?_, ?_,fun k hk=>h3.cc k (f2 k hk),fun k hk=>h3.own k (f2 k hk), ?_,fun k hk=> .inl (h3.base k hk)⟩ (fun k hk=> .inl (hS' k hk)) hag
      (f5.mono (fun _ h=>h) hS (fun _ _=>rfl) (fun _ _=>rfl)) ⟨some ⟨b,0,none⟩,cap,hq,hl,hm,fun _=>⟨rfl, .inr rfl,fun i x hx=>iz he.len o6 i x hx⟩⟩
    · exact fun k hk hf=>hk.elim (fun h=>h3.di k h (f2 k hf)) (fun e=>hb.2 (e▸hf))
    · exact fun k hk=>hk.elim (h3.bM k) (fun e=>h3.cc k (e▸hb.1))
    · exact fun k hk=>hk.elim (h3.shr k) (fun e=>by
        rcases h3.own b hb.1 with h|h
        · exact .inr (.inl (e▸h))
        · exact .inr (.inr (e▸h)))
class Xz (h:HP):Prop where
 dup:∀{F F' S:BS} {w:World},h.p F S w→h.p F' S w
def XA (g:Nat) (k:IntKind) (tab:List Nat):HP:=
 ⟨fun F S w=>S g∧∀j,j<tab.length→w.cell? ⟨g,j,none⟩=some (.int k (tab.getD j 0)),fun h1 h2 h3 h4 ⟨hS,hc⟩=>⟨h2 g hS,fun j hj=>by rw [yI (h4 g hS)];exact hc j hj⟩⟩
instance (g:Nat) (k:IntKind) (tab:List Nat):Xz (XA g k tab):=⟨fun h=>h⟩
end
section
variable {P:Program} {hs:List HP} {env:Env} {q:VP} {dst:Option Tmp} {ty T T' E:TypeId} {pos:String} {after:Array Edge} {gd:Option (Nat×Bool)} {x y z:Operand}
theorem kZ {o:Oper} {q:VP} (h:False):bg P hs env o q:=h.elim
def vE {α:Type} (p:Prop) (n:Nat) (enc:α→List VP) (xs:List α):VP:=
 ⟨fun S w v=>(ah n enc xs).p S w v∧∃a l c,v= .slice a l c∧(p↔a=none),fun h1 h2 ⟨a,b⟩=>⟨(ah n enc xs).mono h1 h2 a,b⟩⟩
instance {α:Type} (p:Prop) (n:Nat) (enc:α→List VP) (xs:List α):Flat (vE p n enc xs):=⟨fun ⟨h,_⟩=>(inferInstance:Flat (ah n enc xs)).flat h⟩
theorem Ed {α:Type} {p:Prop} {n:Nat} {enc:α→List VP} {xs:List α}:aa (vE p n enc xs) (ah n enc xs):=fun _ _ _ h=>h.1
theorem aM.Na {Q:Exit→Act→World→Prop} {c:Ctx} {s:Code} {α:Type} {n t:Nat} {enc:α→List VP} {xs:List α} (ht:look env t=some (ah n enc xs)) (k:∀p:Prop,(p→xs=[])→aM P Q c s hs ((t,vE p n enc xs)::env)):aM P Q c s hs env:=by
 intro a w ⟨h1,h2,S,F,h3,h4,h5⟩
 have hv:=h5 t _ ht
 obtain ⟨ad,cap,XB,hc,hm,h⟩:=id hv
 refine k (ad=none) (fun e=> ?_) a w ⟨h1,h2,S,F,h3,h4,fun s q hl=> ?_⟩
 · subst e;exact List.length_eq_zero_iff.1 (by have h9:cap=0:=h;omega)
 · rw [bx] at hl
   by_cases e:t=s
   · rw [if_pos e] at hl;cases hl;subst e;exact ⟨hv,ad,_,_,XB,Iff.rfl⟩
   · rw [if_neg e] at hl;exact h5 s q hl
theorem HR {α:Type} {p:Prop} {n:Nat} {enc:α→List VP} {xs:List α} (hT:P.underlying T=some (.slice E)) (hx:bp env x (vE p n enc xs)) (hy:bp env y (af (.slice none 0 0))):bg P hs env ⟨dst, .binOp .eql T x y T',ty,pos,after,gd⟩ (ak p):=
 bg.aI fun ρ w S F _ he=>by
  obtain ⟨_,o,l,c,hv,hp⟩:=he.o _ _ hx
  have h2:=he.o _ _ hy;simp only [af] at h2
  have e2:(binOp .eql T (.slice o l c) (.slice none 0 0)).run P w= .ok (.bool o.isNone) w:=by
   show ((do pure (.bool (←Op.equalIn (9999+1) T (.slice o l c) (.slice none 0 0)))):Sem Value).run P w=_
   rw [bk (jx 9999 o l c hT)];rfl
  refine ⟨.bool o.isNone,by simp [execOp,hv,h2,eqGuard,e2],_,rfl, ?_⟩
  cases o<;>simp [hp]
end
theorem aB.Ee {b:Nat} {cs cs':List VP} (h:My cs cs') {r:List HP}:aB (aF b cs::r) (aF b cs'::r):=fun F S w ⟨F1,F2,h1,h2,⟨f1,arr,T,hh,hn,hc⟩,h4⟩=>
 ⟨F1,F2,h1,h2,⟨f1,arr,T,hh,by rw [hn,h.len],fun j q' hj=>let ⟨q,k1,k2⟩:=h.get j q' hj;let ⟨u,hu,hq⟩:=hc j q k1;⟨u,hu,k2 _ _ _ hq⟩⟩,h4⟩
end Go.Hl
end
