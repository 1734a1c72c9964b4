/-
  What the statement's proof leans on, several texts in one (packed by a program).
-/
import Derived.Test.YtpfobikpggmleaaGreatDoorSBG
import Derived.Laws.Bits64b
import Derived.Laws.BitsLemmas
set_option linter.all false
set_option maxRecDepth 1000000
set_option maxHeartbeats 4000000
section
namespace Go.Hl
open Go.RowKit
section
variable {P:Program} {hs:List HP} {env:Env} {q:VP} {dst:Option Tmp} {ty T T' E:TypeId} {pos:String} {after:Array Edge} {gd:Option (Nat×Bool)} {x y z:Operand}
theorem Rj(n:Int)(h0:0≤n)(h1:n<2^64):IntKind.u64.wrap n=n:=eM (nv h0 (by omega))
theorem OD{a b:Nat}(ha:a<18446744073709551616)(hb:b<18446744073709551616)(hx:bx env x (ag .u64 (a:Int)))(hy:bx env y (ag .u64 (b:Int))):bp P hs env ⟨dst, .binOp .or T x y T',ty,pos,after,gd⟩ (ag .u64 ((a|||b:Nat):Int)):=
 bp.aL fun ρ w S F _ he=>by
  have h1:=he.o _ _ hx;have h2:=he.o _ _ hy;simp only[aa] at h1 h2
  exact⟨.int .u64 ((a|||b:Nat):Int),by simp[execOp,h1,h2,go_sem,(bits_nat .u64 64 (by decide) Rj a b (by omega) (by omega)).2],rfl⟩
theorem Tx{k k':IntKind}{n:Int}{s:Nat}(hx:bx env x (ag k n))(hy:bx env y (ag k' (s:Int)))(h:s≤k.bits):bp P hs env ⟨dst, .binOp .shr T x y T',ty,pos,after,gd⟩ (ag k (n/2^s)):=
 bp.aL fun ρ w S F _ he=>by
  have h1:=he.o _ _ hx;have h2:=he.o _ _ hy;simp only[aa] at h1 h2
  have hn:¬((s:Int)<0):=by omega
  have hf:n.fdiv (2^s)=n/2^s:=Int.fdiv_eq_ediv_of_nonneg _ (Int.le_of_lt (Int.pow_pos (by decide)));refine⟨.int k (n/2^s),?_,rfl⟩;cases k<;>simp only[IntKind.bits] at h<;>simp[execOp,h1,h2,go_sem,Op.shift,hn,Nat.min_eq_left h,hf]
theorem zl{k k':IntKind}{a s:Nat}(hx:bx env x (ag k (a:Int)))(hy:bx env y (ag k' (s:Int)))(h:s≤k.bits):bp P hs env ⟨dst, .binOp .shr T x y T',ty,pos,after,gd⟩ (ag k ((a/2^s:Nat):Int)):=
 (Tx hx hy h).le (af.int (by simp))
theorem LC{k':IntKind}{a s:Nat}(hx:bx env x (ag .u64 (a:Int)))(hy:bx env y (ag k' (s:Int)))(h:s≤64):bp P hs env ⟨dst, .binOp .shl T x y T',ty,pos,after,gd⟩ (ag .u64 ((a*2^s%18446744073709551616:Nat):Int)):=
 (Oy hx hy h).le (af.int (by
  rw[IntKind.wrap_u64,Int.natCast_emod,Int.natCast_mul,Int.natCast_pow];rfl))
theorem BC{a b:Nat}(hb:0<b)(hx:bx env x (ag .u64 (a:Int)))(hy:bx env y (ag .u64 (b:Int))):bp P hs env ⟨dst, .binOp .rem T x y T',ty,pos,after,gd⟩ (ag .u64 ((a%b:Nat):Int)):=
 (By hx hy (by omega) (by omega)).le (af.int (by rw[Int.natCast_emod]))
theorem BD{a b:Nat}(hb:0<b∧a<18446744073709551616)(hx:bx env x (ag .u64 (a:Int)))(hy:bx env y (ag .u64 (b:Int))):bp P hs env ⟨dst, .binOp .quo T x y T',ty,pos,after,gd⟩ (ag .u64 ((a/b:Nat):Int)):=
 (Ox hx hy (by omega) (by omega) (nv (Int.ediv_nonneg (by omega) (by omega)) (by rw[←Int.natCast_ediv];have:=Nat.div_le_self a b;omega))).le (af.int (by rw[Int.natCast_ediv]))
theorem Uv{k:IntKind}{n m:Int}(hx:bx env x (ag k n))(hy:bx env y (ag k m))(hm:m≠0):bp P hs env ⟨dst, .binOp .quo T x y T',ty,pos,after,gd⟩ (ag k (k.wrap (n.tdiv m))):=
 bp.aL fun ρ w S F _ he=>by
  have h1:=he.o _ _ hx;have h2:=he.o _ _ hy;simp only[aa] at h1 h2
  exact⟨.int k (k.wrap (n.tdiv m)),by simp[execOp,h1,h2,go_sem,Op.intDiv,hm],rfl⟩
theorem Uw{k:IntKind}{n m:Int}(hx:bx env x (ag k n))(hy:bx env y (ag k m))(hm:m≠0):bp P hs env ⟨dst, .binOp .rem T x y T',ty,pos,after,gd⟩ (ag k (n.tmod m)):=
 bp.aL fun ρ w S F _ he=>by
  have h1:=he.o _ _ hx;have h2:=he.o _ _ hy;simp only[aa] at h1 h2
  exact⟨.int k (n.tmod m),by simp[execOp,h1,h2,go_sem,Op.intDiv,hm],rfl⟩
theorem LD{n by_:Nat}{z0:Value}{w:World}{ρ:Operand→Value}(hT:P.underlying T=some (.slice E))(hn:P.cellsOf E=1)(hb:P.bytesOf E=by_)(hz:jI P E=some [z0])(hv:ρ x= .int .i64 (n:Int))(hle:n*by_≤281474976710656)(hle':n≤281474976710656):
    (execOp ρ ⟨dst, .makeSlice T x x,ty,pos,after,gd⟩).run P w= .ok (.value (.slice (some ⟨w.heap.size,0,none⟩) n n)) {w with heap:=w.heap.push (.cells (List.replicate n z0).toArray E)}:=by
  obtain⟨info,hi1,hi2⟩:=dw hn rfl w;obtain⟨zv,Ez,wq⟩:=gH hz w;have hs1:=run_sizeOf hn rfl w;have hw:IntKind.i64.wrap (n:Int)=(n:Int):=eM (cn (by omega) (by omega));have hbytes:info.bytes=by_:=hi2.trans hb
  have hcells:(Array.range (n*1)).map (fun t=>zv.cells[t%zv.cells.size]!)=(List.replicate n z0).toArray:=by
    rw[wq];apply Array.ext
    · simp
    · intro j h1 h2
      simp[Nat.mod_one]
  have LA:¬((n:Int)<0):=by omega
  have wu:¬((281474976710656:Int)<(by_:Int)*(n:Int)):=by rw[←Int.natCast_mul,Nat.mul_comm];omega
  have hroom:∀m:Nat,(askRoom m).run P w= .ok () w:=fun m=>by unfold askRoom;split<;>simp[mark,Sem.run]
  by_cases h0:n=0
  · subst h0
    have hw0:IntKind.i64.wrap 0=0:=hw;have Kt:Array.map (fun _:Nat=>(default:Value)) (Array.range 0)=(List.replicate 0 z0).toArray:=by apply Array.ext<;>simp
    simp[execOp,Instr.makeSlice,run_underlying hT,asInt,asIntOf,hv,hi1,hw0,hs1,newRow];exact congrArg (fun r=>w.alloc (.cells r E)) Kt
  · simp[execOp,Instr.makeSlice,run_underlying hT,asInt,asIntOf,hv,hi1,hbytes,hw,LA,wu,hroom,hs1,h0,Ez,newRow]
    rw[Nat.mul_one] at hcells;simpa using congrArg (fun r=>w.alloc (.cells r E)) hcells
theorem Rk{α:Type}{n by_:Nat}{i:Int}{z0:Value}{enc:α→List VP}(x0:α){q0:VP}(hT:P.underlying T=some (.slice E))(hn:P.cellsOf E=1)(hb:P.bytesOf E=by_)(hz:jI P E=some [z0])(q6:enc x0=[q0])(Ks:af (aa z0) q0)(hx:bx env x (ag .i64 i))(hi:i=(n:Int))(hle:n*by_≤281474976710656)(hle':n≤281474976710656):
    fZ P hs env ⟨dst, .makeSlice T x x,ty,pos,after,gd⟩ (γ:=Nat) (fun _=>True) (fun b=>av (some (b,n)) 1 enc (List.replicate n x0)::hs) (fun b=>aa (bt (some (b,n)) n)):=by
  intro c a w S F aH hown he K Q hk;have hv:=hx S w a he;simp only[aa] at hv
  subst hi;have hr:=LD (dst:=dst) (ty:=ty) (pos:=pos) (after:=after) (gd:=gd) (w:=w) hT hn hb hz hv hle hle';unfold Oper.wp;rw[hr];refine hk w.heap.size _ _ S _ trivial (aH.eV _) (fun _ h=>h) (fun k hk=>bF w _ k (aH.bR k hk)) (hown.eV aH.bR aH.cq _ ⟨rfl,by simp,by simp;exact hle',(List.replicate n z0).toArray,E,by simp,by simp,fun j q hj=>?_⟩) rfl
  have CL:(List.replicate n x0).flatMap enc=List.replicate n q0:=by
    clear hr hle hle' hv hk hx hj
    induction n with
    |zero=>rfl
    |succ n ih=>rw[List.replicate_succ,List.flatMap_cons,ih,q6];rfl
  rw[CL] at hj;obtain⟨hjn,rfl⟩:=by simpa[List.getElem?_replicate] using hj
  exact⟨z0,by simp[hjn],Ks _ _ _ rfl⟩
theorem fZ.eB{α:Type}{o:Oper}{γ:Type}{φ:γ→Prop}{hs1:γ→List HP}{G:γ→SB}{n:Nat}{enc:α→List VP}{xs:γ→List α}[he:gZ n enc](h:fZ P hs env o φ (fun g=>av (G g) n enc (xs g)::hs1 g) (fun g=>aa (bt (G g) (xs g).length))):
    fZ P hs env o φ hs1 (fun g=>ai n enc (xs g)):=by
  intro c a w S F aH hown qe K Q hk;refine h c a w S F aH hown qe K Q fun g v w' S' F' hφ h3 hS' hag uX hq=>?_;obtain⟨F1,F2,f1,f2,f3,f5⟩:=uX;simp only[aa] at hq;generalize hG:G g=gg at*;cases gg with
  | none=>
    have hxs:xs g=[]:=f3;refine hk g v w' S' F2 hφ ⟨h3.os,h3.tape,h3.output,h3.size,h3.kept,fun k hk hf=>h3.dJ k hk (f2 k hf),h3.bR,fun k hk=>h3.cq k (f2 k hk),fun k hk=>h3.own k (f2 k hk),h3.shr,h3.base⟩ hS' hag f5 ⟨none,0,hq.trans (by rw[hxs];rfl),by rw[hxs];simp,by rw[hxs];simp,rfl⟩
  | some bc=>
    obtain⟨b,cap⟩:=bc;obtain⟨hFb,hl,hm,arr,T,hh,hn,hc⟩:=f3;have hb:=f1 b hFb;have hS:∀k,S' k→S' k∨k=b:=fun _ h=> .inl h;have qf:ck (fun k=>S' k∨k=b) w' b 0 ((xs g).flatMap enc):=fun j q hj=>let ⟨u,hu,hq⟩:=hc j q hj;⟨u,by simp[World.cell?,hh,hu],q.mono hS (fun _ _=>rfl) hq⟩
    refine hk g v w' (fun k=>S' k∨k=b) F2 hφ ⟨h3.os,h3.tape,h3.output,h3.size,h3.kept,?_,?_,fun k hk=>h3.cq k (f2 k hk),fun k hk=>h3.own k (f2 k hk),?_,fun k hk=> .inl (h3.base k hk)⟩ (fun k hk=> .inl (hS' k hk)) hag
      (f5.mono (fun _ h=>h) hS (fun _ _=>rfl) (fun _ _=>rfl)) ⟨some ⟨b,0,none⟩,cap,hq,hl,hm,fun _=>⟨rfl, .inr rfl,fun i x hx=>jB he.len qf i x hx⟩⟩
    · exact fun k hk hf=>hk.elim (fun h=>h3.dJ k h (f2 k hf)) (fun e=>hb.2 (e▸hf))
    · exact fun k hk=>hk.elim (h3.bR k) (fun e=>h3.cq k (e▸hb.1))
    · exact fun k hk=>hk.elim (h3.shr k) (fun e=>by
        rcases h3.own b hb.1 with h|h
        · exact .inr (.inl (e▸h))
        · exact .inr (.inr (e▸h)))
theorem fZ.le{o:Oper}{γ:Type}{φ:γ→Prop}{hs1:γ→List HP}{q1 q2:γ→VP}(h:fZ P hs env o φ hs1 q1)(hq:∀g,φ g→af (q1 g) (q2 g)):fZ P hs env o φ hs1 q2:=
 fun c a w S F aH hown qe K Q hk=>h c a w S F aH hown qe K Q fun g v w' S' F' hφ h3 hS' hag uX hv=>hk g v w' S' F' hφ h3 hS' hag uX (hq g hφ _ _ _ hv)
theorem LF{α:Type}{n by_:Nat}{i:Int}{z0:Value}{enc:α→List VP}[he:gZ 1 enc](x0:α){q0:VP}(hT:P.underlying T=some (.slice E))(hn:P.cellsOf E=1)(hb:P.bytesOf E=by_)(hz:jI P E=some [z0])(q6:enc x0=[q0])(Ks:af (aa z0) q0)(hx:bx env x (ag .i64 i))(hi:i=(n:Int))(hle:n*by_≤281474976710656)(hle':n≤281474976710656):
    fZ P hs env ⟨dst, .makeSlice T x x,ty,pos,after,gd⟩ (γ:=Nat) (fun _=>True) (fun _=>hs) (fun _=>ai 1 enc (List.replicate n x0)):=
  fZ.eB (G:=fun b=>some (b,n)) (xs:=fun _=>List.replicate n x0) ((Rk (hs:=hs) x0 hT hn hb hz q6 Ks hx hi hle hle').le fun g _=>af.of_eq (by rw[List.length_replicate]))
class aj6(h:HP):Prop where
 dup:∀{F F' S:BS} {w:World},h.p F S w→h.p F' S w
def aj7(g:Nat)(k:IntKind)(tab:List Nat):HP:=
 ⟨fun F S w=>S g∧∀j,j<tab.length→w.cell? ⟨g,j,none⟩=some (.int k (tab.getD j 0)),fun h1 h2 h3 h4 ⟨hS,hc⟩=>⟨h2 g hS,fun j hj=>by rw[Bq (h4 g hS)];exact hc j hj⟩⟩
instance (g:Nat) (k:IntKind) (tab:List Nat):aj6 (aj7 g k tab):=⟨fun h=>h⟩
end
section
variable {P:Program} {hs:List HP} {env:Env} {q:VP} {dst:Option Tmp} {ty T T' E:TypeId} {pos:String} {after:Array Edge} {gd:Option (Nat×Bool)} {x y z:Operand}
theorem mO{o:Oper}{q:VP}(h:False):bp P hs env o q:=h.elim
def yB{α:Type}(p:Prop)(n:Nat)(enc:α→List VP)(xs:List α):VP:=
 ⟨fun S w v=>(ai n enc xs).p S w v∧∃a l c,v= .slice a l c∧(p↔a=none),fun h1 h2 ⟨a,b⟩=>⟨(ai n enc xs).mono h1 h2 a,b⟩⟩
instance {α:Type} (p:Prop) (n:Nat) (enc:α→List VP) (xs:List α):Flat (yB p n enc xs):=⟨fun⟨h,_⟩=>(inferInstance:Flat (ai n enc xs)).flat h⟩
theorem HS{α:Type}{p:Prop}{n:Nat}{enc:α→List VP}{xs:List α}:af (yB p n enc xs) (ai n enc xs):=fun _ _ _ h=>h.1
theorem aM.Rl{Q:Exit→Act→World→Prop}{c:Ctx}{s:Code}{α:Type}{n t:Nat}{enc:α→List VP}{xs:List α}(ht:look env t=some (ai n enc xs))(k:∀p:Prop,(p→xs=[])→aM P Q c s hs ((t,yB p n enc xs)::env)):aM P Q c s hs env:=by
 intro a w ⟨h1,h2,S,F,h3,h4,h5⟩;have hv:=h5 t _ ht;obtain⟨ad,cap,hv1,hc,hm,h⟩:=id hv;refine k (ad=none) (fun e=>?_) a w ⟨h1,h2,S,F,h3,h4,fun s q hl=>?_⟩
 · subst e;exact List.length_eq_zero_iff.1 (by have h9:cap=0:=h;omega)
 · rw[bL] at hl
   by_cases e:t=s
   · rw[if_pos e] at hl;cases hl;subst e;exact⟨hv,ad,_,_,hv1,Iff.rfl⟩
   · rw[if_neg e] at hl;exact h5 s q hl
theorem LG{α:Type}{p:Prop}{n:Nat}{enc:α→List VP}{xs:List α}(hT:P.underlying T=some (.slice E))(hx:bx env x (yB p n enc xs))(hy:bx env y (aa (.slice none 0 0))):bp P hs env ⟨dst, .binOp .eql T x y T',ty,pos,after,gd⟩ (ak p):=
 bp.aL fun ρ w S F _ he=>by
  obtain⟨_,o,l,c,hv,hp⟩:=he.o _ _ hx;have h2:=he.o _ _ hy;simp only[aa] at h2
  have e2:(binOp .eql T (.slice o l c) (.slice none 0 0)).run P w= .ok (.bool o.isNone) w:=by
   show((do pure (.bool (←Op.equalIn (9999+1) T (.slice o l c) (.slice none 0 0)))):Sem Value).run P w=_
   rw[bu (kO 9999 o l c hT)];rfl
  refine⟨.bool o.isNone,by simp[execOp,hv,h2,eqGuard,e2],_,rfl,?_⟩;cases o<;>simp[hp]
end
theorem aB.HT{b:Nat}{cs cs':List VP}(h:QN cs cs'){r:List HP}:aB (ax b cs::r) (ax b cs'::r):=fun F S w ⟨F1,F2,h1,h2,⟨f1,arr,T,hh,hn,hc⟩,h4⟩=>
 ⟨F1,F2,h1,h2,⟨f1,arr,T,hh,by rw[hn,h.len],fun j q' hj=>let ⟨q,k1,k2⟩:=h.get j q' hj;let ⟨u,hu,hq⟩:=hc j q k1;⟨u,hu,k2 _ _ _ hq⟩⟩,h4⟩
end Go.Hl
end
