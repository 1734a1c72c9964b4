/-
  What the statement's proof leans on, several texts in one (packed by a program).
-/
import Derived.Test.YtmacjbfbpjgmnaaGreatDoorRNG
import Derived.Laws.Bits64b
import Derived.Laws.BitsLemmas
set_option linter.all false
set_option maxRecDepth 1000000
set_option maxHeartbeats 4000000
section
namespace Go.Hl
open Go.RowKit
section
variable {P:Program} {hs:List HP} {env:Env} {q:VP} {dst:Option Tmp} {ty T T' E:TypeId} {pos:String} {after:Array Edge} {gd:Option (Nat×Bool)} {x y z:Operand}
theorem EZ(a b:Nat)(ha:a<18446744073709551616)(hb:b<18446744073709551616):bits .xor .u64 (a:Int) (b:Int)=((a^^^b:Nat):Int):=bits_xor_u64_nat a b ha hb
theorem HE(n:Int)(h0:0≤n)(h1:n<2^64):IntKind.u64.wrap n=n:=eu (vD h0 (by omega))
theorem N0(n:Int)(h0:0≤n)(h1:n<2^63):IntKind.i64.wrap n=n:=eu (cG (by omega) (by omega))
theorem N1(n:Int)(h0:0≤n)(h1:n<2^32):IntKind.u32.wrap n=n:=eu (BO h0 (by omega))
theorem gZ{a b:Nat}(ha:a<18446744073709551616)(hb:b<18446744073709551616)(hx:aU env x (aa .u64 (a:Int)))(hy:aU env y (aa .u64 (b:Int))):aT P hs env ⟨dst, .binOp .and T x y T',ty,pos,after,gd⟩ (aa .u64 ((a &&& b:Nat):Int)):=
 aT.aD fun ρ w S F _ he=>by
  have h1:=he.o _ _ hx;have h2:=he.o _ _ hy;simp only[af] at h1 h2
  exact⟨.int .u64 ((a &&& b:Nat):Int),by simp[execOp,h1,h2,go_sem,(bits_nat .u64 64 (by decide) HE a b (by omega) (by omega)).1],rfl⟩
theorem vX{a b:Nat}(ha:a<18446744073709551616)(hb:b<18446744073709551616)(hx:aU env x (aa .u64 (a:Int)))(hy:aU env y (aa .u64 (b:Int))):aT P hs env ⟨dst, .binOp .or T x y T',ty,pos,after,gd⟩ (aa .u64 ((a|||b:Nat):Int)):=
 aT.aD fun ρ w S F _ he=>by
  have h1:=he.o _ _ hx;have h2:=he.o _ _ hy;simp only[af] at h1 h2
  exact⟨.int .u64 ((a|||b:Nat):Int),by simp[execOp,h1,h2,go_sem,(bits_nat .u64 64 (by decide) HE a b (by omega) (by omega)).2],rfl⟩
theorem I4{a b:Nat}(ha:a<18446744073709551616)(hb:b<18446744073709551616)(hx:aU env x (aa .u64 (a:Int)))(hy:aU env y (aa .u64 (b:Int))):aT P hs env ⟨dst, .binOp .xor T x y T',ty,pos,after,gd⟩ (aa .u64 ((a^^^b:Nat):Int)):=
 aT.aD fun ρ w S F _ he=>by
  have h1:=he.o _ _ hx;have h2:=he.o _ _ hy;simp only[af] at h1 h2
  exact⟨.int .u64 ((a^^^b:Nat):Int),by simp[execOp,h1,h2,go_sem,EZ a b ha hb],rfl⟩
theorem I5{a b:Nat}(ha:a<9223372036854775808)(hb:b<9223372036854775808)(hx:aU env x (aa .i64 (a:Int)))(hy:aU env y (aa .i64 (b:Int))):aT P hs env ⟨dst, .binOp .and T x y T',ty,pos,after,gd⟩ (aa .i64 ((a &&& b:Nat):Int)):=
 aT.aD fun ρ w S F _ he=>by
  have h1:=he.o _ _ hx;have h2:=he.o _ _ hy;simp only[af] at h1 h2
  exact⟨.int .i64 ((a &&& b:Nat):Int),by simp[execOp,h1,h2,go_sem,(bits_nat .i64 63 (by decide) N0 a b (by omega) (by omega)).1],rfl⟩
theorem Lo{a b:Nat}(ha:a<4294967296)(hb:b<4294967296)(hx:aU env x (aa .u32 (a:Int)))(hy:aU env y (aa .u32 (b:Int))):aT P hs env ⟨dst, .binOp .or T x y T',ty,pos,after,gd⟩ (aa .u32 ((a|||b:Nat):Int)):=
 aT.aD fun ρ w S F _ he=>by
  have h1:=he.o _ _ hx;have h2:=he.o _ _ hy;simp only[af] at h1 h2
  exact⟨.int .u32 ((a|||b:Nat):Int),by simp[execOp,h1,h2,go_sem,(bits_nat .u32 32 (by decide) N1 a b (by omega) (by omega)).2],rfl⟩
theorem HF{k k':IntKind}{n:Int}{s:Nat}(hx:aU env x (aa k n))(hy:aU env y (aa k' (s:Int)))(h:s≤k.bits):aT P hs env ⟨dst, .binOp .shr T x y T',ty,pos,after,gd⟩ (aa k (n/2^s)):=
 aT.aD fun ρ w S F _ he=>by
  have h1:=he.o _ _ hx;have h2:=he.o _ _ hy;simp only[af] at h1 h2
  have hn:¬((s:Int)<0):=by omega
  have hf:n.fdiv (2^s)=n/2^s:=Int.fdiv_eq_ediv_of_nonneg _ (Int.le_of_lt (Int.pow_pos (by decide)));refine⟨.int k (n/2^s),?_,rfl⟩;cases k<;>simp only[IntKind.bits] at h<;>simp[execOp,h1,h2,go_sem,Op.shift,hn,Nat.min_eq_left h,hf]
theorem iA{k k':IntKind}{a s:Nat}(hx:aU env x (aa k (a:Int)))(hy:aU env y (aa k' (s:Int)))(h:s≤k.bits):aT P hs env ⟨dst, .binOp .shr T x y T',ty,pos,after,gd⟩ (aa k ((a/2^s:Nat):Int)):=
 (HF hx hy h).le (ag.int (by simp))
theorem lg{k':IntKind}{a s:Nat}(hx:aU env x (aa .u64 (a:Int)))(hy:aU env y (aa k' (s:Int)))(h:s≤64):aT P hs env ⟨dst, .binOp .shl T x y T',ty,pos,after,gd⟩ (aa .u64 ((a*2^s%18446744073709551616:Nat):Int)):=
 (Hz hx hy h).le (ag.int (by
  rw[IntKind.wrap_u64,Int.natCast_emod,Int.natCast_mul,Int.natCast_pow];rfl))
theorem I6{k':IntKind}{a s:Nat}(hx:aU env x (aa .u32 (a:Int)))(hy:aU env y (aa k' (s:Int)))(h:s≤32):aT P hs env ⟨dst, .binOp .shl T x y T',ty,pos,after,gd⟩ (aa .u32 ((a*2^s%4294967296:Nat):Int)):=
 (Hz hx hy h).le (ag.int (by
  rw[IntKind.wrap_u32,Int.natCast_emod,Int.natCast_mul,Int.natCast_pow];rfl))
theorem jF{a b:Nat}(hx:aU env x (aa .u64 (a:Int)))(hy:aU env y (aa .u64 (b:Int))):aT P hs env ⟨dst, .binOp .add T x y T',ty,pos,after,gd⟩ (aa .u64 (((a+b)%18446744073709551616:Nat):Int)):=
 (K1 hx hy).le (ag.int (by rw[IntKind.wrap_u64];omega))
theorem tG{a b:Nat}(hb:b<18446744073709551616)(hx:aU env x (aa .u64 (a:Int)))(hy:aU env y (aa .u64 (b:Int))):aT P hs env ⟨dst, .binOp .sub T x y T',ty,pos,after,gd⟩ (aa .u64 (((a+18446744073709551616-b)%18446744073709551616:Nat):Int)):=
 (PC hx hy).le (ag.int (by rw[IntKind.wrap_u64];omega))
theorem y6{a b:Nat}(hx:aU env x (aa .u64 (a:Int)))(hy:aU env y (aa .u64 (b:Int))):aT P hs env ⟨dst, .binOp .mul T x y T',ty,pos,after,gd⟩ (aa .u64 ((a*b%18446744073709551616:Nat):Int)):=
 (PD hx hy).le (ag.int (by rw[IntKind.wrap_u64,Int.natCast_emod,Int.natCast_mul];rfl))
theorem y7{a b:Nat}(hb:0<b)(hx:aU env x (aa .u64 (a:Int)))(hy:aU env y (aa .u64 (b:Int))):aT P hs env ⟨dst, .binOp .rem T x y T',ty,pos,after,gd⟩ (aa .u64 ((a%b:Nat):Int)):=
 (PI hx hy (by omega) (by omega)).le (ag.int (by rw[Int.natCast_emod]))
theorem y8{a b:Nat}(hb:0<b∧a<18446744073709551616)(hx:aU env x (aa .u64 (a:Int)))(hy:aU env y (aa .u64 (b:Int))):aT P hs env ⟨dst, .binOp .quo T x y T',ty,pos,after,gd⟩ (aa .u64 ((a/b:Nat):Int)):=
 (PJ hx hy (by omega) (by omega) (vD (Int.ediv_nonneg (by omega) (by omega)) (by rw[←Int.natCast_ediv];have:=Nat.div_le_self a b;omega))).le (ag.int (by rw[Int.natCast_ediv]))
theorem PR{k:IntKind}{n:Int}(hx:aU env x (aa k n)):aT P hs env ⟨dst, .unOp .neg T x,ty,pos,after,gd⟩ (aa k (k.wrap (-n))):=
 aT.aD fun ρ w S F _ he=>by
  have h1:=he.o _ _ hx;simp only[af] at h1
  exact⟨.int k (k.wrap (0-n)),by simp[execOp,h1,go_sem,Op.unary,Op.intArith],by rw[Int.zero_sub];rfl⟩
theorem QF{k:IntKind}{n:Int}(hx:aU env x (aa k n))(h:fits k (-n)):aT P hs env ⟨dst, .unOp .neg T x,ty,pos,after,gd⟩ (aa k (-n)):=(PR hx).le (ag.int (eu h))
theorem QG{k:IntKind}{n m:Int}(hx:aU env x (aa k n))(hy:aU env y (aa k m))(hm:m≠0):aT P hs env ⟨dst, .binOp .quo T x y T',ty,pos,after,gd⟩ (aa k (k.wrap (n.tdiv m))):=
 aT.aD fun ρ w S F _ he=>by
  have h1:=he.o _ _ hx;have h2:=he.o _ _ hy;simp only[af] at h1 h2
  exact⟨.int k (k.wrap (n.tdiv m)),by simp[execOp,h1,h2,go_sem,Op.intDiv,hm],rfl⟩
theorem QH{k:IntKind}{n m:Int}(hx:aU env x (aa k n))(hy:aU env y (aa k m))(hm:m≠0):aT P hs env ⟨dst, .binOp .rem T x y T',ty,pos,after,gd⟩ (aa k (n.tmod m)):=
 aT.aD fun ρ w S F _ he=>by
  have h1:=he.o _ _ hx;have h2:=he.o _ _ hy;simp only[af] at h1 h2
  exact⟨.int k (n.tmod m),by simp[execOp,h1,h2,go_sem,Op.intDiv,hm],rfl⟩
theorem I7{n by_:Nat}{z0:Value}{w:World}{ρ:Operand→Value}(hT:P.underlying T=some (.slice E))(hn:P.cellsOf E=1)(hb:P.bytesOf E=by_)(hz:jd P E=some [z0])(hv:ρ x= .int .i64 (n:Int))(hle:n*by_≤281474976710656)(hle':n≤281474976710656):
    (execOp ρ ⟨dst, .makeSlice T x x,ty,pos,after,gd⟩).run P w= .ok (.value (.slice (some ⟨w.heap.size,0,none⟩) n n)) {w with heap:=w.heap.push (.cells (List.replicate n z0).toArray E)}:=by
  obtain⟨info,hi1,hi2⟩:=ep hn rfl w;obtain⟨zv,Hr,x4⟩:=gI hz w;have qP:=run_sizeOf hn rfl w;have hw:IntKind.i64.wrap (n:Int)=(n:Int):=eu (cG (by omega) (by omega));have hbytes:info.bytes=by_:=hi2.trans hb
  have hcells:(Array.range (n*1)).map (fun t=>zv.cells[t%zv.cells.size]!)=(List.replicate n z0).toArray:=by
    rw[x4];apply Array.ext
    · simp
    · intro j h1 h2
      simp[Nat.mod_one]
  have PL:¬((n:Int)<0):=by omega
  have Aa:¬((281474976710656:Int)<(by_:Int)*(n:Int)):=by rw[←Int.natCast_mul,Nat.mul_comm];omega
  have hroom:∀m:Nat,(askRoom m).run P w= .ok () w:=fun m=>by unfold askRoom;split<;>simp[mark,Sem.run]
  by_cases h0:n=0
  · subst h0
    have hw0:IntKind.i64.wrap 0=0:=hw;have Xy:Array.map (fun _:Nat=>(default:Value)) (Array.range 0)=(List.replicate 0 z0).toArray:=by apply Array.ext<;>simp
    simp[execOp,Instr.makeSlice,run_underlying hT,asInt,asIntOf,hv,hi1,hw0,qP,newRow];exact congrArg (fun r=>w.alloc (.cells r E)) Xy
  · simp[execOp,Instr.makeSlice,run_underlying hT,asInt,asIntOf,hv,hi1,hbytes,hw,PL,Aa,hroom,qP,h0,Hr,newRow]
    rw[Nat.mul_one] at hcells;simpa using congrArg (fun r=>w.alloc (.cells r E)) hcells
theorem N2{α:Type}{n by_:Nat}{i:Int}{z0:Value}{enc:α→List VP}(x0:α){q0:VP}(hT:P.underlying T=some (.slice E))(hn:P.cellsOf E=1)(hb:P.bytesOf E=by_)(hz:jd P E=some [z0])(UN:enc x0=[q0])(HB:ag (af z0) q0)(hx:aU env x (aa .i64 i))(hi:i=(n:Int))(hle:n*by_≤281474976710656)(hle':n≤281474976710656):
    fN P hs env ⟨dst, .makeSlice T x x,ty,pos,after,gd⟩ (γ:=Nat) (fun _=>True) (fun b=>aI (some (b,n)) 1 enc (List.replicate n x0)::hs) (fun b=>af (bA (some (b,n)) n)):=by
  intro c a w S F ax hown he K Q hk;have hv:=hx S w a he;simp only[af] at hv
  subst hi;have hr:=I7 (dst:=dst) (ty:=ty) (pos:=pos) (after:=after) (gd:=gd) (w:=w) hT hn hb hz hv hle hle';unfold Oper.wp;rw[hr];refine hk w.heap.size _ _ S _ trivial (ax.eL _) (fun _ h=>h) (fun k hk=>bL w _ k (ax.bD k hk)) (hown.eL ax.bD ax.bO _ ⟨rfl,by simp,by simp;exact hle',(List.replicate n z0).toArray,E,by simp,by simp,fun j q hj=>?_⟩) rfl
  have q7:(List.replicate n x0).flatMap enc=List.replicate n q0:=by
    clear hr hle hle' hv hk hx hj
    induction n with
    |zero=>rfl
    |succ n ih=>rw[List.replicate_succ,List.flatMap_cons,ih,UN];rfl
  rw[q7] at hj;obtain⟨hjn,rfl⟩:=by simpa[List.getElem?_replicate] using hj
  exact⟨z0,by simp[hjn],HB _ _ _ rfl⟩
theorem fN.gJ{α:Type}{o:Oper}{γ:Type}{φ:γ→Prop}{qP:γ→List HP}{G:γ→SB}{n:Nat}{enc:α→List VP}{xs:γ→List α}[he:iy n enc](h:fN P hs env o φ (fun g=>aI (G g) n enc (xs g)::qP g) (fun g=>af (bA (G g) (xs g).length))):
    fN P hs env o φ qP (fun g=>an n enc (xs g)):=by
  intro c a w S F ax hown lV K Q hk;refine h c a w S F ax hown lV K Q fun g v w' S' F' hφ h3 hS' hag lC hq=>?_;obtain⟨F1,F2,f1,f2,f3,f5⟩:=lC;simp only[af] at hq;generalize hG:G g=gg at*;cases gg with
  | none=>
    have hxs:xs g=[]:=f3;refine hk g v w' S' F2 hφ ⟨h3.os,h3.tape,h3.output,h3.size,h3.kept,fun k hk hf=>h3.cR k hk (f2 k hf),h3.bD,fun k hk=>h3.bO k (f2 k hk),fun k hk=>h3.own k (f2 k hk),h3.shr,h3.base⟩ hS' hag f5 ⟨none,0,hq.trans (by rw[hxs];rfl),by rw[hxs];simp,by rw[hxs];simp,rfl⟩
  | some bc=>
    obtain⟨b,cap⟩:=bc;obtain⟨hFb,hl,hm,arr,T,hh,hn,hc⟩:=f3;have hb:=f1 b hFb;have hS:∀k,S' k→S' k∨k=b:=fun _ h=> .inl h;have Ab:bQ (fun k=>S' k∨k=b) w' b 0 ((xs g).flatMap enc):=fun j q hj=>let ⟨u,hu,hq⟩:=hc j q hj;⟨u,by simp[World.cell?,hh,hu],q.mono hS (fun _ _=>rfl) hq⟩
    refine hk g v w' (fun k=>S' k∨k=b) F2 hφ ⟨h3.os,h3.tape,h3.output,h3.size,h3.kept,?_,?_,fun k hk=>h3.bO k (f2 k hk),fun k hk=>h3.own k (f2 k hk),?_,fun k hk=> .inl (h3.base k hk)⟩ (fun k hk=> .inl (hS' k hk)) hag
      (f5.mono (fun _ h=>h) hS (fun _ _=>rfl) (fun _ _=>rfl)) ⟨some ⟨b,0,none⟩,cap,hq,hl,hm,fun _=>⟨rfl, .inr rfl,fun i x hx=>jf he.len Ab i x hx⟩⟩
    · exact fun k hk hf=>hk.elim (fun h=>h3.cR k h (f2 k hf)) (fun e=>hb.2 (e▸hf))
    · exact fun k hk=>hk.elim (h3.bD k) (fun e=>h3.bO k (e▸hb.1))
    · exact fun k hk=>hk.elim (h3.shr k) (fun e=>by
        rcases h3.own b hb.1 with h|h
        · exact .inr (.inl (e▸h))
        · exact .inr (.inr (e▸h)))
theorem fN.le{o:Oper}{γ:Type}{φ:γ→Prop}{qP:γ→List HP}{q1 q2:γ→VP}(h:fN P hs env o φ qP q1)(hq:∀g,φ g→ag (q1 g) (q2 g)):fN P hs env o φ qP q2:=
 fun c a w S F ax hown lV K Q hk=>h c a w S F ax hown lV K Q fun g v w' S' F' hφ h3 hS' hag lC hv=>hk g v w' S' F' hφ h3 hS' hag lC (hq g hφ _ _ _ hv)
theorem I8{α:Type}{n by_:Nat}{i:Int}{z0:Value}{enc:α→List VP}[he:iy 1 enc](x0:α){q0:VP}(hT:P.underlying T=some (.slice E))(hn:P.cellsOf E=1)(hb:P.bytesOf E=by_)(hz:jd P E=some [z0])(UN:enc x0=[q0])(HB:ag (af z0) q0)(hx:aU env x (aa .i64 i))(hi:i=(n:Int))(hle:n*by_≤281474976710656)(hle':n≤281474976710656):
    fN P hs env ⟨dst, .makeSlice T x x,ty,pos,after,gd⟩ (γ:=Nat) (fun _=>True) (fun _=>hs) (fun _=>an 1 enc (List.replicate n x0)):=
  fN.gJ (G:=fun b=>some (b,n)) (xs:=fun _=>List.replicate n x0) ((N2 (hs:=hs) x0 hT hn hb hz UN HB hx hi hle hle').le fun g _=>ag.of_eq (by rw[List.length_replicate]))
class QI(h:HP):Prop where
 dup:∀{F F' S:BS} {w:World},h.p F S w→h.p F' S w
theorem cT.at{vh:HP}:∀{hs:List HP} {i:Nat} {F S:BS} {w:World},cT hs F S w→hs[i]?=some vh→∃F',vh.p F' S w
 |[],i,F,S,w,_,h=>by simp at h
 |h0::hs,0,F,S,w,ho,h=>by
  obtain⟨F1,F2,_,_,hp,_⟩:=ho;simp only[List.getElem?_cons_zero,Option.some.injEq] at h;subst h;exact⟨F1,hp⟩
 |h0::hs,i+1,F,S,w,ho,h=>by
  obtain⟨F1,F2,_,_,_,hr⟩:=ho;exact cT.at hr (by simpa using h)
theorem y9{i:Nat}{vh:HP}[dv:QI vh]{f:FuncId}{xs:List Operand}{ats:Array TypeId}{ps:List VP}(hf:bk P f ps [vh] (γ:=Unit) (fun _=>True) (fun _=>[]) (fun _=>q))(hb:iu P f=true)(hx:iN env xs ps)(hi:hs[i]?=some vh):
    aT P hs env ⟨dst, .call ⟨.value (.func f),xs.toArray,ats⟩,ty,pos,after,gd⟩ q:=by
  intro a w S F h1 h2 h3 h4 h5 K Q hk;unfold Oper.wp;rw[oL hb];obtain⟨F',hv⟩:=h4.at hi;refine(hf w S (fun _=>False) _ h1 (fun _ h=>h.elim) (fun _ _ h=>h) ⟨fun _=>False,fun _=>False,fun _ h=>h.elim,fun _ h=>h.elim,dv.dup hv,trivial⟩ (by simpa using hx S w a h5)).mono ?_;rintro e w' ⟨v,S',F',_,rfl,ax,_,_,hq⟩;refine hk v w' S' ⟨ax.os,ax.tape,ax.output,ax.size,fun k hk=>ax.kept k hk (fun h=>h),ax.base,fun k hk=>?_⟩ hq;rcases ax.shr k hk with h|h|h
  · exact .inl h
  · exact h.elim
  · exact .inr ⟨h,ax.bD k hk⟩
def nK(g:Nat)(k:IntKind)(tab:List Nat):HP:=
 ⟨fun F S w=>S g∧∀j,j<tab.length→w.cell? ⟨g,j,none⟩=some (.int k (tab.getD j 0)),fun h1 h2 h3 h4 ⟨hS,hc⟩=>⟨h2 g hS,fun j hj=>by rw[yS (h4 g hS)];exact hc j hj⟩⟩
instance (g:Nat) (k:IntKind) (tab:List Nat):QI (nK g k tab):=⟨fun h=>h⟩
theorem aU.g{env:Env}(g:Nat):aU env (.global g) (ai g 0):=fun _ _ _ _=>rfl
theorem I9{i g off:Nat}{k:IntKind}{tab:List Nat}(hT:jc P T=some false)(hx:aU env x (ai g off))(hi:hs[i]?=some (nK g k tab))(ho:off<tab.length):aT P hs env ⟨dst, .load T x,ty,pos,after,gd⟩ (aa k ((tab.getD off 0:Nat):Int)):=
 aT.aD fun ρ w S F hown he=>by
  have hv:=he.o _ _ hx;simp only[af] at hv
  obtain⟨F',_,hc⟩:=hown.at hi;refine⟨.int k ((tab.getD off 0:Nat):Int),?_,rfl⟩
  have h1:(loadVar T ⟨g,off,none⟩).run P w= .ok (.int k ((tab.getD off 0:Nat):Int)) w:=by
   unfold loadVar;rw[bh (dz hT w)];have PN:=hc off ho;simp[PN]
  simp[execOp,hv,Instr.loadAt,Instr.sureAddr,h1]
theorem Lp(tab:List Nat)(j:Nat):(tab.map Int.ofNat).getD j 0=((tab.getD j 0:Nat):Int):=by
 simp only[List.getD_eq_getElem?_getD,List.getElem?_map];cases tab[j]?<;>rfl
theorem E0{vh:HP}{f:FuncId}{ps:List VP}(h:bk P f ps [vh] (γ:=Unit) (fun _=>True) (fun _=>[]) (fun _=>ak True)){W:World}{vs:Array Value}
    (hv:vh.p (fun _=>False) (fun k=>k<W.heap.size) W) (ha:e9 ps (fun k=>k<W.heap.size) W vs.toList):Calls P f vs W fun e W'=>e= .returned (.bool true)∧Below W.heap.size W W':=by
  refine(h W (fun k=>k<W.heap.size) (fun _=>False) vs (fun _ h=>h) (fun _ h=>h.elim) (fun _ _ h=>h.elim) ⟨fun _=>False,fun _=>False,fun _ h=>h.elim,fun _ h=>h.elim,hv,trivial⟩ ha).mono fun e W' ⟨v,S',F',g,he,ax,_,_,hq⟩=>?_;obtain⟨b,rfl,hb⟩:=hq;have:b=true:=hb.2 trivial;subst this;exact⟨he,ax.os,ax.tape,ax.output,ax.size,fun k hk=>ax.kept k hk (fun h=>h.elim)⟩
end
section
variable {P:Program} {hs:List HP} {env:Env} {q:VP} {dst:Option Tmp} {ty T T' E:TypeId} {pos:String} {after:Array Edge} {gd:Option (Nat×Bool)} {x y z:Operand}
theorem dO{o:Oper}{q:VP}(h:False):aT P hs env o q:=h.elim
def vl{α:Type}(p:Prop)(n:Nat)(enc:α→List VP)(xs:List α):VP:=
 ⟨fun S w v=>(an n enc xs).p S w v∧∃a l c,v= .slice a l c∧(p↔a=none),fun h1 h2 ⟨a,b⟩=>⟨(an n enc xs).mono h1 h2 a,b⟩⟩
instance {α:Type} (p:Prop) (n:Nat) (enc:α→List VP) (xs:List α):Flat (vl p n enc xs):=⟨fun⟨h,_⟩=>(inferInstance:Flat (an n enc xs)).flat h⟩
theorem E1{α:Type}{p:Prop}{n:Nat}{enc:α→List VP}{xs:List α}:ag (vl p n enc xs) (an n enc xs):=fun _ _ _ h=>h.1
theorem aJ.N3{Q:Exit→Act→World→Prop}{c:Ctx}{s:Code}{α:Type}{n t:Nat}{enc:α→List VP}{xs:List α}(ht:look env t=some (an n enc xs))(k:∀p:Prop,(p→xs=[])→aJ P Q c s hs ((t,vl p n enc xs)::env)):aJ P Q c s hs env:=by
 intro a w ⟨h1,h2,S,F,h3,h4,h5⟩;have hv:=h5 t _ ht;obtain⟨ad,cap,Si,hc,hm,h⟩:=id hv;refine k (ad=none) (fun e=>?_) a w ⟨h1,h2,S,F,h3,h4,fun s q hl=>?_⟩
 · subst e;exact List.length_eq_zero_iff.1 (by have h9:cap=0:=h;omega)
 · rw[bw] at hl
   by_cases e:t=s
   · rw[if_pos e] at hl;cases hl;subst e;exact⟨hv,ad,_,_,Si,Iff.rfl⟩
   · rw[if_neg e] at hl;exact h5 s q hl
theorem Ja{α:Type}{p:Prop}{n:Nat}{enc:α→List VP}{xs:List α}(hT:P.underlying T=some (.slice E))(hx:aU env x (vl p n enc xs))(hy:aU env y (af (.slice none 0 0))):aT P hs env ⟨dst, .binOp .eql T x y T',ty,pos,after,gd⟩ (ak p):=
 aT.aD fun ρ w S F _ he=>by
  obtain⟨_,o,l,c,hv,hp⟩:=he.o _ _ hx;have h2:=he.o _ _ hy;simp only[af] at h2
  have e2:(binOp .eql T (.slice o l c) (.slice none 0 0)).run P w= .ok (.bool o.isNone) w:=by
   show((do pure (.bool (←Op.equalIn (9999+1) T (.slice o l c) (.slice none 0 0)))):Sem Value).run P w=_
   rw[bh (Aj 9999 o l c hT)];rfl
  refine⟨.bool o.isNone,by simp[execOp,hv,h2,eqGuard,e2],_,rfl,?_⟩;cases o<;>simp[hp]
end
theorem aA.E3{b:Nat}{cs cs':List VP}(h:Nw cs cs'){r:List HP}:aA (aF b cs::r) (aF b cs'::r):=fun F S w ⟨F1,F2,h1,h2,⟨f1,arr,T,hh,hn,hc⟩,h4⟩=>
 ⟨F1,F2,h1,h2,⟨f1,arr,T,hh,by rw[hn,h.len],fun j q' hj=>let ⟨q,k1,k2⟩:=h.get j q' hj;let ⟨u,hu,hq⟩:=hc j q k1;⟨u,hu,k2 _ _ _ hq⟩⟩,h4⟩
end Go.Hl
end
