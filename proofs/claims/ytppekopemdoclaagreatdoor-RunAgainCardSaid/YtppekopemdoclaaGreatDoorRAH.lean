/-
  Parts of the proof.
-/
import Derived.Test.YtppekopemdoclaaGreatDoorRAG
import Derived.Laws.Bits64b
import Derived.Laws.BitsLemmas
set_option linter.all false
set_option maxRecDepth 1000000
set_option maxHeartbeats 4000000
section
namespace Go.Hl
open Go.RowKit
section
variable {P:Program} {hs:List HP} {env:Env} {q:VP} {dst:Option Tmp} {ty T T' E:TypeId} {pos:String} {after:Array Edge} {gd:Option (Nat×Bool)} {x y z:Operand}
theorem JX(a b:Nat)(ha:a<18446744073709551616)(hb:b<18446744073709551616):bits .xor .u64 (a:Int) (b:Int)=((a^^^b:Nat):Int):=bits_xor_u64_nat a b ha hb
theorem Mx(n:Int)(h0:0<=n)(h1:n<2^64):IntKind.u64.wrap n=n:=fm (z7 h0 (by omega))
theorem Uy(n:Int)(h0:0<=n)(h1:n<2^63):IntKind.i64.wrap n=n:=fm (cM (by omega) (by omega))
theorem Uz(n:Int)(h0:0<=n)(h1:n<2^32):IntKind.u32.wrap n=n:=fm (Gh h0 (by omega))
theorem jY{a b:Nat}(ha:a<18446744073709551616)(hb:b<18446744073709551616)(hx:bA env x (af .u64 (a:Int)))(hy:bA env y (af .u64 (b:Int))):bw P hs env ⟨dst, .binOp .and T x y T',ty,pos,after,gd⟩ (af .u64 ((a &&& b:Nat):Int)):=
 bw.aM λρ w S F _ he=>by
  have h1:=he.o _ _ hx;have h2:=he.o _ _ hy;simp only[ag] at h1 h2
  exact⟨.int .u64 ((a &&& b:Nat):Int),by simp[execOp,h1,h2,go_sem,(bits_nat .u64 64 (by decide) Mx a b (by omega) (by omega)).1],rfl⟩
theorem Ap{a b:Nat}(ha:a<18446744073709551616)(hb:b<18446744073709551616)(hx:bA env x (af .u64 (a:Int)))(hy:bA env y (af .u64 (b:Int))):bw P hs env ⟨dst, .binOp .or T x y T',ty,pos,after,gd⟩ (af .u64 ((a|||b:Nat):Int)):=
 bw.aM λρ w S F _ he=>by
  have h1:=he.o _ _ hx;have h2:=he.o _ _ hy;simp only[ag] at h1 h2
  exact⟨.int .u64 ((a|||b:Nat):Int),by simp[execOp,h1,h2,go_sem,(bits_nat .u64 64 (by decide) Mx a b (by omega) (by omega)).2],rfl⟩
theorem N4{a b:Nat}(ha:a<18446744073709551616)(hb:b<18446744073709551616)(hx:bA env x (af .u64 (a:Int)))(hy:bA env y (af .u64 (b:Int))):bw P hs env ⟨dst, .binOp .xor T x y T',ty,pos,after,gd⟩ (af .u64 ((a^^^b:Nat):Int)):=
 bw.aM λρ w S F _ he=>by
  have h1:=he.o _ _ hx;have h2:=he.o _ _ hy;simp only[ag] at h1 h2
  exact⟨.int .u64 ((a^^^b:Nat):Int),by simp[execOp,h1,h2,go_sem,JX a b ha hb],rfl⟩
theorem N5{a b:Nat}(ha:a<9223372036854775808)(hb:b<9223372036854775808)(hx:bA env x (af .i64 (a:Int)))(hy:bA env y (af .i64 (b:Int))):bw P hs env ⟨dst, .binOp .and T x y T',ty,pos,after,gd⟩ (af .i64 ((a &&& b:Nat):Int)):=
 bw.aM λρ w S F _ he=>by
  have h1:=he.o _ _ hx;have h2:=he.o _ _ hy;simp only[ag] at h1 h2
  exact⟨.int .i64 ((a &&& b:Nat):Int),by simp[execOp,h1,h2,go_sem,(bits_nat .i64 63 (by decide) Uy a b (by omega) (by omega)).1],rfl⟩
theorem Rf{a b:Nat}(ha:a<4294967296)(hb:b<4294967296)(hx:bA env x (af .u32 (a:Int)))(hy:bA env y (af .u32 (b:Int))):bw P hs env ⟨dst, .binOp .or T x y T',ty,pos,after,gd⟩ (af .u32 ((a|||b:Nat):Int)):=
 bw.aM λρ w S F _ he=>by
  have h1:=he.o _ _ hx;have h2:=he.o _ _ hy;simp only[ag] at h1 h2
  exact⟨.int .u32 ((a|||b:Nat):Int),by simp[execOp,h1,h2,go_sem,(bits_nat .u32 32 (by decide) Uz a b (by omega) (by omega)).2],rfl⟩
theorem My{k k':IntKind}{n:Int}{s:Nat}(hx:bA env x (af k n))(hy:bA env y (af k' (s:Int)))(h:s<=k.bits):bw P hs env ⟨dst, .binOp .shr T x y T',ty,pos,after,gd⟩ (af k (n/2^s)):=
 bw.aM λρ w S F _ he=>by
  have h1:=he.o _ _ hx;have h2:=he.o _ _ hy;simp only[ag] at h1 h2
  have hn:¬((s:Int)<0):=by omega
  have hf:n.fdiv (2^s)=n/2^s:=Int.fdiv_eq_ediv_of_nonneg _ (Int.le_of_lt (Int.pow_pos (by decide)));refine⟨.int k (n/2^s),?_,rfl⟩;cases k<;>simp only[IntKind.bits] at h<;>simp[execOp,h1,h2,go_sem,Op.shift,hn,Nat.min_eq_left h,hf]
theorem kn{k k':IntKind}{a s:Nat}(hx:bA env x (af k (a:Int)))(hy:bA env y (af k' (s:Int)))(h:s<=k.bits):bw P hs env ⟨dst, .binOp .shr T x y T',ty,pos,after,gd⟩ (af k ((a/2^s:Nat):Int)):=
 (My hx hy h).le (aa.int (by simp))
theorem nY{k':IntKind}{a s:Nat}(hx:bA env x (af .u64 (a:Int)))(hy:bA env y (af k' (s:Int)))(h:s<=64):bw P hs env ⟨dst, .binOp .shl T x y T',ty,pos,after,gd⟩ (af .u64 ((a*2^s%18446744073709551616:Nat):Int)):=
 (Mu hx hy h).le (aa.int (by
  rw[IntKind.wrap_u64,Int.natCast_emod,Int.natCast_mul,Int.natCast_pow];rfl))
theorem N6{k':IntKind}{a s:Nat}(hx:bA env x (af .u32 (a:Int)))(hy:bA env y (af k' (s:Int)))(h:s<=32):bw P hs env ⟨dst, .binOp .shl T x y T',ty,pos,after,gd⟩ (af .u32 ((a*2^s%4294967296:Nat):Int)):=
 (Mu hx hy h).le (aa.int (by
  rw[IntKind.wrap_u32,Int.natCast_emod,Int.natCast_mul,Int.natCast_pow];rfl))
theorem mg{a b:Nat}(hx:bA env x (af .u64 (a:Int)))(hy:bA env y (af .u64 (b:Int))):bw P hs env ⟨dst, .binOp .add T x y T',ty,pos,after,gd⟩ (af .u64 (((a+b)%18446744073709551616:Nat):Int)):=
 (QN hx hy).le (aa.int (by rw[IntKind.wrap_u64];omega))
theorem xU{a b:Nat}(hb:b<18446744073709551616)(hx:bA env x (af .u64 (a:Int)))(hy:bA env y (af .u64 (b:Int))):bw P hs env ⟨dst, .binOp .sub T x y T',ty,pos,after,gd⟩ (af .u64 (((a+18446744073709551616-b)%18446744073709551616:Nat):Int)):=
 (QO hx hy).le (aa.int (by rw[IntKind.wrap_u64];omega))
theorem Df{a b:Nat}(hx:bA env x (af .u64 (a:Int)))(hy:bA env y (af .u64 (b:Int))):bw P hs env ⟨dst, .binOp .mul T x y T',ty,pos,after,gd⟩ (af .u64 ((a*b%18446744073709551616:Nat):Int)):=
 (Wy hx hy).le (aa.int (by rw[IntKind.wrap_u64,Int.natCast_emod,Int.natCast_mul];rfl))
theorem mh{a b:Nat}(hb:0<b)(hx:bA env x (af .u64 (a:Int)))(hy:bA env y (af .u64 (b:Int))):bw P hs env ⟨dst, .binOp .rem T x y T',ty,pos,after,gd⟩ (af .u64 ((a%b:Nat):Int)):=
 (WE hx hy (by omega) (by omega)).le (aa.int (by rw[Int.natCast_emod]))
theorem ua{a b:Nat}(hb:0<b/\a<18446744073709551616)(hx:bA env x (af .u64 (a:Int)))(hy:bA env y (af .u64 (b:Int))):bw P hs env ⟨dst, .binOp .quo T x y T',ty,pos,after,gd⟩ (af .u64 ((a/b:Nat):Int)):=
 (WG hx hy (by omega) (by omega) (z7 (Int.ediv_nonneg (by omega) (by omega)) (by rw[<-Int.natCast_ediv];have:=Nat.div_le_self a b;omega))).le (aa.int (by rw[Int.natCast_ediv]))
theorem WK{k:IntKind}{n:Int}(hx:bA env x (af k n)):bw P hs env ⟨dst, .unOp .neg T x,ty,pos,after,gd⟩ (af k (k.wrap (-n))):=
 bw.aM λρ w S F _ he=>by
  have h1:=he.o _ _ hx;simp only[ag] at h1
  exact⟨.int k (k.wrap (0-n)),by simp[execOp,h1,go_sem,Op.unary,Op.intArith],by rw[Int.zero_sub];rfl⟩
theorem XJ{k:IntKind}{n:Int}(hx:bA env x (af k n))(h:fits k (-n)):bw P hs env ⟨dst, .unOp .neg T x,ty,pos,after,gd⟩ (af k (-n)):=(WK hx).le (aa.int (fm h))
theorem Rg{k:IntKind}{n m:Int}(hx:bA env x (af k n))(hy:bA env y (af k m))(hm:m≠0):bw P hs env ⟨dst, .binOp .quo T x y T',ty,pos,after,gd⟩ (af k (k.wrap (n.tdiv m))):=
 bw.aM λρ w S F _ he=>by
  have h1:=he.o _ _ hx;have h2:=he.o _ _ hy;simp only[ag] at h1 h2
  exact⟨.int k (k.wrap (n.tdiv m)),by simp[execOp,h1,h2,go_sem,Op.intDiv,hm],rfl⟩
theorem Rh{k:IntKind}{n m:Int}(hx:bA env x (af k n))(hy:bA env y (af k m))(hm:m≠0):bw P hs env ⟨dst, .binOp .rem T x y T',ty,pos,after,gd⟩ (af k (n.tmod m)):=
 bw.aM λρ w S F _ he=>by
  have h1:=he.o _ _ hx;have h2:=he.o _ _ hy;simp only[ag] at h1 h2
  exact⟨.int k (n.tmod m),by simp[execOp,h1,h2,go_sem,Op.intDiv,hm],rfl⟩
theorem N7{n by_:Nat}{z0:Value}{w:World}{ρ:Operand->Value}(hT:P.underlying T=some (.slice E))(hn:P.cellsOf E=1)(hb:P.bytesOf E=by_)(hz:lG P E=some [z0])(hv:ρ x= .int .i64 (n:Int))(hle:n*by_<=281474976710656)(hle':n<=281474976710656):
    (execOp ρ ⟨dst, .makeSlice T x x,ty,pos,after,gd⟩).run P w= .ok (.value (.slice (some ⟨w.heap.size,0,none⟩) n n)) {w with heap:=w.heap.push (.cells (List.replicate n z0).toArray E)}:=by
  obtain⟨info,hi1,hi2⟩:=ga hn rfl w;obtain⟨zv,Mm,Ab⟩:=jG hz w;have l6:=run_sizeOf hn rfl w;have hw:IntKind.i64.wrap (n:Int)=(n:Int):=fm (cM (by omega) (by omega));have hbytes:info.bytes=by_:=hi2.trans hb
  have hcells:(Array.range (n*1)).map (λt=>zv.cells[t%zv.cells.size]!)=(List.replicate n z0).toArray:=by
    rw[Ab];apply Array.ext
    · simp
    · intro j h1 h2
      simp[Nat.mod_one]
  have TW:¬((n:Int)<0):=by omega
  have D8:¬((281474976710656:Int)<(by_:Int)*(n:Int)):=by rw[<-Int.natCast_mul,Nat.mul_comm];omega
  have hroom:∀m:Nat,(askRoom m).run P w= .ok () w:=λm=>by unfold askRoom;split<;>simp[mark,Sem.run]
  by_cases h0:n=0
  · subst h0
    have hw0:IntKind.i64.wrap 0=0:=hw;have hr0:Array.map (λ_:Nat=>(default:Value)) (Array.range 0)=(List.replicate 0 z0).toArray:=by apply Array.ext<;>simp
    simp[execOp,Instr.makeSlice,run_underlying hT,asInt,asIntOf,hv,hi1,hw0,l6,newRow];exact congrArg (λr=>w.alloc (.cells r E)) hr0
  · simp[execOp,Instr.makeSlice,run_underlying hT,asInt,asIntOf,hv,hi1,hbytes,hw,TW,D8,hroom,l6,h0,Mm,newRow]
    rw[Nat.mul_one] at hcells;simpa using congrArg (λr=>w.alloc (.cells r E)) hcells
theorem UA{α:Type}{n by_:Nat}{i:Int}{z0:Value}{enc:α->List VP}(x0:α){q0:VP}(hT:P.underlying T=some (.slice E))(hn:P.cellsOf E=1)(hb:P.bytesOf E=by_)(hz:lG P E=some [z0])(Qw:enc x0=[q0])(JA:aa (ag z0) q0)(hx:bA env x (af .i64 i))(hi:i=(n:Int))(hle:n*by_<=281474976710656)(hle':n<=281474976710656):
    gW P hs env ⟨dst, .makeSlice T x x,ty,pos,after,gd⟩ (γ:=Nat) (λ_=>True) (λb=>aH (some (b,n)) 1 enc (List.replicate n x0)::hs) (λb=>ag (bI (some (b,n)) n)):=by
  intro c a w S F aI hown he K Q hk;have hv:=hx S w a he;simp only[ag] at hv
  subst hi;have hr:=N7 (dst:=dst) (ty:=ty) (pos:=pos) (after:=after) (gd:=gd) (w:=w) hT hn hb hz hv hle hle';unfold Oper.wp;rw[hr];refine hk w.heap.size _ _ S _ trivial (aI.gJ _) (λ_ h=>h) (λk hk=>cL w _ k (aI.bZ k hk)) (hown.gJ aI.bZ aI.cK _ ⟨rfl,by simp,by simp;exact hle',(List.replicate n z0).toArray,E,by simp,by simp,λj q hj=>?_⟩) rfl
  have rZ:(List.replicate n x0).flatMap enc=List.replicate n q0:=by
    clear hr hle hle' hv hk hx hj
    induction n with
    |zero=>rfl
    |succ n ih=>rw[List.replicate_succ,List.flatMap_cons,ih,Qw];rfl
  rw[rZ] at hj;obtain⟨hjn,rfl⟩:=by simpa[List.getElem?_replicate] using hj
  exact⟨z0,by simp[hjn],JA _ _ _ rfl⟩
theorem gW.eC{α:Type}{o:Oper}{γ:Type}{φ:γ->Prop}{l6:γ->List HP}{G:γ->SB}{n:Nat}{enc:α->List VP}{xs:γ->List α}[he:gX n enc](h:gW P hs env o φ (λg=>aH (G g) n enc (xs g)::l6 g) (λg=>ag (bI (G g) (xs g).length))):
    gW P hs env o φ l6 (λg=>ai n enc (xs g)):=by
  intro c a w S F aI hown oT K Q hk;refine h c a w S F aI hown oT K Q λg v w' S' F' hφ h3 hS' hag oy hq=>?_;obtain⟨F1,F2,f1,f2,f3,f5⟩:=oy;simp only[ag] at hq;generalize hG:G g=gg at*;cases gg with
  | none=>
    have hxs:xs g=[]:=f3;refine hk g v w' S' F2 hφ ⟨h3.os,h3.tape,h3.output,h3.size,h3.kept,λk hk hf=>h3.eg k hk (f2 k hf),h3.bZ,λk hk=>h3.cK k (f2 k hk),λk hk=>h3.own k (f2 k hk),h3.shr,h3.base⟩ hS' hag f5 ⟨none,0,hq.trans (by rw[hxs];rfl),by rw[hxs];simp,by rw[hxs];simp,rfl⟩
  | some bc=>
    obtain⟨b,cap⟩:=bc;obtain⟨hFb,hl,hm,arr,T,hh,hn,hc⟩:=f3;have hb:=f1 b hFb;have hS:∀k,S' k->S' k\/k=b:=λ_ h=> .inl h;have zk:cT (λk=>S' k\/k=b) w' b 0 ((xs g).flatMap enc):=λj q hj=>let ⟨u,hu,hq⟩:=hc j q hj;⟨u,by simp[World.cell?,hh,hu],q.mono hS (λ_ _=>rfl) hq⟩
    refine hk g v w' (λk=>S' k\/k=b) F2 hφ ⟨h3.os,h3.tape,h3.output,h3.size,h3.kept,?_,?_,λk hk=>h3.cK k (f2 k hk),λk hk=>h3.own k (f2 k hk),?_,λk hk=> .inl (h3.base k hk)⟩ (λk hk=> .inl (hS' k hk)) hag
      (f5.mono (λ_ h=>h) hS (λ_ _=>rfl) (λ_ _=>rfl)) ⟨some ⟨b,0,none⟩,cap,hq,hl,hm,λ_=>⟨rfl, .inr rfl,λi x hx=>lH he.len zk i x hx⟩⟩
    · exact λk hk hf=>hk.elim (λh=>h3.eg k h (f2 k hf)) (λe=>hb.2 (e▸hf))
    · exact λk hk=>hk.elim (h3.bZ k) (λe=>h3.cK k (e▸hb.1))
    · exact λk hk=>hk.elim (h3.shr k) (λe=>by
        rcases h3.own b hb.1 with h|h
        · exact .inr (.inl (e▸h))
        · exact .inr (.inr (e▸h)))
theorem gW.le{o:Oper}{γ:Type}{φ:γ->Prop}{l6:γ->List HP}{q1 q2:γ->VP}(h:gW P hs env o φ l6 q1)(hq:∀g,φ g->aa (q1 g) (q2 g)):gW P hs env o φ l6 q2:=
 λc a w S F aI hown oT K Q hk=>h c a w S F aI hown oT K Q λg v w' S' F' hφ h3 hS' hag oy hv=>hk g v w' S' F' hφ h3 hS' hag oy (hq g hφ _ _ _ hv)
theorem N8{α:Type}{n by_:Nat}{i:Int}{z0:Value}{enc:α->List VP}[he:gX 1 enc](x0:α){q0:VP}(hT:P.underlying T=some (.slice E))(hn:P.cellsOf E=1)(hb:P.bytesOf E=by_)(hz:lG P E=some [z0])(Qw:enc x0=[q0])(JA:aa (ag z0) q0)(hx:bA env x (af .i64 i))(hi:i=(n:Int))(hle:n*by_<=281474976710656)(hle':n<=281474976710656):
    gW P hs env ⟨dst, .makeSlice T x x,ty,pos,after,gd⟩ (γ:=Nat) (λ_=>True) (λ_=>hs) (λ_=>ai 1 enc (List.replicate n x0)):=
  gW.eC (G:=λb=>some (b,n)) (xs:=λ_=>List.replicate n x0) ((UA (hs:=hs) x0 hT hn hb hz Qw JA hx hi hle hle').le λg _=>aa.of_eq (by rw[List.length_replicate]))
class XK(h:HP):Prop where
 dup:∀{F F' S:BS} {w:World},h.p F S w->h.p F' S w
theorem dR.at{vh:HP}:∀{hs:List HP} {i:Nat} {F S:BS} {w:World},dR hs F S w->hs[i]?=some vh->∃F',vh.p F' S w
 |[],i,F,S,w,_,h=>by simp at h
 |h0::hs,0,F,S,w,ho,h=>by
  obtain⟨F1,F2,_,_,hp,_⟩:=ho;simp only[List.getElem?_cons_zero,Option.some.injEq] at h;subst h;exact⟨F1,hp⟩
 |h0::hs,i+1,F,S,w,ho,h=>by
  obtain⟨F1,F2,_,_,_,hr⟩:=ho;exact dR.at hr (by simpa using h)
theorem Dg{i:Nat}{vh:HP}[dv:XK vh]{f:FuncId}{xs:List Operand}{ats:Array TypeId}{ps:List VP}(hf:bu P f ps [vh] (γ:=Unit) (λ_=>True) (λ_=>[]) (λ_=>q))(hb:j7 P f=true)(hx:kU env xs ps)(hi:hs[i]?=some vh):
    bw P hs env ⟨dst, .call ⟨.value (.func f),xs.toArray,ats⟩,ty,pos,after,gd⟩ q:=by
  intro a w S F h1 h2 h3 h4 h5 K Q hk;unfold Oper.wp;rw[sB hb];obtain⟨F',hv⟩:=h4.at hi;refine(hf w S (λ_=>False) _ h1 (λ_ h=>h.elim) (λ_ _ h=>h) ⟨λ_=>False,λ_=>False,λ_ h=>h.elim,λ_ h=>h.elim,dv.dup hv,trivial⟩ (by simpa using hx S w a h5)).mono ?_;rintro e w' ⟨v,S',F',_,rfl,aI,_,_,hq⟩;refine hk v w' S' ⟨aI.os,aI.tape,aI.output,aI.size,λk hk=>aI.kept k hk (λh=>h),aI.base,λk hk=>?_⟩ hq;rcases aI.shr k hk with h|h|h
  · exact .inl h
  · exact h.elim
  · exact .inr ⟨h,aI.bZ k hk⟩
def nt(g:Nat)(k:IntKind)(tab:List Nat):HP:=
 ⟨λF S w=>S g/\∀j,j<tab.length->w.cell? ⟨g,j,none⟩=some (.int k (tab.getD j 0)),λh1 h2 h3 h4 ⟨hS,hc⟩=>⟨h2 g hS,λj hj=>by rw[C3 (h4 g hS)];exact hc j hj⟩⟩
instance (g:Nat) (k:IntKind) (tab:List Nat):XK (nt g k tab):=⟨λh=>h⟩
theorem bA.g{env:Env}(g:Nat):bA env (.global g) (ax g 0):=λ_ _ _ _=>rfl
theorem N9{i g off:Nat}{k:IntKind}{tab:List Nat}(hT:l9 P T=some false)(hx:bA env x (ax g off))(hi:hs[i]?=some (nt g k tab))(ho:off<tab.length):bw P hs env ⟨dst, .load T x,ty,pos,after,gd⟩ (af k ((tab.getD off 0:Nat):Int)):=
 bw.aM λρ w S F hown he=>by
  have hv:=he.o _ _ hx;simp only[ag] at hv
  obtain⟨F',_,hc⟩:=hown.at hi;refine⟨.int k ((tab.getD off 0:Nat):Int),?_,rfl⟩
  have h1:(loadVar T ⟨g,off,none⟩).run P w= .ok (.int k ((tab.getD off 0:Nat):Int)) w:=by
   unfold loadVar;rw[bH (fq hT w)];have WI:=hc off ho;simp[WI]
  simp[execOp,hv,Instr.loadAt,Instr.sureAddr,h1]
theorem Ri(tab:List Nat)(j:Nat):(tab.map Int.ofNat).getD j 0=((tab.getD j 0:Nat):Int):=by
 simp only[List.getD_eq_getElem?_getD,List.getElem?_map];cases tab[j]?<;>rfl
theorem JY{vh:HP}{f:FuncId}{ps:List VP}(h:bu P f ps [vh] (γ:=Unit) (λ_=>True) (λ_=>[]) (λ_=>av True)){W:World}{vs:Array Value}
    (hv:vh.p (λ_=>False) (λk=>k<W.heap.size) W) (ha:hU ps (λk=>k<W.heap.size) W vs.toList):Calls P f vs W λe W'=>e= .returned (.bool true)/\Below W.heap.size W W':=by
  refine(h W (λk=>k<W.heap.size) (λ_=>False) vs (λ_ h=>h) (λ_ h=>h.elim) (λ_ _ h=>h.elim) ⟨λ_=>False,λ_=>False,λ_ h=>h.elim,λ_ h=>h.elim,hv,trivial⟩ ha).mono λe W' ⟨v,S',F',g,he,aI,_,_,hq⟩=>?_;obtain⟨b,rfl,hb⟩:=hq;have:b=true:=hb.2 trivial;subst this;exact⟨he,aI.os,aI.tape,aI.output,aI.size,λk hk=>aI.kept k hk (λh=>h.elim)⟩
end
section
variable {P:Program} {hs:List HP} {env:Env} {q:VP} {dst:Option Tmp} {ty T T' E:TypeId} {pos:String} {after:Array Edge} {gd:Option (Nat×Bool)} {x y z:Operand}
theorem mR{o:Oper}{q:VP}(h:False):bw P hs env o q:=h.elim
def zC{α:Type}(p:Prop)(n:Nat)(enc:α->List VP)(xs:List α):VP:=
 ⟨λS w v=>(ai n enc xs).p S w v/\∃a l c,v= .slice a l c/\(p↔a=none),λh1 h2 ⟨a,b⟩=>⟨(ai n enc xs).mono h1 h2 a,b⟩⟩
instance {α:Type} (p:Prop) (n:Nat) (enc:α->List VP) (xs:List α):Flat (zC p n enc xs):=⟨λ⟨h,_⟩=>(inferInstance:Flat (ai n enc xs)).flat h⟩
theorem JZ{α:Type}{p:Prop}{n:Nat}{enc:α->List VP}{xs:List α}:aa (zC p n enc xs) (ai n enc xs):=λ_ _ _ h=>h.1
theorem aU.UB{Q:Exit->Act->World->Prop}{c:Ctx}{s:Code}{α:Type}{n t:Nat}{enc:α->List VP}{xs:List α}(ht:look env t=some (ai n enc xs))(k:∀p:Prop,(p->xs=[])->aU P Q c s hs ((t,zC p n enc xs)::env)):aU P Q c s hs env:=by
 intro a w ⟨h1,h2,S,F,h3,h4,h5⟩;have hv:=h5 t _ ht;obtain⟨ad,cap,WL,hc,hm,h⟩:=id hv;refine k (ad=none) (λe=>?_) a w ⟨h1,h2,S,F,h3,h4,λs q hl=>?_⟩
 · subst e;exact List.length_eq_zero_iff.1 (by have h9:cap=0:=h;omega)
 · rw[bX] at hl
   by_cases e:t=s
   · rw[if_pos e] at hl;cases hl;subst e;exact⟨hv,ad,_,_,WL,Iff.rfl⟩
   · rw[if_neg e] at hl;exact h5 s q hl
theorem Oa{α:Type}{p:Prop}{n:Nat}{enc:α->List VP}{xs:List α}(hT:P.underlying T=some (.slice E))(hx:bA env x (zC p n enc xs))(hy:bA env y (ag (.slice none 0 0))):bw P hs env ⟨dst, .binOp .eql T x y T',ty,pos,after,gd⟩ (av p):=
 bw.aM λρ w S F _ he=>by
  obtain⟨_,o,l,c,hv,hp⟩:=he.o _ _ hx;have h2:=he.o _ _ hy;simp only[ag] at h2
  have e2:(binOp .eql T (.slice o l c) (.slice none 0 0)).run P w= .ok (.bool o.isNone) w:=by
   show((do pure (.bool (<-Op.equalIn (9999+1) T (.slice o l c) (.slice none 0 0)))):Sem Value).run P w=_
   rw[bH (Ef 9999 o l c hT)];rfl
  refine⟨.bool o.isNone,by simp[execOp,hv,h2,eqGuard,e2],_,rfl,?_⟩;cases o<;>simp[hp]
end
theorem aF.Ei{b:Nat}{cs cs':List VP}(h:TS cs cs'){r:List HP}:aF (az b cs::r) (az b cs'::r):=λF S w ⟨F1,F2,h1,h2,⟨f1,arr,T,hh,hn,hc⟩,h4⟩=>
 ⟨F1,F2,h1,h2,⟨f1,arr,T,hh,by rw[hn,h.len],λj q' hj=>let ⟨q,k1,k2⟩:=h.get j q' hj;let ⟨u,hu,hq⟩:=hc j q k1;⟨u,hu,k2 _ _ _ hq⟩⟩,h4⟩
end Go.Hl
end
