/-
  What the statement's proof leans on, several texts in one (packed by a program).
-/
import Derived.Test.YtmacjbfbpjgmnaaGreatDoorRNL
import Derived.Lib.TrailingZeros
set_option linter.all false
set_option maxRecDepth 1000000
set_option maxHeartbeats 4000000
section
namespace Go.Hl
open Go.Lib
def WN(n:Nat):Prop:=n=32∨n=64
abbrev uV(a:Nat):VP:=aa .u64 (a:Int)
theorem nv(v:Int):IntKind.u64.wrap v=(((v%18446744073709551616).toNat:Nat):Int):=by
 rw[IntKind.wrap_u64];omega
def nw(n A:Nat):Int:=if A<2^(n-1) then(A:Int) else(A:Int)-2^n
variable {a:Nat}
theorem TA:nw 32 (a%4294967296)=IntKind.i64.wrap (IntKind.i32.wrap (a:Int)):=by
 rw[IntKind.wrap_i64,IntKind.wrap_i32];unfold nw;split<;>omega
theorem TB(h:a<18446744073709551616):nw 64 a=IntKind.i64.wrap (a:Int):=by
 rw[IntKind.wrap_i64];unfold nw;split<;>omega
variable {n:Nat} {B:Nat}
theorem Ib(hn:WN n)(hB:B<2^n)(h:B≠0):nw n B≠0:=by
 rcases hn with rfl|rfl<;>(unfold nw;split<;>omega)
def rD(n A k:Nat):Nat:=(A*2^k)%2^n+A/2^(n-k)
def lM(n:Nat)(op:Int)(A B:Nat):Int:=
 if op<3∨6<op then 0 else if B=0 then 2 else if op=3∧nw n B= -1∧A=2^(n-1) then 3 else 0
def JK(n:Nat)(op:Int)(A B:Nat):Nat:=
 if op=0 then(A+B)%2^n else if op=1 then(A+2^n-B)%2^n else if op=2 then(A*B)%2^n
 else if op=3 then((nw n A).tdiv (nw n B)%2^n).toNat else if op=4 then A/B
 else if op=5 then((nw n A).tmod (nw n B)%2^n).toNat else if op=6 then A%B
 else if op=7 then A &&& B else if op=8 then A|||B else if op=9 then A^^^B
 else if op=10 then(A*2^(B%n))%2^n else if op=11 then(nw n A/2^(B%n)%2^n).toNat else if op=12 then A/2^(B%n)
 else if op=13 then rD n A (B%n) else rD n A ((n-B%n)%n)
def CN(n:Nat)(op:Int)(A B:Nat):Nat:=if lM n op A B=0 then JK n op A B else 0
def jL(n:Nat)(op:Int)(A B:Nat):Nat:=
 if op=0 then(A+B)%18446744073709551616 else if op=1 then(A+18446744073709551616-B)%18446744073709551616 else if op=2 then(A*B)%18446744073709551616
 else if op=3 then((nw n A).tdiv (nw n B)%18446744073709551616).toNat else if op=4 then A/B
 else if op=5 then((nw n A).tmod (nw n B)%18446744073709551616).toNat else A%B
def mA(n:Nat)(op:Int)(A B:Nat):Nat:=
 if op=7 then A &&& B else if op=8 then A|||B else if op=9 then A^^^B
 else if op=10 then(A*2^(B%n))%18446744073709551616 else if op=11 then(nw n A/2^(B%n)%18446744073709551616).toNat else if op=12 then A/2^(B%n)
 else if op=13 then rD n A (B%n) else rD n A ((n-B%n)%n)
theorem tT(hn:WN n)(v:Nat):v%18446744073709551616%2^n=v%2^n:=by
 rcases hn with rfl|rfl<;>omega
theorem rE(hn:WN n)(v:Int):(v%18446744073709551616).toNat%2^n=(v%2^n).toNat:=by
 rcases hn with rfl|rfl<;>omega
variable {A:Nat}
theorem wP{k:Nat}(hA:A<2^n)(hk:k≤n):rD n A k<2^n:=by
 unfold rD;have hp:2^n=2^(n-k)*2^k:=by rw[←Nat.pow_add];congr 1;omega
 have h1:A*2^k%2^n=(A%2^(n-k))*2^k:=by rw[hp,Nat.mul_mod_mul_right]
 have h2:A/2^(n-k)<2^k:=by
  rw[Nat.div_lt_iff_lt_mul (Nat.two_pow_pos _),Nat.mul_comm,←hp];exact hA
 have h3:=Nat.mod_lt A (Nat.two_pow_pos (n-k));rw[h1];have h4:(A%2^(n-k)+1)*2^k≤2^(n-k)*2^k:=Nat.mul_le_mul_right _ h3;rw[Nat.add_mul,Nat.one_mul] at h4;omega
theorem wQ(hA:A<2^n)(hB:B<2^n):A &&& B<2^n∧A|||B<2^n∧A^^^B<2^n:=⟨Nat.and_lt_two_pow _ hB,Nat.or_lt_two_pow hA hB,Nat.xor_lt_two_pow hA hB⟩
variable {op:Int}
theorem zE(hn:WN n)(h0:op<7)(hA:A<2^n)(hB:B<2^n)(h1:0≤op):jL n op A B%2^n=JK n op A B:=by
 unfold jL JK;by_cases c0:op=0
 · rw[if_pos c0,if_pos c0];exact tT hn _
 rw[if_neg c0,if_neg c0];by_cases c1:op=1
 · rw[if_pos c1,if_pos c1];rcases hn with rfl|rfl<;>omega
 rw[if_neg c1,if_neg c1];by_cases c2:op=2
 · rw[if_pos c2,if_pos c2];exact tT hn _
 rw[if_neg c2,if_neg c2];by_cases c3:op=3
 · rw[if_pos c3,if_pos c3];exact rE hn _
 rw[if_neg c3,if_neg c3];by_cases c4:op=4
 · rw[if_pos c4,if_pos c4];exact Nat.mod_eq_of_lt (Nat.lt_of_le_of_lt (Nat.div_le_self _ _) hA)
 rw[if_neg c4,if_neg c4];by_cases c5:op=5
 · rw[if_pos c5,if_pos c5];exact rE hn _
 rw[if_neg c5,if_neg c5,if_pos (by omega:op=6)];exact Nat.mod_eq_of_lt (Nat.lt_of_le_of_lt (Nat.mod_le _ _) hA)
theorem CO(hn:WN n)(h0:7≤op)(hA:A<2^n)(hB:B<2^n):mA n op A B%2^n=JK n op A B:=by
 have hn0:0<n:=by rcases hn with rfl|rfl<;>decide
 have hk:=Nat.mod_lt B hn0;obtain⟨b1,b2,b3⟩:=wQ hA hB;unfold mA JK;rw[if_neg (by omega:¬op=0),if_neg (by omega:¬op=1),if_neg (by omega:¬op=2),if_neg (by omega:¬op=3),if_neg (by omega:¬op=4),if_neg (by omega:¬op=5),if_neg (by omega:¬op=6)];by_cases c7:op=7
 · rw[if_pos c7,if_pos c7];exact Nat.mod_eq_of_lt b1
 rw[if_neg c7,if_neg c7];by_cases c8:op=8
 · rw[if_pos c8,if_pos c8];exact Nat.mod_eq_of_lt b2
 rw[if_neg c8,if_neg c8];by_cases c9:op=9
 · rw[if_pos c9,if_pos c9];exact Nat.mod_eq_of_lt b3
 rw[if_neg c9,if_neg c9];by_cases zD:op=10
 · rw[if_pos zD,if_pos zD];exact tT hn _
 rw[if_neg zD,if_neg zD];by_cases BH:op=11
 · rw[if_pos BH,if_pos BH];exact rE hn _
 rw[if_neg BH,if_neg BH];by_cases OC:op=12
 · rw[if_pos OC];exact Nat.mod_eq_of_lt (Nat.lt_of_le_of_lt (Nat.div_le_self _ _) hA)
 rw[if_neg OC];by_cases OD:op=13
 · rw[if_pos OD];exact Nat.mod_eq_of_lt (wP hA (by omega))
 rw[if_neg OD];exact Nat.mod_eq_of_lt (wP hA (Nat.le_of_lt (Nat.mod_lt _ hn0)))
theorem tU(hn:WN n)(hA:A<2^n):A<18446744073709551616:=by rcases hn with rfl|rfl<;>omega
theorem CP(hn:WN n)(hA:A<2^n)(hB:B<2^n):jL n op A B<18446744073709551616:=by
 have h1:=tU hn hA;have h2:=Nat.div_le_self A B;have h3:=Nat.mod_le A B;unfold jL
 (repeat' split)<;>omega
theorem Ic(hn:WN n)(hA:A<2^n)(hB:B<2^n):mA n op A B<18446744073709551616:=by
 have hn0:0<n:=by rcases hn with rfl|rfl<;>decide
 have hk:=Nat.mod_lt B hn0;obtain⟨b1,b2,b3⟩:=wQ hA hB;have h0:=tU hn hA;have h1:=tU hn b1;have h2:=tU hn b2;have h3:=tU hn b3;have h4:=Nat.div_le_self A (2^(B%n));have h5:=tU hn (wP hA (k:=B%n) (by omega));have h6:=tU hn (wP hA (k:=(n-B%n)%n) (Nat.le_of_lt (Nat.mod_lt _ hn0)));unfold mA
 (repeat' split)<;>omega
def sL(n:Nat)(signed:Prop)[Decidable signed](A B:Nat):Prop:=if signed then nw n A<nw n B else A<B
instance {n:Nat} {s:Prop} [Decidable s] {A B:Nat}:Decidable (sL n s A B):=by unfold sL;infer_instance
def fL(n:Nat)(op:Int)(A B:Nat):Prop:=
 if op=0 then A=B else if op=1 then A≠B else if op=2∨op=3 then sL n (op%2=0) A B else if op=4∨op=5 then sL n (op%2=0) B A
 else if op=6∨op=7 then ¬sL n (op%2=0) B A else ¬sL n (op%2=0) A B
open Classical in
noncomputable def wR(n:Nat)(op:Int)(A B:Nat):Nat:=if fL n op A B then 1 else 0
def tj(a:Nat):Nat:=if a=0 then 0 else Nat.log2 a+1
theorem Mc(h:a<2^n):tj a≤n:=by
 unfold tj;split
 · omega
 · exact(Nat.log2_lt (by assumption)).2 h
theorem Rn(h0:2^n≤a)(h1:a<2^(n+1)):tj a=n+1:=by
 have ha:a≠0:=by have:=Nat.two_pow_pos n;omega
 unfold tj;rw[if_neg ha]
 have h2:=(Nat.log2_lt ha).2 h1;have h3:=(Nat.le_log2 ha).2 h0;omega
theorem Fz{k:Nat}(h:2^k≤a):tj a=tj (a/2^k)+k:=by
 have hp:=Nat.two_pow_pos k;have hd:0<a/2^k:=Nat.div_pos h hp;have hne:a/2^k≠0:=by omega
 have h1:tj (a/2^k)=Nat.log2 (a/2^k)+1:=by unfold tj;rw[if_neg hne]
 have h2:2^Nat.log2 (a/2^k)≤a/2^k:=Nat.log2_self_le hne;have h3:a/2^k<2^(Nat.log2 (a/2^k)+1):=Nat.lt_log2_self
 have h4:2^(Nat.log2 (a/2^k)+k)≤a:=by
  rw[Nat.pow_add];exact Nat.le_trans (Nat.mul_le_mul_right _ h2) (Nat.div_mul_le_self _ _)
 have h5:a<2^(Nat.log2 (a/2^k)+k+1):=by
  have:a<2^(Nat.log2 (a/2^k)+1)*2^k:=by
   rw[←Nat.div_lt_iff_lt_mul hp];exact h3
  rw[←Nat.pow_add] at this
  rwa [show Nat.log2 (a/2^k)+k+1=Nat.log2 (a/2^k)+1+k by omega]
 rw[Rn h4 h5,h1];omega
def dD:Nat→Nat→Nat
 |0,_=>0
 |i+1,a=>dD i a+OJ (a.testBit i)
def Md:Nat→Nat→Nat
 |0,_=>0
 |i+1,a=>if dD i a=0∧a.testBit i=false then Md i a+1 else Md i a
theorem vv:∀(i a:Nat),dD i a≤i
 |0,_=>Nat.le_refl _
 |i+1,a=>by have:=vv i a;have:=Rm (a.testBit i);simp only[dD];omega
theorem Me:∀(i a:Nat),Md i a≤i
 |0,_=>Nat.le_refl _
 |i+1,a=>by have:=Me i a;simp only[Md];split<;>omega
theorem sM:∀(i a:Nat),dD i a=0↔a%2^i=0
 |0,a=>by simp[dD,Nat.mod_one]
 |i+1,a=>by
  have ih:=sM i a;have hp:=Nat.two_pow_pos i;have hm:=nZ a i;simp only[dD,hm];cases hb:a.testBit i<;>simp[OJ]<;>omega
theorem AK:∀(i a:Nat),a%2^i=0→Md i a=i
 |0,_,_=>rfl
 | i+1,a,h=>by
  have hp:=Nat.two_pow_pos i;have hm:=nZ a i;rw[h] at hm;have h1:a%2^i=0:=by omega
  have hb:a.testBit i=false:=by
   cases hb:a.testBit i with
   |false=>rfl
   |true=>rw[hb] at hm;simp[OJ] at hm;omega
  simp only[Md];rw[if_pos ⟨(sM i a).2 h1,hb⟩,AK i a h1]
theorem P0{a k:Nat}(h0:a%2^k=0)(hb:a.testBit k=true):∀i,k≤i→Md i a=k
 |0,h=>by
  have:k=0:=by omega
  subst this;rfl
 | i + 1,h=>by
  by_cases he:k=i+1
  · subst he;exact AK _ _ h0
  · have ih:=P0 h0 hb i (by omega)
    simp only[Md];rw[if_neg]
    · exact ih
    · rintro⟨h1,h2⟩
      by_cases KQ:k=i
      · subst KQ;rw[hb] at h2;cases h2
      · have h3:=(sM i a).1 h1
        have h4:a%2^(k+1)=0:=by
         have:2^(k+1) ∣ 2^i:=Nat.pow_dvd_pow 2 (by omega);exact Nat.mod_eq_zero_of_dvd (Nat.dvd_trans this (Nat.dvd_of_mod_eq_zero h3))
        have h5:=nZ a k;rw[h4,hb] at h5;have:=Nat.two_pow_pos k;simp[OJ] at h5;omega
theorem JL(a k m:Nat)(h:a=2^k*(2*m+1)):a%2^k=0∧a.testBit k=true:=by
 subst h;refine⟨Nat.mul_mod_right _ _,?_⟩;have:2^k*(2*m+1)=(2*m+1)*2^k:=Nat.mul_comm _ _;rw[this,Nat.testBit_mul_two_pow];simp
theorem Ro(hn:n≤64)(h:a<2^n):min (Lib.ctz 64 a) n=Md n a:=by
 have OK:a<2^64:=Nat.lt_of_lt_of_le h (Nat.pow_le_pow_right (by decide) hn);by_cases h0:a=0
 · subst h0
   rw[AK n 0 (Nat.zero_mod _)];have:Lib.ctz 64 0=64:=rfl;rw[this];omega
 · have e:Lib.ctz 64 a=Lib.ctzFrom 64 a:=by unfold Lib.ctz;rw[if_neg h0]
   obtain⟨m,h1,h2⟩:=Lib.ctzFrom_spec 64 a (by omega) OK;rw[e];generalize Lib.ctzFrom 64 a=k at*;obtain⟨h3,h4⟩:=JL a k m h1
   have hk:k<n:=by
    refine Nat.lt_of_not_le fun hle=>?_;have:=Nat.testBit_lt_two_pow (Nat.lt_of_lt_of_le h (Nat.pow_le_pow_right (show 0<2 by decide) hle));rw[this] at h4;cases h4
   rw[P0 h3 h4 n (by omega)];omega
def TC(n:Nat)(op:Int)(A:Nat):Nat:=if op=0 then n-tj A else if op=1 then Md n A else if op=2 then dD n A else if A=0 then 1 else 0
end Go.Hl
end
section
namespace Go.Hl
open Go.RowKit
theorem TD(n:Int)(h0:0≤n)(h1:n<2^8):IntKind.u8.wrap n=n:=eu (Ho h0 (by omega))
section
variable {P:Program} {hs:List HP} {env:Env} {q:VP} {dst:Option Tmp} {ty T T2 T' E:TypeId} {pos:String} {after:Array Edge} {gd:Option (Nat×Bool)} {x y z:Operand}
theorem wS{a b:Nat}(ha:a<256)(hb:b<256)(hx:aU env x (aa .u8 (a:Int)))(hy:aU env y (aa .u8 (b:Int))):aT P hs env ⟨dst, .binOp .and T x y T',ty,pos,after,gd⟩ (aa .u8 ((a &&& b:Nat):Int)):=
 aT.aD fun ρ w S F _ he=>by
  have h1:=he.o _ _ hx;have h2:=he.o _ _ hy;simp only[af] at h1 h2
  exact⟨.int .u8 ((a &&& b:Nat):Int),by simp[execOp,h1,h2,go_sem,(bits_nat .u8 8 (by decide) TD a b (by omega) (by omega)).1],rfl⟩
theorem Ie{a b:Nat}(ha:a<256)(hb:b<256)(hx:aU env x (aa .u8 (a:Int)))(hy:aU env y (aa .u8 (b:Int))):aT P hs env ⟨dst, .binOp .or T x y T',ty,pos,after,gd⟩ (aa .u8 ((a|||b:Nat):Int)):=
 aT.aD fun ρ w S F _ he=>by
  have h1:=he.o _ _ hx;have h2:=he.o _ _ hy;simp only[af] at h1 h2
  exact⟨.int .u8 ((a|||b:Nat):Int),by simp[execOp,h1,h2,go_sem,(bits_nat .u8 8 (by decide) TD a b (by omega) (by omega)).2],rfl⟩
theorem JM{n:Int}(h1: -9223372036854775808≤n)(h2:n≤9223372036854775807):bits .xor .i64 (-1) n= -n-1:=by
 have e:BitVec.ofInt 64 (-1)^^^BitVec.ofInt 64 n= ~~~ (BitVec.ofInt 64 n):=by rw[show BitVec.ofInt 64 (-1)=BitVec.allOnes 64 from by decide,BitVec.allOnes_xor]
 show IntKind.i64.wrap ((BitVec.ofInt 64 (-1)^^^BitVec.ofInt 64 n).toNat:Int)= -n-1
 rw[e,BitVec.toNat_not,BitVec.toNat_ofInt];unfold IntKind.wrap;simp only[IntKind.signed,IntKind.bits];simp;omega
theorem JN{n:Int}(h1: -9223372036854775808≤n)(h2:n≤9223372036854775807)(hx:aU env x (aa .i64 n)):aT P hs env ⟨dst, .unOp .xor T x,ty,pos,after,gd⟩ (aa .i64 (-n-1)):=
 aT.aD fun ρ w S F _ he=>by
  have h3:=he.o _ _ hx;simp only[af] at h3
  exact⟨.int .i64 (-n-1),by simp[execOp,h3,go_sem,JM h1 h2,show IntKind.i64.signed=true from rfl],rfl⟩
end
theorem zF(n:Int):IntKind.u8.wrap n=((n%256).toNat:Int):=by
 unfold IntKind.wrap;simp[IntKind.signed,IntKind.bits];omega
theorem CQ(k:Nat):k &&& 127<256:=Nat.lt_of_le_of_lt Nat.and_le_right (by decide)
theorem Mf{k:Nat}(h:k<256):k|||128<256:=Nat.or_lt_two_pow (n:=8) h (by decide)
theorem zG{k:Nat}(h:k<256):ag (aa .u8 (k:Int)) (aa .u8 ((UInt8.ofNat k).toNat:Int)):=ag.int (by simp;omega)
theorem OL(a:Nat):tj a=KT a:=rfl
theorem OM(n:Int):kC n=(tj (if n<0 then(-n-1).toNat else n.toNat)+7)/7:=JA n.natAbs n (Nat.le_refl _)
theorem TE{a:Nat}(h:a<18446744073709551616):tj a≤64:=by rw[OL];exact Fp (k:=64) h
def qS(x:aq):Int:=(dy x.Code).elim (-1) (·.Form)
theorem wT{x:aq}(h:dy x.Code=none):qS x= -1∧iF x.Code=[]:=by unfold qS;rw[h];exact⟨rfl,nU h⟩
theorem wU{x:aq}{i:mq}(h:dy x.Code=some i):qS x=aP x.Code∧iF x.Code≠[]:=by
 unfold qS;rw[h];have:=jo h;exact⟨this.2.2.2.1,this.2.2.1⟩
theorem wW(c:Int):0≤aP c∧aP c≤11:=by unfold aP;repeat (first|split|omega)
theorem Ig{c:Int}(h:aP c=11):c=65∨c=66:=by
 unfold aP at h
 repeat' split at h
 all_goals omega
theorem Mg{x:aq}(hA:0≤x.A)(hB:0≤x.B):iQ x↔kD x (qS x):=by
 rw[CK hA hB (wW _) (fun h=>Ig h) (fun h=>by rw[h];decide)];cases hf:dy x.Code with
 |none=>
  obtain⟨h1,h2⟩:=wT hf;rw[h1,h2];constructor
  · rintro⟨h,_⟩;exact absurd rfl h
  · intro h;unfold kD at h;omega
 |some i=>
  obtain⟨h1,h2⟩:=wU hf;rw[h1];exact⟨fun h=>h.2,fun h=>⟨h2,h⟩⟩
theorem FD{x:aq}(hA:0≤x.A)(hB:0≤x.B)(h:iQ x):qS x=aP x.Code∧iF x.Code≠[]:=by
 cases hf:dy x.Code with
 |none=>exact absurd (wT hf).2 h.1
 |some i=>exact wU hf
theorem AL{c:Int}(h:iF c≠[]):0≤c∧c≤196∨64522≤c∧c≤64523:=by
 by_cases h2:c<0∨196<c∧c<64522∨64523<c
 · exact absurd (nU (Cy h2)) h
 · omega
end Go.Hl
namespace Go.Hl
def rF(l:List Int):Nat:=(l.map eJ).sum
theorem JO(l:List Int)(n:Int):rF (l++[n])=rF l+eJ n:=by simp[rF]
theorem qt:∀(l:List Int),(∀n∈l,0≤n∧n<18446744073709551616)→rF l≤10*l.length
 |[],_=>by simp[rF]
 |n::l,h=>by
  have h1:=qt l (fun m hm=>h m (List.mem_cons_of_mem _ hm));have h2:=h n (List.mem_cons_self ..);have h3:eJ n≤10:=iL (by omega);simp only[rF,List.map_cons,List.sum_cons,List.length_cons] at h1 ⊢;omega
def uG(x:aq):Nat:=if 64512≤x.Code then 1+eJ (x.Code-64512) else 1
def ox(x:aq):Int:=if x.Code=65 then(if x.A<2147483648 then x.A else x.A-4294967296) else(if x.A<9223372036854775808 then x.A else x.A-18446744073709551616)
def JP(x:aq):Nat:=(if x.A=0 then eJ x.eT else eJ (x.eT+64)+eJ x.A)+eJ x.B
theorem mB(x:aq):rz x=uG x+(if aP x.Code=1 then 1
   else if aP x.Code=2∨aP x.Code=4∨aP x.Code=6∨aP x.Code=7∨aP x.Code=9 then eJ x.A
   else if aP x.Code=3 then jA x.L.length+rF x.L+eJ x.A
   else if aP x.Code=5∨aP x.Code=10 then eJ x.A+eJ x.B
   else if aP x.Code=8 then JP x
   else if aP x.Code=11 then kC (ox x) else 0):=rfl
theorem ON{a:Int}(h0:0≤a)(h1:a<18446744073709551616):IntKind.i64.wrap a=if a<9223372036854775808 then a else a-18446744073709551616:=by
 by_cases h:a<9223372036854775808
 · rw[if_pos h];unfold IntKind.wrap;simp only[IntKind.signed,IntKind.bits];simp;omega
 · rw[if_neg h];unfold IntKind.wrap;simp only[IntKind.signed,IntKind.bits];simp;omega
theorem OO{a:Int}(h0:0≤a)(h1:a≤4294967295):IntKind.i32.wrap a=if a<2147483648 then a else a-4294967296:=by
 by_cases h:a<2147483648
 · rw[if_pos h];unfold IntKind.wrap;simp only[IntKind.signed,IntKind.bits];simp;omega
 · rw[if_neg h];unfold IntKind.wrap;simp only[IntKind.signed,IntKind.bits];simp;omega
end Go.Hl
end
section
namespace Go.Hl
open Go.RowKit
abbrev hH:=Int×Int×Int
def bE(s:hH):List VP:=[aa .i64 s.1,aa .i64 s.2.1,aa .i64 s.2.2]
instance:iy 3 bE:=⟨fun _=>rfl,fun x q h=>by simp only[bE,List.mem_cons,List.not_mem_nil,or_false] at h;rcases h with h|h|h<;>rw[h]<;>infer_instance⟩
instance (x:hH):bq (bE x):=bq.of x
def jC(n:Nat):List VP:=[aa .i64 (n:Int)]
instance:iy 1 jC:=⟨fun _=>rfl,fun x q h=>by simp only[jC,List.mem_cons,List.not_mem_nil,or_false] at h;rw[h];infer_instance⟩
instance (x:Nat):bq (jC x):=bq.of x
def n3(r:Nat×UInt8):List VP:=[aa .i64 (r.1:Int),aa .u8 (r.2.toNat:Int)]
instance:iy 2 n3:=⟨fun _=>rfl,fun x q h=>by simp only[n3,List.mem_cons,List.not_mem_nil,or_false] at h;rcases h with h|h<;>rw[h]<;>infer_instance⟩
instance (x:Nat×UInt8):bq (n3 x):=bq.of x
structure Mh where
 gp:SB
 go:SB
 sp:List hH
 op:List Nat
 cl:Prop
 dp:Int
abbrev AM(nb:Nat)(l:List aq)(z:Mh):List HP:=[aF nb [an 5 aE l,af (bA z.gp z.sp.length),af (bA z.go z.op.length),ak z.cl,aa .i64 z.dp],aI z.gp 3 bE z.sp,aI z.go 1 jC z.op]
def CR(l:List aq)(sp:List hH)(p:Nat)(ce:Int×Bool):Prop:=∃(i:Nat) (el en:Int) (x:aq),sp[p]?=some ((i:Int),el,en)∧l[i]?=some x∧x.Code=ce.1∧(ce.2=true↔el≠ -1)
structure fM(l:List aq)(sp:List hH)(op:List Nat)(rs:List (Int×Bool)):Prop where
 len:op.length=rs.length
 inc:op.Pairwise (· < ·)
 rel:∀(k p:Nat) (ce:Int×Bool),op[k]?=some p→rs[k]?=some ce→CR l sp p ce
theorem fM.nil(l:List aq)(sp:List hH):fM l sp [] []:=⟨rfl,List.Pairwise.nil,fun k p ce h=>by simp at h⟩
theorem fM.at_{l:List aq}{sp:List hH}{op:List Nat}{rs:List (Int×Bool)}(h:fM l sp op rs){p:Nat}(hp:p∈op):∃ce,CR l sp p ce:=by
 obtain⟨k,hk⟩:=List.mem_iff_getElem?.1 hp;have hl:k<rs.length:=by have:=(List.getElem?_eq_some_iff.1 hk).1;rw[h.len] at this;exact this
 exact⟨_,h.rel k p _ hk (List.getElem?_eq_getElem hl)⟩
theorem CR.lt{l:List aq}{sp:List hH}{p:Nat}{ce:Int×Bool}(h:CR l sp p ce):p<sp.length:=by
 obtain⟨_,_,_,_,h1,_⟩:=h;exact(List.getElem?_eq_some_iff.1 h1).1
theorem fM.begin{l:List aq}{sp:List hH}{op:List Nat}{rs:List (Int×Bool)}(h:fM l sp op rs){i:Nat}{x:aq}(hx:l[i]?=some x):fM l (sp++[((i:Int),-1,-1)]) (op++[sp.length]) (rs++[(x.Code,false)]):=by
 refine⟨by simp[h.len],?_,fun k p ce hk hr=>?_⟩
 · rw[List.pairwise_append]
   refine⟨h.inc,List.pairwise_singleton _ _,fun a ha b hb=>?_⟩;simp only[List.mem_singleton] at hb;subst hb
   obtain⟨ce,hce⟩:=h.at_ ha;exact hce.lt
 · by_cases KP:k<op.length
   · rw[List.getElem?_append_left KP] at hk
     rw[List.getElem?_append_left (by rw[←h.len];exact KP)] at hr;obtain⟨j,el,en,y,h1,h2,h3,h4⟩:=h.rel k p ce hk hr;exact⟨j,el,en,y,by rw[List.getElem?_append_left (List.getElem?_eq_some_iff.1 h1).1];exact h1,h2,h3,h4⟩
   · rw[List.getElem?_append_right (by omega)] at hk
     rw[List.getElem?_append_right (by rw[←h.len];omega)] at hr
     have OP:k-op.length=0:=by
      have:=(List.getElem?_eq_some_iff.1 hk).1;simp at this;omega
     rw[OP] at hk;rw[←h.len,OP] at hr;simp at hk hr;subst hk;subst hr
     exact⟨i,-1,-1,x,by simp,hx,rfl,by simp⟩
theorem AN{α:Type}{o:List α}{p:α}:(o++[p])[o.length]?=some p:=by simp
theorem fM.top{l:List aq}{sp:List hH}{o:List Nat}{p:Nat}{rs:List (Int×Bool)}{ce:Int×Bool}(h:fM l sp (o++[p]) (rs++[ce])):CR l sp p ce:=by
 have hl:o.length=rs.length:=by have:=h.len;simp at this;exact this
 exact h.rel o.length p ce AN (by rw[hl];exact AN)
theorem fM.Rp{l:List aq}{sp:List hH}{o:List Nat}{p:Nat}{rs:List (Int×Bool)}(h:fM l sp (o++[p]) rs):p∉o:=fun hp=>by
 have:=(List.pairwise_append.1 h.inc).2.2 p hp p (by simp);omega
theorem CR.set{l:List aq}{sp:List hH}{p q:Nat}{s:hH}{ce:Int×Bool}(h:CR l sp q ce)(hne:q≠p):CR l (sp.set p s) q ce:=by
 obtain⟨j,el,en,y,h1,h2⟩:=h;exact⟨j,el,en,y,by rw[List.getElem?_set_ne (by omega)];exact h1,h2⟩
theorem fM.pop{l:List aq}{sp:List hH}{o:List Nat}{p:Nat}{rs:List (Int×Bool)}{ce:Int×Bool}(h:fM l sp (o++[p]) (rs++[ce]))(s:hH):fM l (sp.set p s) o rs:=by
 have hl:o.length=rs.length:=by have:=h.len;simp at this;exact this
 refine⟨hl,(List.pairwise_append.1 h.inc).1,fun k q c hk hr=>?_⟩;have hq:q∈o:=List.mem_of_getElem? hk;refine(h.rel k q c ?_ ?_).set (fun e=>h.Rp (e▸hq))
 · rw[List.getElem?_append_left (List.getElem?_eq_some_iff.1 hk).1];exact hk
 · rw[List.getElem?_append_left (List.getElem?_eq_some_iff.1 hr).1];exact hr
theorem fM.other{l:List aq}{sp:List hH}{o:List Nat}{p:Nat}{rs:List (Int×Bool)}{c:Int}{e:Bool}(h:fM l sp (o++[p]) (rs++[(c,e)])){i:Nat}{el en:Int}{x:aq}(hs:sp[p]?=some ((i:Int),el,en))(hx:l[i]?=some x)(hc:x.Code=c){j:Nat}:
    fM l (sp.set p ((i:Int),(j:Int),en)) (o++[p]) (rs++[(c,true)]):=by
  have hl:o.length=rs.length:=by have:=h.len;simp at this;exact this
  have YH:=h.pop ((i:Int),(j:Int),en);refine⟨by simp[hl],h.inc,fun k q ce hk hr=>?_⟩;by_cases KP:k<o.length
  · rw[List.getElem?_append_left KP] at hk
    rw[List.getElem?_append_left (by omega)] at hr;exact YH.rel k q ce hk hr
  · rw[List.getElem?_append_right (by omega)] at hk
    rw[List.getElem?_append_right (by omega)] at hr
    have OP:k-o.length=0:=by
      have:=(List.getElem?_eq_some_iff.1 hk).1;simp at this;omega
    rw[OP] at hk;rw[←hl,OP] at hr;simp at hk hr;subst hk;subst hr
    exact⟨i,j,en,x,by rw[List.getElem?_set_self (List.getElem?_eq_some_iff.1 hs).1],hx,hc,by simp⟩
def er(cl:Prop)(rs:List (Int×Bool))(r:List Int):Prop:=(cl∧r=[])∨(¬cl∧mS r rs.reverse)
theorem FE{rs:List (Int×Bool)}{c:Int}{r:List Int}(h:aV c)(hl:rs.length≠64)(hb:rs.length≤64):er False rs (c::r)↔er False (rs++[(c,false)]) r:=by
 simp only[er,false_and,not_false_eq_true,true_and,false_or,List.reverse_append,List.reverse_cons,List.reverse_nil,List.nil_append,List.singleton_append];rw[ja,if_pos h];simp only[List.length_reverse];exact⟨fun h=>h.2,fun h=>⟨by omega,h⟩⟩
theorem FG{rs:List (Int×Bool)}{c:Int}{r:List Int}(h:aV c)(hl:rs.length=64):¬er False rs (c::r):=by
 simp only[er,false_and,not_false_eq_true,true_and,false_or];rw[ja,if_pos h];simp only[List.length_reverse];omega
theorem ye{r:List Int}:¬er False [] (5::r):=by
 simp only[er,false_and,not_false_eq_true,true_and,false_or,List.reverse_nil];rw[ja];simp[aV]
theorem wX{rs:List (Int×Bool)}{b:Int}{e:Bool}{r:List Int}:er False (rs++[(b,e)]) (5::r)↔(b=4∧e=false)∧er False (rs++[(b,true)]) r:=by
 simp only[er,false_and,not_false_eq_true,true_and,false_or,List.reverse_append,List.reverse_cons,List.reverse_nil,List.nil_append,List.singleton_append];rw[ja];simp[aV]
theorem wY{r:List Int}:er False [] (11::r)↔er True [] r:=by
 simp only[er,false_and,not_false_eq_true,true_and,false_or,not_true_eq_false,or_false,List.reverse_nil];rw[ja];simp[aV]
theorem JQ{rs:List (Int×Bool)}{ce:Int×Bool}{r:List Int}:er False (rs++[ce]) (11::r)↔er False rs r:=by
 simp only[er,false_and,not_false_eq_true,true_and,false_or,List.reverse_append,List.reverse_cons,List.reverse_nil,List.nil_append,List.singleton_append];rw[ja];simp[aV]
theorem CS{rs:List (Int×Bool)}{c:Int}{r:List Int}(h1:¬aV c)(h2:c≠5)(h3:c≠11):er False rs (c::r)↔er False rs r:=by
 simp only[er,false_and,not_false_eq_true,true_and,false_or];rw[ja,if_neg h1,if_neg h2,if_neg h3]
theorem AO{rs:List (Int×Bool)}{c:Int}{r:List Int}:¬er True rs (c::r):=by simp[er]
theorem JR{cl:Prop}{rs:List (Int×Bool)}:er cl rs []↔cl:=by simp[er,mS]
theorem Ih{α β:Type}{n k:Nat}{e1:α→List VP}{e2:β→List VP}{r:List HP}:aA r (aI none n e1 []::aI none k e2 []::r):=fun F S w h=>
 ⟨fun _=>False,F,fun _ h=>h.elim,fun _ h=>h,rfl,fun _=>False,F,fun _ h=>h.elim,fun _ h=>h,rfl,h⟩
noncomputable section
open Classical
def CU(c:Int)(j:Nat)(s:List hH×List Nat):List hH×List Nat:=
 if aV c then(s.1++[((j:Int),-1,-1)],s.2++[s.1.length])
 else match s.2.getLast? with
  |none=>s
  |some p=>match s.1[p]? with
   |none=>s
   |some (b,el,en)=>if c=5 then(s.1.set p (b,(j:Int),en),s.2) else if c=11 then(s.1.set p (b,el,(j:Int)),s.2.dropLast) else s
def Ii(l:List aq):Nat→List hH×List Nat
 |0=>([],[])
 |i+1=>match l[i]? with
  |some x=>CU x.Code i (Ii l i)
  |none=>Ii l i
theorem TF{l:List aq}{i:Nat}{x:aq}(h:l[i]?=some x):Ii l (i+1)=CU x.Code i (Ii l i):=by show(match l[i]? with|some x=>CU x.Code i (Ii l i)|none=>Ii l i)=_;rw[h]
def jr(l:List aq):List hH:=(Ii l l.length).1
end
def nsQ(c:Int)(j:Nat)(z0 z:Mh):Prop:=(z.sp,z.op)=CU c j (z0.sp,z0.op)
def YI(l:List aq)(cl:Prop)(rs:List (Int×Bool))(c:Int)(j:Nat)(z0:Mh)(e:Int)(z:Mh):Prop:=
 (e=0∧nsQ c j z0 z∧z.sp.length≤z0.sp.length+1∧z.op.length≤64∧∃rs',fM l z.sp z.op rs'∧∀r,er cl rs (c::r)↔er z.cl rs' r)∨(e≠0∧∀r,¬er cl rs (c::r))
theorem Mi{c:Int}{j:Nat}{s:List hH×List Nat}(h:aV c):CU c j s=(s.1++[((j:Int),-1,-1)],s.2++[s.1.length]):=if_pos h
theorem Mj{j p:Nat}{sp:List hH}{o:List Nat}{b el en:Int}(h:sp[p]?=some (b,el,en)):CU 5 j (sp,o++[p])=(sp.set p (b,(j:Int),en),o++[p]):=by
 unfold CU;rw[if_neg (by unfold aV;omega)];simp[h]
theorem OQ{j p:Nat}{sp:List hH}{o:List Nat}{b el en:Int}(h:sp[p]?=some (b,el,en)):CU 11 j (sp,o++[p])=(sp.set p (b,el,(j:Int)),o):=by
 unfold CU;rw[if_neg (by unfold aV;omega)];simp[h]
theorem Mk{j:Nat}{sp:List hH}:CU 11 j (sp,[])=(sp,[]):=by
 unfold CU;rw[if_neg (by unfold aV;omega)];rfl
theorem JS{c:Int}{j:Nat}{s:List hH×List Nat}(h1:¬aV c)(h2:c≠5)(h3:c≠11):CU c j s=s:=by
 unfold CU;rw[if_neg h1];cases s.2.getLast? with
 |none=>rfl
 |some p=>
  simp only;cases s.1[p]? with
  |none=>rfl
  |some x=>obtain⟨b,el,en⟩:=x;simp only;rw[if_neg h2,if_neg h3]
end Go.Hl
end
section
namespace Go.Hl
theorem CV(t:UInt8):aZ [] t=[(1,t)]:=rfl
theorem sN(m:List (Nat×UInt8))(n:Nat)(t:UInt8):aZ (m++[(n,t)]) t=m++[(n+1,t)]:=by rw[nY];simp[aZ]
variable {t:UInt8}
theorem qT(m:List (Nat×UInt8))(n:Nat){t':UInt8}(h:¬t=t'):aZ (m++[(n,t)]) t'=(m++[(n,t)])++[(1,t')]:=by rw[nY];simp[aZ,h]
theorem rG{l:List UInt8}{k:Nat}(h:l[k]?=some t):(l.take (k+1)).foldl aZ []=aZ ((l.take k).foldl aZ []) t:=by
 rw[←cu h,List.foldl_append];rfl
theorem FH{o:List (Nat×UInt8)}{M:Nat}(h:∀p∈o,p.1≤M):(∀p∈aZ o t,p.1≤M+1)∧(aZ o t).length≤o.length+1:=by
 rcases List.eq_nil_or_concat o with rfl|⟨m,⟨n,t'⟩,rfl⟩
 · simp[CV]
 · rw [List.concat_eq_append] at h ⊢
   by_cases e:t'=t
   · subst e
     rw[sN];refine⟨fun p hp=>?_,by simp⟩;rcases List.mem_append.1 hp with hp|hp
     · have:=h p (by simp[hp]);omega
     · simp only[List.mem_singleton] at hp;subst hp
       have:=h (n,t') (by simp);simp only at this ⊢;omega
   · rw[qT _ _ e]
     refine⟨fun p hp=>?_,by simp⟩;rcases List.mem_append.1 hp with hp|hp
     · have:=h p hp;omega
     · simp only[List.mem_singleton] at hp;subst hp;simp
theorem vw:∀(l:List UInt8) (o:List (Nat×UInt8)) (M:Nat),(∀p∈o,p.1≤M)→(∀p∈l.foldl aZ o,p.1≤M+l.length)∧(l.foldl aZ o).length≤o.length+l.length
 |[],o,M,h=>⟨by simpa using h,by simp⟩
 |t::l,o,M,h=>by
  obtain⟨h1,h2⟩:=FH (t:=t) h;obtain⟨h3,h4⟩:=vw l _ _ h1;simp only[List.foldl_cons,List.length_cons];exact⟨fun p hp=>by have:=h3 p hp;omega,by omega⟩
theorem Ij{x:aq}(h:nt x)(r:iQ x):rz x≤1100:=by
 obtain⟨r1,r2,r3,r4,r5,r6⟩:=r;have hL:x.L.length≤100:=r6.elim (fun h=>by rw[h];simp) (fun h=>h.2);have hA:eJ x.A≤10:=iL (by have:=h.A0;have:=h.PY;omega);have hB:eJ x.B≤10:=iL (by have:=h.B0;have:=h.B64;omega);have hs:=qt x.L (fun n hn=>⟨h.L0 n hn,by have h9:n≤4294967295:=r5 n hn;omega⟩);have hl:jA x.L.length≤10:=iL (by omega);have ha:eJ x.eT≤10:=iL (by have:=h.Tx;omega);have ha2:eJ (x.eT+64)≤10:=iL (by have:=h.Tx;omega);have hm:JP x≤30:=by unfold JP;split<;>omega
 have Rl:x.Code=65→x.A≤4294967295:=fun Rl=>Classical.byContradiction fun h9=>r2 (.inr (.inl ⟨Rl,h9⟩));have hw:kC (ox x)≤10:=H6 (by have:=h.A0;have:=h.PY;unfold ox;(repeat split)<;>(try omega)) (by have:=h.A0;have:=h.PY;unfold ox;split<;>(try have:=Rl (by assumption))<;>split<;>omega)
 have hh:uG x≤11:=by
  unfold uG
  split
  · have:eJ (x.Code-64512)≤10:=iL (by have:=AL r1;omega)
    omega
  · omega
 rw[mB]
 repeat (first|split|omega)
def yf(l:List aq):Nat:=(l.map rz).sum
theorem JT(l:List aq)(x:aq):yf (l++[x])=yf l+rz x:=by simp[yf]
theorem Ik:∀(l:List aq),(∀x∈l,nt x∧iQ x)→yf l≤1100*l.length
 |[],_=>by simp[yf]
 |x::l,h=>by
  have h1:=Ik l (fun y hy=>h y (List.mem_cons_of_mem _ hy));have h2:=h x (List.mem_cons_self ..);have h3:=Ij h2.1 h2.2;simp only[yf,List.map_cons,List.sum_cons,List.length_cons] at h1 ⊢;omega
def wZ(r:List (Nat×UInt8)):Nat:=(r.map fun p=>jA p.1+1).sum
theorem JU(r:List (Nat×UInt8))(p:Nat×UInt8):wZ (r++[p])=wZ r+(jA p.1+1):=by simp[wZ]
theorem AP:∀(r:List (Nat×UInt8)),(∀p∈r,p.1≤1000000)→wZ r≤11*r.length
 |[],_=>by simp[wZ]
 |p::r,h=>by
  have h1:=AP r (fun q hq=>h q (List.mem_cons_of_mem _ hq));have h2:=h p (List.mem_cons_self ..);have h3:jA p.1≤10:=iL (by omega);simp only[wZ,List.map_cons,List.sum_cons,List.length_cons] at h1 ⊢;omega
theorem OR(b:nh):LZ b=jA (b.aY.foldl aZ []).length+wZ (b.aY.foldl aZ [])+yf b.L:=by
 unfold LZ wZ yf;rw[←OI];simp[List.map_map,Function.comp_def]
theorem nt.of{x:aq}(h:nX x)(r:iQ x):nt x where
 tonX:=h
 A16:=fun e=>by
  have hf:aP x.Code≠11:=by rw[e];decide
  have h1:=r.2.1;have h2:th x.A:=Classical.byContradiction fun h9=>h1 (.inl ⟨hf,h9⟩);have:=h.A0;unfold th at h2;omega
 a0:=by have h1:=r.2.2.2.1;omega
 Tx:=by have h1:=r.2.2.2.1;omega
structure Rq(b:nh):Prop where
 ins:∀x∈b.L,nX x
 len:b.L.length≤10000
 loc:b.aY.length≤60000
end Go.Hl
end
section
namespace Go.Hl
open Go.RowKit
def Il(rest:List aq)(fs:List fm):Prop:=(fs=[]∧rest=[])∨∃st:List (Int×Bool),st.length+1=fs.length∧mS (rest.map (·.Code)) st
theorem CW{x:aq}{r:List aq}{fs:List fm}(h:Il (x::r) fs):∃gs b,fs=gs++[b]:=by
 rcases h with⟨_,h⟩|⟨st,h,_⟩
 · cases h
 · exact mw (fun e=>by rw[e] at h;simp at h)
theorem FI{m:aR}{f:bU}{x:aq}{r:List aq}{fs fs':List fm}{b:fm}(h:Il (x::r) (fs++[b]))(hs:gO m f x fs b=some fs'):Il r fs':=by
 rcases h with⟨h,_⟩|⟨st,hl,hn⟩
 · simp at h
 simp only[List.length_append,List.length_cons,List.length_nil] at hl;rw[List.map_cons,ja] at hn;by_cases h11:x.Code=11
 · rw [if_neg (by rw[h11];decide),if_neg (by omega),if_pos h11] at hn
   unfold gO eg at hs;rw[if_pos h11] at hs
   split at hs
   · simp only[Option.some.injEq] at hs
     subst hs;cases st with
     |nil=>
      simp only at hn;have:fs=[]:=List.eq_nil_of_length_eq_zero (by simp only[List.length_nil] at hl;omega);subst this;exact .inl ⟨rfl,by simpa using hn⟩
     |cons p t=>
      simp only at hn;rcases List.eq_nil_or_concat fs with rfl|⟨gs,y,rfl⟩
      · simp at hl
      · refine .inr ⟨t,?_,hn⟩
        simp only[List.concat_eq_append,List.getLast?_append,List.getLast?_singleton,Option.some_or,List.dropLast_concat,List.length_append,List.length_cons,List.length_nil] at hl ⊢;omega
   · cases hs
 by_cases h5:x.Code=5
 · rw [if_neg (by rw[h5];decide),if_pos h5] at hn
   unfold gO eg at hs;rw[if_neg h11,if_pos h5] at hs
   split at hs
   · simp only[Option.some.injEq] at hs
     subst hs;cases st with
     |nil=>exact hn.elim
     |cons p t=>
      obtain⟨pb,pe⟩:=p;simp only at hn;exact .inr ⟨(pb,true)::t,by simpa using hl,hn.2⟩
   · cases hs
 by_cases ho:aV x.Code
 · rw[if_pos ho] at hn
   unfold gO eg at hs;rw[if_neg h11,if_neg h5,if_pos ho] at hs;obtain⟨s,_,rfl⟩:=Option.map_eq_some_iff.1 hs;exact .inr ⟨(x.Code,false)::st,by simp;omega,hn.2⟩
 · rw[if_neg ho,if_neg h5,if_neg h11] at hn
   rw[wN h11 h5 ho] at hs;obtain⟨s,_,rfl⟩:=Option.map_eq_some_iff.1 hs;exact .inr ⟨st,by simp;omega,hn⟩
theorem FJ{m:aR}{f:bU}(h:fA m):∀g∈(bJ m f).aB,g.R.length≤20:=fun g hg=>by
 obtain⟨k,hk⟩:=List.mem_iff_getElem?.1 hg;have h9:=nu (f:=f) (n:=(k:Int)) h;have:dI (bJ m f).aB (k:Int)=some g:=by unfold dI;rw[if_pos ⟨by have:=(List.getElem?_eq_some_iff.1 hk).1;omega,by omega⟩];simpa using hk
 rw[this] at h9;exact(h.EB g (Au h9.symm)).2
theorem Ml(x:aq):(iG x).length≤20:=by unfold iG;split<;>simp
structure sO(m:aR)(f:bU)(i:Nat)(hts:List Nat)(fs:List fm):Prop where
 EB:AJ fs
 hgt:o8 fs≤20*i
 len:fs.length≤1+i
 nest:Il (f.Body.L.drop i) fs
 run:cj m f=(nT (·.Code) iG (gN (bJ m f)) (f.Body.L.drop i) fs).map (hts++ ·)
theorem sO.init{m:aR}{f:bU}(h:fA m)(hs:bC m f.gq∈m.cY)(hn:mS (f.Body.L.map (·.Code)) []):sO m f 0 [] [fm.mk False False (bC m f.gq).R ([],False)] where
 EB:=fun k hk=>by simp only[List.mem_singleton] at hk;subst hk;exact(h.EB _ hs).2
 hgt:=by simp[o8]
 len:=by simp
 nest:= .inr ⟨[],by simp,by simpa using hn⟩
 run:=by
  show cj m f=(nT _ _ _ f.Body.L _).map ([]++ ·)
  unfold cj;cases nT (fun x:aq=>x.Code) iG (gN (bJ m f)) f.Body.L [fm.mk False False (bC m f.gq).R ([],False)]<;>rfl
theorem sP{α:Type}{l:List α}{i:Nat}{x:α}(h:l[i]?=some x):l.drop i=x::l.drop (i+1):=by
 have hl:=(List.getElem?_eq_some_iff.1 h);rw[List.drop_eq_getElem_cons hl.1,hl.2]
theorem sO.next{m:aR}{f:bU}{i:Nat}{hts:List Nat}{fs fs':List fm}{b:fm}{x:aq}(h:sO m f i hts (fs++[b]))(hm:fA m)(hx:f.Body.L[i]?=some x)(hs:gO m f x fs b=some fs'):sO m f (i+1) (hts++[o8 (fs++[b])]) fs':=by
 obtain⟨g1,g2,g3⟩:=Fy (v:=bJ m f) (x:=x) (rr:=iG) (Ml x) h.EB (FJ hm) (fun g hg=>(hm.EB g hg).2) (by have:=(tO x.Code).2;omega) hs;have hd:=sP hx;refine⟨g1,by have:=h.hgt;omega,by have:=h.len;simp at this;omega,FI (hd▸h.nest) hs,?_⟩;rw[h.run,hd,qm];have hs':eg (fun x:aq=>x.Code) iG (gN (bJ m f)) x fs b=some fs':=hs;rw[hs'];simp only[Option.bind_some,Option.map_map]
 congr 1
 funext l
 simp
theorem sO.TG{m:aR}{f:bU}{i:Nat}{hts:List Nat}{fs:List fm}{b:fm}{x:aq}(h:sO m f i hts (fs++[b]))(hx:f.Body.L[i]?=some x)(hs:gO m f x fs b=none):cj m f=none:=by
 rw[h.run,sP hx,qm];have hs':eg (fun x:aq=>x.Code) iG (gN (bJ m f)) x fs b=none:=hs;rw[hs'];rfl
theorem sO.done{m:aR}{f:bU}{i:Nat}{hts:List Nat}{fs:List fm}(h:sO m f i hts fs)(hi:f.Body.L.length≤i):cj m f=some hts:=by
 rw[h.run,List.drop_eq_nil_of_le hi];simp[nT]
structure gD(m:aR):Prop where
 ins:∀f∈m.aB,∀x∈f.Body.L,nX x
 len:∀f∈m.aB,f.Body.L.length≤2000
 loc:∀f∈m.aB,f.Body.aY.length≤50000
theorem gD.bd{m:aR}(h:gD m){f:bU}(hf:f∈m.aB):Rq f.Body:=⟨h.ins f hf,by have:=h.len f hf;omega,by have:=h.loc f hf;omega⟩
theorem nx{m:aR}(h:fA m){f:bU}(hf:f∈m.aB):ql f.gq m.cY.length:=Classical.not_not.1 ((m8 (by decide)).1 (wz h.funcs f hf))
theorem lu{m:aR}(h:fA m){f:bU}{i:Nat}(hf:m.aB[i]?=some f):eM m ((m.av.length:Int)+(i:Int))=some (bC m f.gq):=by
 have hl:=(List.getElem?_eq_some_iff.1 hf).1;have h1:=nu (f:=f) (n:=(m.av.length:Int)+(i:Int)) h;rw[←h1];have hlen:(bJ m f).aB.length=m.av.length+m.aB.length:=by simp[bJ]
 unfold dI;rw[if_pos (by rw[hlen];omega)]
 show(m.av.map (fun i=>bC m i.gq)++m.aB.map (fun g=>bC m g.gq))[_]?=_
 rw[List.getElem?_append_right (by simp;omega),List.getElem?_map,List.length_map];rw[show((m.av.length:Int)+(i:Int)).toNat-m.av.length=i by omega,hf];rfl
end Go.Hl
namespace Go.Hl
def AQ(l:List UInt8):List VP:=[an 1 aL l]
instance:iy 1 AQ:=⟨fun _=>rfl,fun x q h=>by simp only[AQ,List.mem_cons,List.not_mem_nil,or_false] at h;subst h;infer_instance⟩
end Go.Hl
namespace Go.Hl
def n4(x:List UInt8×Int×Int×Int):List VP:=[cW x.1,aa .i64 x.2.1,aa .i64 x.2.2.1,aa .i64 x.2.2.2]
instance:iy 4 n4:=⟨fun _=>rfl,fun x q h=>by simp only[n4,List.mem_cons,List.not_mem_nil,or_false] at h;rcases h with h|h|h|h<;>subst h<;>infer_instance⟩
instance (x:List UInt8×Int×Int×Int):bq (n4 x):=bq.of x
end Go.Hl
end
section
namespace Go.Hl
open Go.RowKit
noncomputable def Mm(m:aR)(a:cS)(ke:Nat):cS:=tM m (a.height+zo m) (Nz m a.height (rq a m) m.aH.length) ke
theorem Im{X:m7}{m:aR}{a:cS}(h:cC X a)(hm:u9 m)(hf:a.height+(zo m+LP m)≤X.size)(ke:Nat):cC X (Mm m a ke)∧mo (rq a m) (Mm m a ke):=by
 have h1:=hm.r1;have h2:=hm.r2
 have h3:cC X (rq a m):=nS (nS h (by omega)) (by simp only;omega);have h4:=Ax (m:=m) (g:=a.height) h3 m.aH.length (by omega);have h5:=Ay (m:=m) (t:=a.height+zo m) h4 hm (by omega) ke;exact⟨h5.1,(Cq _).trans h5.2⟩
instance (m:aR):bq (bp m):=by unfold bp;infer_instance
def Sk(n:Nat):cS:=⟨List.replicate n 0,0,0,[]⟩
theorem FK{X:m7}{n:Nat}(h:X.size=n)(hn:n≤4194304):cC X (Sk n):=⟨by rw[h];exact List.length_replicate,Nat.zero_le _,by omega,Nat.le_refl _⟩
abbrev Mn:=Nat×List UInt8
def AR(p:Mn):List VP:=[aa .u64 (p.1:Int),an 1 aL p.2]
instance:iy 2 AR:=⟨fun _=>rfl,fun x q h=>by simp only[AR,List.mem_cons,List.not_mem_nil,or_false] at h;rcases h with h|h<;>subst h<;>infer_instance⟩
structure RM where
 pages:Nat
 most:Nat
 YJ:List Mn
def CX(r:RM):List VP:=[aa .i64 (r.pages:Int),aa .i64 (r.most:Int),an 2 AR r.YJ]
instance:iy 3 CX:=⟨fun _=>rfl,fun x q h=>by simp only[CX,List.mem_cons,List.not_mem_nil,or_false] at h;rcases h with h|h|h<;>subst h<;>infer_instance⟩
instance (r:RM):bq (CX r):=⟨fun q h=>iy.flat (enc:=CX) r q h⟩
def TH(p:Mn)(a:Nat):Prop:=p.1≤a∧a-p.1<p.2.length
instance (p:Mn) (a:Nat):Decidable (TH p a):=inferInstanceAs (Decidable (_∧_))
structure YK where
 gl:List Int
 tb:List Int
 ms:List RM
def Mo(s:YK):List VP:=[an 1 cK s.gl,an 1 jk s.tb,an 3 CX s.ms]
instance:iy 3 Mo:=⟨fun _=>rfl,fun x q h=>by simp only[Mo,List.mem_cons,List.not_mem_nil,or_false] at h;rcases h with h|h|h<;>subst h<;>infer_instance⟩
instance (s:YK):bq (Mo s):=bq.of s
instance (p:Mn):bq (AR p):=bq.of p
theorem pz(l:List UInt8):oI (l.take 4)<4294967296:=by
 have h1:=v9 (l.take 4);have h2:(l.take 4).length≤4:=List.length_take_le _ _;have h3:2^(8*(l.take 4).length)≤2^32:=Nat.pow_le_pow_right (by decide) (by omega);omega
end Go.Hl
end
section
namespace Go.Hl
def TI(k:cP):List VP:=[dP k.1,dP k.2]
instance:iy 2 TI:=⟨fun _=>rfl,fun x q h=>by simp only[TI,List.mem_cons,List.not_mem_nil,or_false] at h;rcases h with h|h<;>subst h<;>infer_instance⟩
end Go.Hl
end
section
namespace Go.Hl
open Go.RowKit
theorem Io(v:Nat):∀w,oI (kO v w)=v%2^(8*w)
 |0=>by rw[Nat.mul_zero,Nat.pow_zero,Nat.mod_one];rfl
 |w+1=>by
  have h:kO v (w+1)=kO v w++[Oa v w]:=by unfold kO;rw[List.range_succ,List.map_append];rfl
  have e:2^(8*(w+1))=2^(8*w)*256:=by rw[show 8*(w+1)=8*w+8 by omega,Nat.pow_add]
  have hb:(Oa v w).toNat=v/2^(8*w)%256:=by unfold Oa;rw[UInt8.toNat_ofNat'];omega
  rw[h,we,Io v w,kP,hb,e,Nat.mod_mul,Nat.mul_comm (v/2^(8*w)%256)]
theorem ia{X:m7}{a:cS}(h:cC X a){x v w:Nat}(hx:x+w≤X.size):oI ((a.put x (kO v w)).get x w)=v%2^(8*w):=by
 have h1:=Fa (a:=a) (x:=x) (o:=0) (n:=w) (ys:=kO v w) (by rw[h.len];exact hx) (by rw[kP];omega);rw[Nat.add_zero,List.take_zero,List.nil_append,kP,Nat.zero_add,List.drop_of_length_le,List.append_nil] at h1
 · rw[h1,Io]
 · unfold cS.get;rw[List.length_take];omega
theorem gP{X:m7}{a:cS}(h:cC X a){x v w y n:Nat}(hx:x+w≤X.size)(hd:y+n≤x∨x+w≤y):(a.put x (kO v w)).get y n=a.get y n:=
 Ci (by rw[kP,h.len];exact hx) (by rw[kP];exact hd)
theorem CY:∀(k c n:Nat),q8 k c n≤max c (2*n)
 |0,c,n=>by simp[q8];omega
 |k+1,c,n=>by
  unfold q8;have:=CY k (c*2) n
  split<;>omega
theorem w4(n:Nat):aG n≤max 16 (2*n):=by
 unfold aG
 split
 · exact Nat.zero_le _
 · exact CY 19 16 n
section
variable {X:m7} {a a':cS} {lo hi g t:Nat} {s:YK}
structure w5(X:m7)(a a':cS)(lo hi:Nat):Prop where
 ok:cC X a'
 same:mo a a'
 tq:∀y n,(y+n≤lo∨hi≤y)→a'.get y n=a.get y n
theorem w5.refl(h:cC X a):w5 X a a lo hi:=⟨h, .refl _,fun _ _ _=>rfl⟩
theorem w5.put(h:w5 X a a' lo hi){x v w:Nat}(h1:lo≤x)(h2:x+w≤hi)(h3:hi≤X.size):w5 X a (a'.put x (kO v w)) lo hi:=
 ⟨rj h.ok (by omega),h.same.trans ⟨rfl,rfl,rfl⟩,fun y n hy=>(gP h.ok (by omega) (by omega)).trans (h.tq y n hy)⟩
end
abbrev wV(a:Nat):VP:=aa .u64 (a:Int)
abbrev nV(a:Nat):VP:=aa .i64 (a:Int)
def ig(a:Nat):List VP:=[wV a]
instance:iy 1 ig:=⟨fun _=>rfl,fun x q h=>by simp only[ig,List.mem_cons,List.not_mem_nil,or_false] at h;subst h;infer_instance⟩
section
variable {X:m7} {a a' b:cS} {lo hi at_ i n:Nat} {l:List Nat}
theorem w5.trans(h:w5 X a b lo hi)(k:w5 X b a' lo hi):w5 X a a' lo hi:=⟨k.ok,h.same.trans k.same,fun y n hy=>(k.tq y n hy).trans (h.tq y n hy)⟩
theorem w5.wide{lo' hi':Nat}(h:w5 X a a' lo hi)(h1:lo'≤lo)(h2:hi≤hi'):w5 X a a' lo' hi':=⟨h.ok,h.same,fun y n hy=>h.tq y n (by omega)⟩
theorem w5.Rr(h:cC X a){x v w:Nat}(h1:lo≤x)(h2:x+w≤hi)(h3:hi≤X.size):w5 X a (a.put x (kO v w)) lo hi:=(w5.refl h).put h1 h2 h3
def oG(a:cS)(at_:Nat)(l:List Nat):Prop:=∀i v,l[i]?=some v→oI (a.get (at_+8*i) 8)=v
theorem oG.nil:oG a at_ []:=fun i v h=>by simp at h
theorem zH(a:cS)(x:Nat):oI (a.get x 8)<18446744073709551616:=by
 have h1:=v9 (a.get x 8);have h2:(a.get x 8).length≤8:=List.length_take_le _ _;have h3:2^(8*(a.get x 8).length)≤2^64:=Nat.pow_le_pow_right (by decide) (by omega);omega
theorem oG.lt(h:oG a at_ l){v:Nat}(hv:v∈l):v<18446744073709551616:=by
 obtain⟨i,hi⟩:=List.mem_iff_getElem?.1 hv;rw[←h i v hi];exact zH _ _
theorem oG.take(h:oG a at_ l)(n:Nat):oG a at_ (l.take n):=fun i v hv=>h i v (by
 rw[List.getElem?_take] at hv
 split at hv
 · exact hv
 · cases hv)
theorem oG.tq(h:oG a at_ l)(k:w5 X a a' lo hi)(hd:at_+8*l.length≤lo∨hi≤at_):oG a' at_ l:=fun i v hv=>by
 have:=(List.getElem?_eq_some_iff.1 hv).1;rw[k.tq _ _ (by omega)];exact h i v hv
theorem oG.push(h:oG a at_ l)(ha:cC X a){v:Nat}(hx:at_+8*(l.length+1)≤X.size)(hv:v<18446744073709551616):oG (a.put (at_+8*l.length) (kO v 8)) at_ (l++[v]):=fun i w hw=>by
 by_cases e:i=l.length
 · subst e
   rw[List.getElem?_concat_length] at hw;cases hw
   rw[ia ha (by omega)];exact Nat.mod_eq_of_lt hv
 · have hl:=(List.getElem?_eq_some_iff.1 hw).1
   rw[List.length_append,List.length_singleton] at hl;rw[List.getElem?_append_left (by omega)] at hw;rw[gP ha (by omega) (by omega)];exact h i w hw
theorem oG.set(h:oG a at_ l)(ha:cC X a){v:Nat}(hi:i<l.length)(hx:at_+8*l.length≤X.size)(hv:v<18446744073709551616):oG (a.put (at_+8*i) (kO v 8)) at_ (l.set i v):=fun j w hw=>by
 rcases Am hw with⟨rfl,rfl⟩|⟨e,hw⟩
 · rw[ia ha (by omega)];exact Nat.mod_eq_of_lt hv
 · have:=(List.getElem?_eq_some_iff.1 hw).1
   rw[gP ha (by omega) (by omega)];exact h j w hw
structure jx where
 fn:Nat
 pl:Nat
 bs:Nat
def ki(f:jx):List VP:=[nV f.fn,nV f.pl,nV f.bs]
instance:iy 3 ki:=⟨fun _=>rfl,fun x q h=>by simp only[ki,List.mem_cons,List.not_mem_nil,or_false] at h;rcases h with h|h|h<;>subst h<;>infer_instance⟩
instance (f:jx):bq (ki f):=bq.of f
structure lN(f:jx):Prop where
 fn:f.fn<4294967296
 pl:f.pl<4294967296
 bs:f.bs<4294967296
structure yg(a:cS)(x:Nat)(f:jx):Prop where
 fn:oI (a.get x 4)=f.fn
 pl:oI (a.get (x+4) 4)=f.pl
 bs:oI (a.get (x+8) 4)=f.bs
def qE(a:cS)(at_:Nat)(l:List jx):Prop:=∀i f,l[i]?=some f→yg a (at_+12*i) f
def sQ(a:cS)(x:Nat)(f:jx):Nat→cS
 |0=>a
 |1=>a.put x (kO f.fn 4)
 |2=>(a.put x (kO f.fn 4)).put (x+4) (kO f.pl 4)
 |_=>((a.put x (kO f.fn 4)).put (x+4) (kO f.pl 4)).put (x+8) (kO f.bs 4)
def P1(f:jx):Nat→Nat
 |0=>f.fn
 |1=>f.pl
 |_=>f.bs
theorem Mp(a:cS)(x:Nat)(f:jx){k:Nat}(h:k<3):sQ a x f (k+1)=(sQ a x f k).put (x+4*k) (kO (P1 f k) 4):=by
 match k,h with
 |0,_=>rfl
 |1,_=>rfl
 |2,_=>rfl
theorem qu(h:cC X a){x:Nat}{f:jx}(hx:x+12≤X.size):∀k,k≤3→w5 X a (sQ a x f k) x (x+12)
 |0,_=> .refl h
 |k+1,hk=>by
  rw[Mp a x f (by omega)];exact(qu h hx k (by omega)).put (by omega) (by omega) hx
theorem Mq(h:cC X a){x:Nat}{f:jx}(hf:lN f)(hx:x+12≤X.size):yg (sQ a x f 3) x f:=by
 have h1:cC X (a.put x (kO f.fn 4)):=rj h (by omega);have h2:cC X ((a.put x (kO f.fn 4)).put (x+4) (kO f.pl 4)):=rj h1 (by omega);have e:sQ a x f 3=((a.put x (kO f.fn 4)).put (x+4) (kO f.pl 4)).put (x+8) (kO f.bs 4):=rfl;rw[e];refine⟨?_,?_,?_⟩
 · rw[gP h2 (by omega) (by omega),gP h1 (by omega) (by omega),ia h (by omega)];exact Nat.mod_eq_of_lt hf.fn
 · rw[gP h2 (by omega) (by omega),ia h1 (by omega)];exact Nat.mod_eq_of_lt hf.pl
 · rw[ia h2 (by omega)];exact Nat.mod_eq_of_lt hf.bs
theorem yg.tq{x:Nat}{f:jx}(h:yg a x f)(k:w5 X a a' lo hi)(hd:x+12≤lo∨hi≤x):yg a' x f:=
 ⟨by rw[k.tq _ _ (by omega)];exact h.fn,by rw[k.tq _ _ (by omega)];exact h.pl,by rw[k.tq _ _ (by omega)];exact h.bs⟩
theorem yg.ok{x:Nat}{f:jx}(h:yg a x f):lN f:=⟨h.fn▸pz (a.bytes.drop x),h.pl▸pz (a.bytes.drop (x+4)),h.bs▸pz (a.bytes.drop (x+8))⟩
theorem qE.nil:qE a at_ []:=fun i v h=>by simp at h
theorem qE.take{l:List jx}(h:qE a at_ l)(n:Nat):qE a at_ (l.take n):=fun i v hv=>h i v (by
 rw[List.getElem?_take] at hv
 split at hv
 · exact hv
 · cases hv)
theorem qE.tq{l:List jx}(h:qE a at_ l)(k:w5 X a a' lo hi)(hd:at_+12*l.length≤lo∨hi≤at_):qE a' at_ l:=fun i v hv=>by
 have:=(List.getElem?_eq_some_iff.1 hv).1;exact(h i v hv).tq k (by omega)
theorem qE.push{l:List jx}(h:qE a at_ l)(ha:cC X a){f:jx}(hf:lN f)(hx:at_+12*(l.length+1)≤X.size):qE (sQ a (at_+12*l.length) f 3) at_ (l++[f]):=fun i w hw=>by
 by_cases e:i=l.length
 · subst e
   rw[List.getElem?_concat_length] at hw;cases hw
   exact Mq ha hf (by omega)
 · have hl:=(List.getElem?_eq_some_iff.1 hw).1
   rw[List.length_append,List.length_singleton] at hl;rw[List.getElem?_append_left (by omega)] at hw;exact(h i w hw).tq (qu ha (by omega) 3 (Nat.le_refl _)) (by omega)
theorem qE.set{l:List jx}(h:qE a at_ l)(ha:cC X a){f:jx}(hf:lN f)(hi:i<l.length)(hx:at_+12*l.length≤X.size):qE (sQ a (at_+12*i) f 3) at_ (l.set i f):=fun j w hw=>by
 rcases Am hw with⟨rfl,rfl⟩|⟨e,hw⟩
 · exact Mq ha hf (by omega)
 · have:=(List.getElem?_eq_some_iff.1 hw).1
   exact(h j w hw).tq (qu ha (by omega) 3 (Nat.le_refl _)) (by omega)
end
abbrev ij(kb:Nat)(X:m7)(at_ n h:Nat):HP:=aF kb [ai X.ab 0,nV at_,nV n,nV h,ak False]
abbrev iS(fb:Nat)(X:m7)(at_ n d:Nat):HP:=aF fb [ai X.ab 0,nV at_,nV n,nV d,ak False]
end Go.Hl
end
section
namespace Go.Hl
theorem OS(j y m d e:Nat)(hd:d<2^j)(he:e<2^j):(2^j*y+d) &&& (2^j*m+e)=2^j*(y &&& m)+(d &&& e):=by
 have h:d &&& e<2^j:=Nat.and_lt_two_pow _ he;refine Nat.eq_of_testBit_eq fun i=>?_;rw[Nat.testBit_and,Nat.testBit_two_pow_mul_add _ hd,Nat.testBit_two_pow_mul_add _ he,Nat.testBit_two_pow_mul_add _ h]
 split
 · rw[Nat.testBit_and]
 · rw[Nat.testBit_and]
theorem pE(y m d e:Nat)(hd:d<256)(he:e<256):(256*y+d) &&& (256*m+e)=256*(y &&& m)+(d &&& e):=OS 8 y m d e hd he
def vc(e:Nat):Nat→Nat
 |0=>0
 |k+1=>256*vc e k+e
def b1(d:Nat):Nat:=(d/2 &&& 85)+(d &&& 85)
def b2(d:Nat):Nat:=(d/4 &&& 51)+(d &&& 51)
def b3(d:Nat):Nat:=(d/16+d) &&& 15
def sR(f:Nat→Nat):Nat→Nat→Nat
 |0,_=>0
 |k+1,x=>256*sR f k (x/256)+f (x%256)
theorem OT(f:Nat→Nat)(hf:∀d,d<256→f d<256)(k x:Nat):sR f (k+1) x/256=sR f k (x/256)∧sR f (k+1) x%256=f (x%256):=by
 have:=hf (x%256) (Nat.mod_lt _ (by decide));simp only[sR];omega
theorem w6(f g:Nat→Nat)(hf:∀d,d<256→f d<256):∀(k x:Nat),sR g k (sR f k x)=sR (fun d=>g (f d)) k x
 |0,_=>rfl
 |k+1,x=>by
  obtain⟨h1,h2⟩:=OT f hf k x;have ih:=w6 f g hf k (x/256)
  show 256*sR g k (sR f (k+1) x/256)+g (sR f (k+1) x%256)=_
  rw[h1,h2,ih];rfl
theorem P2:∀d,d<256→b1 d<256:=by decide+kernel
theorem Mr:∀d,d<256→b2 (b1 d)≤68∧b2 (b1 d)%16≤4:=by decide+kernel
theorem YL:∀d,d<256→b3 (b2 (b1 d))=dD 8 d:=by decide+kernel
theorem TJ:∀d,d<256→d &&& 85=d%128 &&& 85:=by decide+kernel
theorem TK:∀d,d<256→d &&& 51=d%64 &&& 51:=by decide+kernel
theorem P3:∀d,d<256→d &&& 15=d%16:=by decide+kernel
theorem Rs(c e:Nat)(hc:c<2)(he:e<128):128*c+e &&& 85=e &&& 85:=by
 rw[TJ _ (by omega),Nat.mul_add_mod,Nat.mod_eq_of_lt he]
theorem Rt(c e:Nat)(hc:c<4)(he:e<64):64*c+e &&& 51=e &&& 51:=by
 rw[TK _ (by omega),Nat.mul_add_mod,Nat.mod_eq_of_lt he]
theorem P4:∀(k x:Nat),x<256^k→(x/2 &&& vc 85 k)+(x &&& vc 85 k)=sR b1 k x
 |0,x,h=>by simp at h;subst h;rfl
 |k+1,x,h=>by
  have hy:x/256<256^k:=by rw[Nat.pow_succ] at h;exact Nat.div_lt_of_lt_mul (by omega)
  have ih:=P4 k (x/256) hy;have hx:x=256*(x/256)+x%256:=(Nat.div_add_mod x 256).symm;have hd:=Nat.mod_lt x (show 0<256 by decide);generalize x/256=y at*;generalize x%256=d at*;subst hx;have e1:(256*y+d)/2=256*(y/2)+(128*(y%2)+d/2):=by omega
  rw[e1];simp only[vc];rw[pE _ _ _ _ (by omega) (by decide),pE _ _ _ _ hd (by decide),Rs _ _ (by omega) (by omega)]
  show _=256*sR b1 k ((256*y+d)/256)+b1 ((256*y+d)%256)
  rw[show(256*y+d)/256=y by omega,show(256*y+d)%256=d by omega,←ih];unfold b1;omega
theorem P5:∀(k x:Nat),x<256^k→(x/4 &&& vc 51 k)+(x &&& vc 51 k)=sR b2 k x
 |0,x,h=>by simp at h;subst h;rfl
 |k+1,x,h=>by
  have hy:x/256<256^k:=by rw[Nat.pow_succ] at h;exact Nat.div_lt_of_lt_mul (by omega)
  have ih:=P5 k (x/256) hy;have hx:x=256*(x/256)+x%256:=(Nat.div_add_mod x 256).symm;have hd:=Nat.mod_lt x (show 0<256 by decide);generalize x/256=y at*;generalize x%256=d at*;subst hx;have e1:(256*y+d)/4=256*(y/4)+(64*(y%4)+d/4):=by omega
  rw[e1];simp only[vc];rw[pE _ _ _ _ (by omega) (by decide),pE _ _ _ _ hd (by decide),Rt _ _ (by omega) (by omega)]
  show _=256*sR b2 k ((256*y+d)/256)+b2 ((256*y+d)%256)
  rw[show(256*y+d)/256=y by omega,show(256*y+d)%256=d by omega,←ih];unfold b2;omega
def okB:Nat→Nat→Prop
 |0,_=>True
 |k+1,x=>(x%256≤68∧x%16≤4)∧okB k (x/256)
theorem P6:∀(k x:Nat),x<256^k→okB k x→(x/16+x) &&& vc 15 k=sR b3 k x
 |0,x,h,_=>by simp at h;subst h;rfl
 | k+1,x,h,ho=>by
  have hy:x/256<256^k:=by rw[Nat.pow_succ] at h;exact Nat.div_lt_of_lt_mul (by omega)
  have ih:=P6 k (x/256) hy ho.2;have OP:k=0→x/256=0:=fun e=>by subst e;simp at hy;omega
  have EP:x/256%16≤4:=by
   cases k with
   |zero=>rw[OP rfl];decide
   |succ k=>exact ho.2.1.2
  have Ey:=ho.1.1;have hx:x=256*(x/256)+x%256:=(Nat.div_add_mod x 256).symm;have hd:=Nat.mod_lt x (show 0<256 by decide);generalize x/256=y at*;generalize x%256=d at*;subst hx;have e1:(256*y+d)/16+(256*y+d)=256*(y/16+y)+(16*(y%16)+d/16+d):=by omega
  rw[e1];simp only[vc];rw[pE _ _ _ _ (by omega) (by decide),P3 _ (by omega)]
  show _=256*sR b3 k ((256*y+d)/256)+b3 ((256*y+d)%256)
  rw[show(256*y+d)/256=y by omega,show(256*y+d)%256=d by omega,←ih];unfold b3;rw[P3 _ (by omega)];omega
theorem Ms:∀(k x:Nat),okB k (sR (fun d=>b2 (b1 d)) k x)
 |0,_=>trivial
 |k+1,x=>by
  have hb:=Mr (x%256) (Nat.mod_lt _ (by decide));have ih:=Ms k (x/256);generalize hf:(fun d=>b2 (b1 d))=f at*;have hfx:f (x%256)=b2 (b1 (x%256)):=by rw[←hf]
  have e1:sR f (k+1) x/256=sR f k (x/256):=by simp only[sR];omega
  refine⟨by simp only[sR];omega,?_⟩;rw[e1];exact ih
theorem FL(f:Nat→Nat)(hf:∀d,d<256→f d<256):∀(k x:Nat),sR f k x<256^k
 |0,_=>by simp[sR]
 |k+1,x=>by
  have ih:=FL f hf k (x/256);have:=hf (x%256) (Nat.mod_lt _ (by decide));simp only[sR,Nat.pow_succ];omega
theorem CZ(i j a:Nat):dD (i+j) a=dD i a+dD j (a/2^i):=by
 induction j with
 |zero=>rfl
 |succ j ih=>
  show dD (i+j) a+OJ (a.testBit (i+j))=dD i a+(dD j (a/2^i)+OJ ((a/2^i).testBit j))
  rw[ih,Nat.testBit_div_two_pow,Nat.add_assoc,Nat.add_comm j i]
theorem Mt(i a:Nat):dD i (a%2^i)=dD i a:=by
 have key:∀j,j≤i→dD j (a%2^i)=dD j a:=by
  intro j
  induction j with
  |zero=>intro _;rfl
  |succ j ih=>
   intro h;simp only[dD];rw[ih (by omega),Nat.testBit_mod_two_pow];simp[show j<i by omega]
 exact key i (Nat.le_refl _)
def Ru:Nat→Nat→Nat
 |0,_=>0
 |k+1,x=>dD 8 (x%256)+Ru k (x/256)
theorem C2:∀(k x:Nat),Ru k x=dD (8*k) x
 |0,_=>rfl
 |k+1,x=>by
  rw[show 8*(k+1)=8+8*k by omega,CZ];simp only[Ru];rw[C2 k,←Mt 8 x]
theorem mC(d:Nat):dD 8 d≤8:=vv 8 d
theorem rH(s m:Nat)(h:s<256):(s+256*m)/256=m:=by omega
theorem Rv{c0 c1 c2 c3 c4 c5 c6 c7 k1 k2 k3 k4 k5 k6 k7:Nat}(h0:c0≤8)(h1:c1≤8)(h2:c2≤8)(h3:c3≤8)(h4:c4≤8)(h5:c5≤8)(h6:c6≤8)(h7:c7≤8){v v1 v2:Nat}
    (e7:k7=c7) (e6:k6=c6+256*k7) (e5:k5=c5+256*k6) (e4:k4=c4+256*k5) (e3:k3=c3+256*k4) (e2:k2=c2+256*k3) (e1:k1=c1+256*k2) (hv:v=c0+256*k1) (Si:v1=v+v/256) (JV:v2=v1+v1/65536):
    (v2+v2/4294967296)%128=c0+c1+c2+c3+c4+c5+c6+c7∧v2+v2/4294967296<9223372036854775808∧v<1229782938247303442:=by
  have dv:v/256=k1:=by rw[hv];exact rH _ _ (by omega)
  have w1:v1=(c0+c1)+256*((c1+c2)+256*(k2+k3)):=by rw[Si,dv,hv];clear JV Si dv;omega
  have d1:v1/65536=k2+k3:=by
    rw[show(65536:Nat)=256*256 from rfl,←Nat.div_div_eq_div_mul,w1,rH _ _ (by omega),rH _ _ (by omega)]
  have w2:v2=(c0+c1+c2+c3)+256*((c1+c2+c3+c4)+256*((c2+c3+c4+c5)+256*((c3+c4+c5+c6)+256*(k4+k5+k6+k7)))):=by
    rw[JV,d1,w1];clear JV Si dv d1 w1 hv;omega
  have d2:v2/4294967296=k4+k5+k6+k7:=by
    rw[show(4294967296:Nat)=256*256*256*256 from rfl,←Nat.div_div_eq_div_mul,←Nat.div_div_eq_div_mul,←Nat.div_div_eq_div_mul,w2,rH _ _ (by omega),rH _ _ (by omega),rH _ _ (by omega),rH _ _ (by omega)]
  rw[d2];clear d2 d1 dv Si JV w1;refine⟨?_,?_,?_⟩
  · have:v2+(k4+k5+k6+k7)=(c0+c1+c2+c3+c4+c5+c6+c7)+128*(2*(((c1+c2+c3+c4)+256*((c2+c3+c4+c5)+256*((c3+c4+c5+c6)+256*(k4+k5+k6+k7))))+(k5+k6+k7))):=by
      rw[w2];clear w2 hv e1 e2 e3;omega
    rw[this,Nat.add_mul_mod_self_left,Nat.mod_eq_of_lt (by omega)]
  · rw[w2];clear w2 hv;omega
  · clear w2;omega
theorem Rw{x y1 y2 y3 v1 v2:Nat}(hx:x<18446744073709551616)(h1:y1=(x/2 &&& 6148914691236517205)+(x &&& 6148914691236517205))(h2:y2=(y1/4 &&& 3689348814741910323)+(y1 &&& 3689348814741910323))
    (h3:y3=(y2/16+y2) &&& 1085102592571150095) (h4:v1=y3+y3/256) (h5:v2=v1+v1/65536):
    y1<18446744073709551616∧y2<18446744073709551616∧y2/16+y2<18446744073709551616∧y3<1229782938247303442∧(v2+v2/4294967296)%128=dD 64 x∧v2+v2/4294967296<9223372036854775808:=by
  have m1:vc 85 8=6148914691236517205:=by decide
  have m2:vc 51 8=3689348814741910323:=by decide
  have m3:vc 15 8=1085102592571150095:=by decide
  have p8:256^8=18446744073709551616:=by decide
  have g1:y1=sR b1 8 x:=by rw[h1,←m1];exact P4 8 x (by omega)
  have l1:y1<256^8:=by rw[g1];exact FL b1 P2 8 x
  have g2:y2=sR (fun d=>b2 (b1 d)) 8 x:=by rw[h2,←m2,P5 8 y1 l1,g1];exact w6 b1 b2 P2 8 x
  have lf:∀d,d<256→(fun d=>b2 (b1 d)) d<256:=fun d hd=>by have:=(Mr d hd).1;show b2 (b1 d)<256;omega
  have l2:y2<256^8:=by rw[g2];exact FL _ lf 8 x
  have o2:okB 8 y2:=by rw[g2];exact Ms 8 x
  have g3:y3=sR (fun d=>b3 (b2 (b1 d))) 8 x:=by rw[h3,←m3,P6 8 y2 l2 o2,g2];exact w6 (fun d=>b2 (b1 d)) b3 lf 8 x
  have top:y2/72057594037927936≤68:=by
    have o3:y2/256/256/256/256/256/256/256%256≤68:=o2.2.2.2.2.2.2.2.1.1;omega
  have hs:dD 64 x=dD 8 (x%256)+(dD 8 (x/256%256)+(dD 8 (x/256/256%256)+(dD 8 (x/256/256/256%256)+(dD 8 (x/256/256/256/256%256)+(dD 8 (x/256/256/256/256/256%256)+(dD 8 (x/256/256/256/256/256/256%256)+(dD 8 (x/256/256/256/256/256/256/256%256)+0))))))):=(C2 8 x).symm;have q:∀z,b3 (b2 (b1 (z%256)))=dD 8 (z%256):=fun z=>YL _ (Nat.mod_lt _ (by decide))
  have hy:y3=256*(256*(256*(256*(256*(256*(256*(256*0+dD 8 (x/256/256/256/256/256/256/256%256))+dD 8 (x/256/256/256/256/256/256%256))+dD 8 (x/256/256/256/256/256%256))+dD 8 (x/256/256/256/256%256))+dD 8 (x/256/256/256%256))+dD 8 (x/256/256%256))+dD 8 (x/256%256))+dD 8 (x%256):=by
    rw[g3];simp only[sR,q]
  have c0:=mC (x%256);have c1:=mC (x/256%256);have c2:=mC (x/256/256%256);have c3:=mC (x/256/256/256%256)
  have c4:=mC (x/256/256/256/256%256);have c5:=mC (x/256/256/256/256/256%256);have c6:=mC (x/256/256/256/256/256/256%256);have c7:=mC (x/256/256/256/256/256/256/256%256)
  clear g1 g2 g3 o2 lf q h1 h2 h3 m1 m2 m3;generalize dD 8 (x%256)=d0 at*;generalize dD 8 (x/256%256)=d1 at*;generalize dD 8 (x/256/256%256)=d2 at*;generalize dD 8 (x/256/256/256%256)=d3 at*;generalize dD 8 (x/256/256/256/256%256)=d4 at*;generalize dD 8 (x/256/256/256/256/256%256)=d5 at*;generalize dD 8 (x/256/256/256/256/256/256%256)=d6 at*;generalize dD 8 (x/256/256/256/256/256/256/256%256)=d7 at*;obtain⟨k1,k2,k3⟩:=Rv c0 c1 c2 c3 c4 c5 c6 c7 (v:=y3) (k7:=d7) (k6:=d6+256*d7) (k5:=d5+256*(d6+256*d7)) (k4:=d4+256*(d5+256*(d6+256*d7))) (k3:=d3+256*(d4+256*(d5+256*(d6+256*d7)))) (k2:=d2+256*(d3+256*(d4+256*(d5+256*(d6+256*d7))))) (k1:=d1+256*(d2+256*(d3+256*(d4+256*(d5+256*(d6+256*d7)))))) rfl rfl rfl rfl rfl rfl rfl (by rw[hy];clear hy;omega) h4 h5;refine⟨by clear hy;omega,by clear hy;omega,?_,k3,?_,k2⟩
  · clear hy hs k1 k2 k3 c0 c1 c2 c3 c4 c5 c6 c7 h4 h5
    rw[p8] at l2;omega
  · rw[k1,hs];clear hy hs k1 k2 k3;omega
open Classical in
noncomputable def P7(p:Prop):Nat:=if p then 1 else 0
variable {p:Prop}
theorem Ip(h:p):P7 p=1:=by unfold P7;rw[if_pos h]
theorem Iq(h:¬p):P7 p=0:=by unfold P7;rw[if_neg h]
variable {n:Nat} {A:Nat} {B:Nat}
theorem ck{op:Int}(h:fL n op A B↔p):wR n op A B=P7 p:=by
 unfold wR P7;by_cases hp:p
 · rw[if_pos (h.2 hp),if_pos hp]
 · rw[if_neg (fun h'=>hp (h.1 h')),if_neg hp]
theorem Mu{k:Nat}(hA:A<2^n)(hk:k≤n):(A*2^k%2^n)|||(A/2^(n-k))=rD n A k:=by
 have hp:2^n=2^(n-k)*2^k:=by rw[←Nat.pow_add];congr 1;omega
 have h1:A*2^k%2^n=2^k*(A%2^(n-k)):=by rw[hp,Nat.mul_mod_mul_right,Nat.mul_comm]
 have h2:A/2^(n-k)<2^k:=by
  rw[Nat.div_lt_iff_lt_mul (Nat.two_pow_pos _),Nat.mul_comm,←hp];exact hA
 unfold rD;rw[h1,Nat.two_pow_add_eq_or_of_lt h2]
theorem TL(k:Int):(k%18446744073709551616).toNat &&& 31=(k%32).toNat:=by
 rw[show(31:Nat)=2^5-1 from rfl,Nat.and_two_pow_sub_one_eq_mod];omega
theorem TM(k:Int):(k%18446744073709551616).toNat &&& 63=(k%64).toNat:=by
 rw[show(63:Nat)=2^6-1 from rfl,Nat.and_two_pow_sub_one_eq_mod];omega
theorem Rx(v:Nat):v &&& 127=v%128:=by
 rw[show(127:Nat)=2^7-1 from rfl,Nat.and_two_pow_sub_one_eq_mod]
def Mv:List UInt8:=(List.range 256).map fun i=>UInt8.ofNat (tj i)
theorem TN:∀i,i<256→(UInt8.ofNat (tj i)).toNat=tj i:=by decide+kernel
theorem OU{x:Nat}(h:x<256):Mv[x]?=some (UInt8.ofNat (tj x)):=by simp[Mv,h]
def rI(f t:Nat)(s:Prop)[Decidable s](a:Nat):Nat:=if s∧2^(f-1)≤a%2^f then a%2^f+2^t-2^f else a%2^f
variable {a:Nat} {f:Nat} {t:Nat}
theorem TO(hf:f=8∨f=16∨f=32):a*2^(64-f)%18446744073709551616/2^(64-f)=a%2^f:=by
 rcases hf with rfl|rfl|rfl<;>omega
theorem TP(hf:f=8∨f=16∨f=32)(ht:t=32∨t=64):((IntKind.i64.wrap (((a*2^(64-f)%18446744073709551616:Nat)):Int)/2^(64-f))%18446744073709551616).toNat%2^t=rI f t True a:=by
 rw[IntKind.wrap_i64];unfold rI;rcases hf with rfl|rfl|rfl<;>rcases ht with rfl|rfl<;>simp only[true_and]<;>split<;>omega
theorem OV(h:B%n<n):rD n A (((B%n:Nat):Int)%(n:Int)).toNat=rD n A (B%n):=by
 rw[Int.emod_eq_of_lt (by omega) (by omega)];rfl
theorem OW(h:B%n<n):rD n A ((-((B%n:Nat):Int))%(n:Int)).toNat=rD n A ((n-B%n)%n):=by
 congr 1
 generalize B%n=k at*;by_cases h0:k=0
 · rw[h0];simp
 · rw[Nat.mod_eq_of_lt (by omega)]
   have:(-((k:Nat):Int))%(n:Int)=(n:Int)-((k:Nat):Int):=by
    rw[←Int.add_emod_right,Int.emod_eq_of_lt (by omega) (by omega)];omega
   rw[this];omega
theorem Ir{op:Int}(h0:lM n op A B=0)(h:3≤op)(h7:op<7):B≠0:=by
 intro hb;unfold lM at h0;rw[if_neg (by omega),if_pos hb] at h0;exact absurd h0 (by decide)
theorem Ry(h:a<18446744073709551616):Lib.ctz 64 a≤64:=by
 by_cases h0:a=0
 · subst h0;exact Nat.le_refl _
 · exact Nat.le_of_lt (Lib.lowest_bit 64 a h0 h).2
theorem TQ(hn:n≤64)(h:a<2^n):dD 64 a=dD n a:=by
 obtain⟨j,hj⟩:∃j,64=n+j:=⟨64-n,by omega⟩;rw[hj,CZ,Nat.div_eq_of_lt h];have:∀j,dD j 0=0:=fun j=>(sM j 0).2 (Nat.zero_mod _);rw[this];rfl
theorem sS(A:Nat):P7 ((A:Int)=0)=if A=0 then 1 else 0:=by
 by_cases h:A=0
 · rw[Ip (by omega),if_pos h]
 · rw[Iq (by omega),if_neg h]
theorem OX{s:Prop}[Decidable s](h:s):rI f t s a=rI f t True a:=by simp[rI,h]
theorem OY{s:Prop}[Decidable s](h:¬s):rI f t s a=a%2^f:=by simp[rI,h]
end Go.Hl
end
section
namespace Go.Hl
open Go.RowKit Classical
noncomputable section
structure C3 where
 kind:Nat
 res:List Nat
 TR:Nat
 imp:Nat
 err:Nat
def YM:C3:=⟨0,[],0,0,0⟩
structure mU where
 to:Int
 keep:Int
 height:Int
structure gE where
 body:nh
 sig:nc
 locals:Nat
 kJ:Int
 jumps:List (cP×mU)
 sU:List (Int×Int)
def gE.jump(d:gE)(at_ k:Int):mU:=(br d.jumps (at_,k)).getD ⟨0,0,0⟩
def gE.skip(d:gE)(at_:Int):Int:=(br d.sU at_).getD 0
structure eU where
 m:aR
 cells:Nat
 frames:Nat
 own:List gE
def eU.made(K:eU)(i:Nat):gE:=(K.own[i]?).getD ⟨⟨[],[]⟩,⟨[],[]⟩,0,0,[],[]⟩
def eU.cH(K:eU):Nat:=K.m.av.length
def eU.sig(K:eU)(f:Nat):nc:=if f<K.cH then((K.m.av[f]?).map fun i=>bC K.m i.gq).getD ⟨[],[]⟩ else((K.m.aB[f-K.cH]?).map fun g=>bC K.m g.gq).getD ⟨[],[]⟩
structure cg where
 stk:List Nat
 cN:List jx
 gl:List Nat
 tb:List Nat
 ms:List Tt
 co:Cont
 mm:Nat
structure mV where
 fuel:Nat
 bN:Nat
 waits:Bool
 host:Nat
 fault:Nat
 lE:Int×Int
 out:C3
 over:Bool
abbrev bl:=mV×cg
section
variable (K:eU) (Z:Nat)
def aC(c:cg):Nat×cg:=(c.stk.getLast?.getD 0,{c with stk:=c.stk.dropLast})
def dX(l:List Nat)(c:cg):cg:=if l.length≤K.cells-c.stk.length then{c with stk:=c.stk++l} else c
def iJ(n:Nat)(c:cg):List Nat×cg:=if n≤c.stk.length then(c.stk.drop (c.stk.length-n),{c with stk:=c.stk.take (c.stk.length-n)}) else([],c)
def sV(keep height:Int)(c:cg):cg:=if (0≤keep∧0≤height)∧height≤(c.stk.length:Int)∧keep≤(c.stk.length:Int)-height then{c with stk:=c.stk.take height.toNat++c.stk.drop (c.stk.length-keep.toNat)} else c
def bt(c:cg):jx:=c.cN.getLast?.getD ⟨0,0,0⟩
def vz(p:Int)(c:cg):cg:=if c.cN=[]∨p<0∨4294967295<p then c else{c with cN:=c.cN.dropLast++[⟨(bt c).fn,p.toNat,(bt c).bs⟩]}
def ve(i:Nat)(c:cg):Nat:=(c.stk[i]?).getD 0
def Mw(i v:Nat)(c:cg):cg:={c with stk:=c.stk.set i v}
def qF(o:C3)(s:bl):bl:=
 ({s.1 with out:=o,over:=true,fault:=if o.kind=3 then o.err else s.1.fault},if o.kind=0∨o.kind=1 then{s.2 with stk:=[],cN:=[]} else s.2)
def mD(e:Nat)(s:bl):bl:=qF ⟨3,[],0,0,e⟩ s
def mF(t:Nat)(s:bl):bl:=qF ⟨1,[],t,0,0⟩ s
def yh(t e:Nat)(s:bl):bl:=if e≠0 then mD e s else if t≠0 then mF t s else s
def iT(f:Nat)(s:bl):bl:=
 if f<K.cH then qF ⟨2,(iJ (K.sig f).P.length s.2).1,0,f,0⟩ ({s.1 with waits:=true,host:=f},(iJ (K.sig f).P.length s.2).2)
 else
  let x:=K.made (f-K.cH)
  let base:Int:=(s.2.stk.length:Int)-((K.sig f).P.length:Int)
  if (K.cells:Int)<base+x.kJ∨base<0∨s.2.cN.length=K.frames then mD 11 s
  else({s.1 with lE:=(max s.1.lE.1 (base+x.kJ),max s.1.lE.2 ((s.2.cN.length:Int)+1))},dX K (List.replicate (x.locals-(K.sig f).P.length) 0) {s.2 with cN:=s.2.cN++[⟨f-K.cH,0,base.toNat⟩]})
def js(s:bl):bl:=
 let f:=bt s.2
 let n:=(K.made f.fn).sig.R.length
 let c:=sV (n:Int) (f.bs:Int) {s.2 with cN:=s.2.cN.dropLast}
 if c.cN=[] then qF ⟨0,(iJ n c).1,0,0,0⟩ (s.1,(iJ n c).2) else(s.1,c)
def uH(at_:Nat)(k:Int)(c:cg):cg:=
 let f:=bt c
 let x:=K.made f.fn
 let j:=x.jump (at_:Int) k
 vz j.to (sV j.keep ((f.bs:Int)+(x.locals:Int)+j.height) c)
def zI(at_:Nat)(c:cg):cg:=vz ((K.made (bt c).fn).skip (at_:Int)) c
def pF(x:aq)(s:bl):bl:=
 let n:=(aC s.2).1
 let c:=(aC s.2).2
 let v:=(c.tb[n]?).getD 0
 if v=0 then mF 5 (s.1,c)
 else if K.sig (v-1)=(K.m.cY[x.A.toNat]?).getD ⟨[],[]⟩ then iT K (v-1) (s.1,c) else mF 6 (s.1,c)
def aW(x:aq)(at_:Nat)(s:bl):Option bl:=
 if x.Code=0 then some (mF 1 s)
 else if x.Code=4 then some (s.1,if (aC s.2).1=0 then zI K at_ (aC s.2).2 else(aC s.2).2)
 else if x.Code=5 then some (s.1,zI K at_ s.2)
 else if x.Code=12 then some (s.1,uH K at_ 0 s.2)
 else if x.Code=13 then some (s.1,if (aC s.2).1≠0 then uH K at_ 0 (aC s.2).2 else(aC s.2).2)
 else if x.Code=14 then some (s.1,uH K at_ ((min (aC s.2).1 x.L.length:Nat):Int) (aC s.2).2)
 else if x.Code=15 then some (js K s)
 else if x.Code=16 then some (iT K x.A.toNat s)
 else if x.Code=17 then some (pF K x s)
 else none
def pG(x:aq)(c:cg):Nat:=(bt c).bs+x.A.toNat
def bf(x:aq)(c:cg):Option cg:=
 if x.Code=26 then some (aC c).2
 else if x.Code=27 then
  let c1:=(aC c).2;let c2:=(aC c1).2;let c3:=(aC c2).2
  some (dX K [if (aC c).1=0 then(aC c1).1 else(aC c2).1] c3)
 else if x.Code=32 then some (dX K [ve (pG x c) c] c)
 else if x.Code=33 then some (Mw (pG x (aC c).2) (aC c).1 (aC c).2)
 else if x.Code=34 then some (dX K [(aC c).1] (Mw (pG x (aC c).2) (aC c).1 (aC c).2))
 else if x.Code=35 then some (dX K [(c.gl[x.A.toNat]?).getD 0] c)
 else if x.Code=36 then some {(aC c).2 with gl:=(aC c).2.gl.set x.A.toNat (o7 (Av K.m x.A.toNat).Ty (aC c).1)}
 else none
def dY(c:Int):mq:=(dy c).getD LR
def iM(c:Int):Nat:=if (dY c).o9=[126] then 64 else 32
def FN(c:cg)(i:Int):Tt:=(c.ms[i.toNat]?).getD ⟨0,0,0,0,False⟩
def TS(code:Int)(b:List UInt8):Nat:=if b.length*8=iM code then oI b else rI (b.length*8) (iM code) ((dY code).Name.getLast?=some 115) (oI b)
def Rz(x:aq)(n:Nat)(s:bl):bl:=
 let a:=(aC s.2).1
 let c:=(aC s.2).2
 let M:=FN c x.A
 let w:=(Fb M.pages a x.B.toNat (n:Int)).2
 if w=(0,0) then(s.1,dX K [TS x.Code (Tr Z c.co M.num (a+x.B.toNat) n)] c) else yh w.1 w.2 (s.1,c)
def OZ(x:aq)(n:Nat)(s:bl):bl:=
 let v:=(aC s.2).1
 let c1:=(aC s.2).2
 let a:=(aC c1).1
 let c:=(aC c1).2
 let M:=FN c x.A
 let w:=(Fb M.pages a x.B.toNat (n:Int)).2
 yh w.1 w.2 (s.1,{c with co:=if w=(0,0) then YA Z c.co M.num (a+x.B.toNat) (kO v n) else c.co,mm:=c.mm+(n/Z+2)})
def TT(pages a n:Nat):Nat×Nat:=if sx pages a n then(4,0) else if 1048576<n then(0,15) else(0,0)
def RA(p q t a n:Nat):Nat×Nat:=if sx p t n∨sx q a n then(4,0) else if 1048576<n then(0,15) else(0,0)
def TU(old:Nat)(ok tq:Prop)[Decidable ok][Decidable tq]:Nat:=if ok then old else if tq then 18446744073709551615 else 4294967295
def TV(x:aq)(s:bl):bl:=
 let n:=(aC s.2).1
 let c:=(aC s.2).2
 let M:=FN c x.A
 let g:=Tu M n
 (s.1,dX K [TU g.2.1 (g.2.2=true) M.wide] {c with ms:=c.ms.set x.A.toNat g.1})
def C4(x:aq)(s:bl):bl:=
 let n:=(aC s.2).1
 let c1:=(aC s.2).2
 let v:=(aC c1).1
 let c2:=(aC c1).2
 let a:=(aC c2).1
 let c:=(aC c2).2
 let M:=FN c x.A
 let w:=TT M.pages a n
 yh w.1 w.2 (s.1,if w=(0,0) then{c with co:=YA Z c.co M.num a (List.replicate n (UInt8.ofNat v)),mm:=c.mm+(n/Z+2)} else c)
def C5(x:aq)(s:bl):bl:=
 let n:=(aC s.2).1
 let c1:=(aC s.2).2
 let a:=(aC c1).1
 let c2:=(aC c1).2
 let t:=(aC c2).1
 let c:=(aC c2).2
 let M:=FN c x.A
 let F:=FN c x.B
 let w:=RA M.pages F.pages t a n
 yh w.1 w.2 (s.1,if w=(0,0) then{c with co:=YA Z c.co M.num t (Tr Z c.co F.num a n),mm:=c.mm+(n/Z+2)} else c)
def fq(x:aq)(s:bl):Option bl:=
 if (dY x.Code).Form=8∨(dY x.Code).Form=9∨(dY x.Code).Form=10 then
  match iC x.Code with
  |some n=>some (if x.Code<54 then Rz K Z x n.toNat s else OZ Z x n.toNat s)
  |none=>some (if x.Code=63 then(s.1,dX K [(FN s.2 x.A).pages] s.2) else if x.Code=64 then TV K x s else if x.Code=64523 then C4 Z x s else if x.Code=64522 then C5 Z x s else s)
 else none
def au(c:Int):Nat×Prop:=
 if c=172∨c=173∨c=196 then(32,c≠173) else if c=192∨c=194 then(8,True) else if c=193∨c=195 then(16,True) else(0,False)
def cJ(x:aq)(s:bl):Option bl:=
 match kS x.Code with
 |none=>none
 | some (g,n,bits)=>
  let b:=(aC s.2).1
  let c:=(aC s.2).2
  let w:=bits.toNat
  if g=2 then some (s.1,dX K [TC w n (b%2^w)] c)
  else
   let a:=(aC c).1
   let c2:=(aC c).2
   if g=1 then some (s.1,dX K [wR w n (a%2^w) (b%2^w)] c2)
   else if lM w n (a%2^w) (b%2^w)≠0 then some (mF (lM w n (a%2^w) (b%2^w)).toNat (s.1,c2))
   else some (s.1,dX K [CN w n (a%2^w) (b%2^w)] c2)
def cF(x:aq)(s:bl):Option bl:=
 if (dY x.Code).Form=11 then some (s.1,dX K [x.A.toNat] s.2)
 else if x.Code=167 then some (s.1,dX K [(aC s.2).1%4294967296] (aC s.2).2)
 else if 0<(au x.Code).1 then some (s.1,dX K [rI (au x.Code).1 (iM x.Code) (au x.Code).2 (aC s.2).1] (aC s.2).2)
 else cJ K x s
def bZ(x:aq)(c:cg):Nat:=if x.Code=64523∨x.Code=64522 then 1+ve (c.stk.length-1) c/64 else 1
def zJ(x:aq)(at_:Nat)(s:bl):bl:=
 match aW K x at_ s with
 |some s'=>s'
 | none=>match bf K x s.2 with
  |some c=>(s.1,c)
  |none=>match fq K Z x s with
   |some s'=>s'
   |none=>(cF K x s).getD s
def eE(s:bl):bl:=
 let f:=bt s.2
 match (K.made f.fn).body.L[f.pl]? with
 |none=>js K s
 |some x=>
  if s.1.fuel<bZ x s.2 then mD 10 s
  else zJ K Z x f.pl ({s.1 with fuel:=s.1.fuel-bZ x s.2,bN:=s.1.bN+bZ x s.2},vz ((f.pl:Int)+1) s.2)
def bM:Nat→bl→bl
 |0,s=>s
 |n+1,s=>if s.1.over then s else bM n (eE K Z s)
end
def eG:List UInt8→List Nat→List Nat
 |t::ts,v::vs=>o7 t v::eG ts vs
 |_,_=>[]
def eV(K:eU)(fuel:Nat)(f:Nat)(args:List Nat)(s:bl):bl:=
 let vs:=eG (K.sig f).P args
 let s0:bl:=({s.1 with fuel:=fuel,over:=false},s.2)
 if K.cells-s.2.stk.length<vs.length then mD 11 s0 else iT K f (s0.1,{s.2 with stk:=s.2.stk++vs})
end
end Go.Hl
end
section
namespace Go.Hl
open Go.RowKit
section
variable {P:Program} {f:FuncId} {ps:List VP} {hs qP r:List HP} {γ:Type} {φ:γ→Prop} {hs':γ→List HP} {q:γ→VP}
theorem bk.frame(h:bk P f ps hs φ hs' q)(r:List HP):bk P f ps (hs++r) φ (fun g=>hs' g++r) q:=by
 intro w S F vs hS hF hSF hown hall;obtain⟨F1,F2,h1,h2,h3,h4⟩:=cT.append.1 hown;refine Calls.mono (h w S F1 vs hS (fun k hk=>hF k (h1 k hk).1) (fun k hk hf=>hSF k hk (h1 k hf).1) h3 hall) fun e w' hr=>?_;obtain⟨v,S',F',g,k1,k2,k3,k4,k5⟩:=hr;have ax:ir ⟨w,S,F,0,none,[]⟩ w S F:=⟨rfl,rfl,rfl,Nat.le_refl _,fun _ _ _=>rfl,hSF,hS,hF,fun k hk=> .inl hk,fun k hk=> .inl hk,fun _ hk=>hk⟩;have:=ir.over ax h1 h2 h4 k2 k4;exact⟨v,S',_,g,k1,this.1,k3,this.2.2.2,k5⟩
theorem bk.pre(h:bk P f ps qP φ hs' q)(hl:aA hs qP):bk P f ps hs φ hs' q:=fun w S F vs h1 h2 h3 h4 h5=>h w S F vs h1 h2 h3 (hl _ _ _ h4) h5
theorem bk.opens{α:Type}{g:α→HP}(h:∀a,bk P f ps (g a::r) φ hs' q):bk P f ps (NZ g::r) φ hs' q:=fun w S F vs h1 h2 h3 ⟨F1,F2,f1,f2,⟨a,ha⟩,f4⟩ h5=>h a w S F vs h1 h2 h3 ⟨F1,F2,f1,f2,ha,f4⟩ h5
theorem bk.eY{p:Prop}(h:p→bk P f ps r φ hs' q):bk P f ps (Go.Hl.eY p::r) φ hs' q:=fun w S F vs h1 h2 h3 ⟨F1,F2,f1,f2,hp,f4⟩ h5=>h hp w S F vs h1 h2 h3 (f4.mono f2 (fun _ h=>h) (fun _ _=>rfl) (fun _ _=>rfl)) h5
theorem bk.unpack{l:List HP}(h:bk P f ps (l++r) φ hs' q):bk P f ps (ku l::r) φ hs' q:=h.pre aA.unpack
theorem bk.post{δ:Type}{ψ:δ→Prop}{ks:δ→List HP}{p:δ→VP}(h:bk P f ps hs φ hs' q)(d:γ→δ)(hψ:∀g,φ g→ψ (d g))(ho:∀g,φ g→aA (hs' g) (ks (d g)))(hq:∀g,φ g→ag (q g) (p (d g))):bk P f ps hs ψ ks p:=fun w S F vs h1 h2 h3 h4 h5=>
 Calls.mono (h w S F vs h1 h2 h3 h4 h5) fun e w' ⟨v,S',F',g,k1,k2,k3,k4,k5⟩=>⟨v,S',F',d g,k1,k2,hψ g k3,ho g k3 _ _ _ k4,hq g k3 _ _ _ k5⟩
end
structure qG where
 X:m7
 pb:Nat
 a0:cS
 sb:Nat
 kb:Nat
 fb:Nat
 bs:List Nat
 num:Int
 g0:Nat
 t0:Nat
 k0:Nat
 f0:Nat
 Z:Nat
 ex:List Tt→Cont→Nat→HP
structure lZ(A:qG)(K:eU):Prop where
 gt:A.g0+8*K.m.aH.length≤A.t0
 tk:A.t0+4*fB K.m≤A.k0
 kf:A.k0+8*K.cells≤A.f0
 fx:A.f0+12*K.frames≤A.X.size
 gl:K.m.aH.length≤60000
 cells:K.cells≤65536
 frames:K.frames≤10000
 z:0<A.Z∧A.Z≤1024
 bits:∀z∈K.m.aH,eC z.Ty=32∨eC z.Ty=64
def Mx(a:cS)(at_ w:Nat)(l:List Nat):Prop:=∀i v,l[i]?=some v→oI (a.get (at_+w*i) w)=v
theorem Mx.tq{X:m7}{a a':cS}{at_ w lo hi:Nat}{l:List Nat}(h:Mx a at_ w l)(k:w5 X a a' lo hi)(hd:at_+w*l.length≤lo∨hi≤at_):Mx a' at_ w l:=fun i v hv=>by
 have h1:=(List.getElem?_eq_some_iff.1 hv).1;have h2:w*i+w≤w*l.length:=by rw[←Nat.mul_succ];exact Nat.mul_le_mul_left _ h1
 have h3:0≤w*i:=Nat.zero_le _;rw[k.tq _ _ (by omega)];exact h i v hv
structure eZ(A:qG)(K:eU)(a:cS)(c:cg):Prop where
 ok:cC A.X a
 same:mo A.a0 a
 stk:oG a A.k0 c.stk
 cN:qE a A.f0 c.cN
 gl:Mx a A.g0 8 c.gl
 tb:Mx a A.t0 4 c.tb
 sl:c.stk.length≤K.cells
 fl:c.cN.length≤K.frames
 gn:c.gl.length=K.m.aH.length
 tn:c.tb.length=fB K.m
def ny(A:qG)(K:eU)(a:cS)(c:cg):List HP:=
 [ij A.kb A.X A.k0 K.cells c.stk.length,iS A.fb A.X A.f0 K.frames c.cN.length,lX A.sb A.X A.pb K.m A.num (A.g0:Int) (A.t0:Int) (an 1 sD A.bs),tK A.X a,m6 A.X.db a.bytes,A.ex c.ms c.co c.mm]
def aM(A:qG)(K:eU)(c:cg):HP:=NZ fun a=>ku (eY (eZ A K a c)::ny A K a c)
variable {K:eU} {c:cg} {A:qG} {a:cS} {r:List HP}
theorem w7(h:eZ A K a c):aA (ny A K a c++r) (aM A K c::r):=
 (aA.pure h).trans ((aA.pack (l:=eY (eZ A K a c)::ny A K a c)).trans (aA.ex (f:=fun a=>ku (eY (eZ A K a c)::ny A K a c)) a))
variable {P:Program} {f:FuncId} {ps:List VP}
theorem bk.core{c':cg}{q':VP}
    (h:∀a,eZ A K a c→bk P f ps (ny A K a c) (γ:=cS) (fun a'=>eZ A K a' c') (fun a'=>ny A K a' c') (fun _=>q')):bk P f ps [aM A K c] (γ:=Unit) (fun _=>True) (fun _=>[aM A K c']) (fun _=>q'):=
  bk.opens fun a=>bk.unpack (bk.eY fun hV=>((h a hV).pre (aA.of_eq (List.append_nil _))).post (fun _=>()) (fun _ _=>trivial) (fun a' ha=>(aA.of_eq (List.append_nil _).symm).trans (w7 ha)) (fun _ _=>ag.refl _))
variable {γ:Type} {hs:List HP} {φ:γ→Prop} {hs':γ→List HP} {q:γ→VP}
theorem bk.Is{c':cg}{q':VP}{rest:List HP}(h:bk P f ps hs φ hs' q)(hp:(ny A K a c).Perm (hs++rest))(d:γ→cS)
    (hV:∀g,φ g→eZ A K (d g) c') (ho:∀g,φ g→aA (hs' g++rest) (ny A K (d g) c')) (hq:∀g,φ g→ag (q g) q'):bk P f ps (ny A K a c) (γ:=cS) (fun a'=>eZ A K a' c') (fun a'=>ny A K a' c') (fun _=>q'):=
  (((h.frame rest).pre (aA.perm hp)).post d hV ho hq)
structure mG(X:m7)(a:cS)(at_ n:Nat)(l:List Nat):Prop where
 ok:cC X a
 v:oG a at_ l
 le:l.length≤n
 fit:at_+8*n≤X.size
 most:n≤65536
structure lO(X:m7)(a:cS)(at_ n:Nat)(l:List jx):Prop where
 ok:cC X a
 v:qE a at_ l
 le:l.length≤n
 fit:at_+12*n≤X.size
 most:n≤10000
def kE(X:m7)(a b:cS)(at_ n:Nat)(l:List Nat):Prop:=mG X b at_ n l∧w5 X a b at_ (at_+8*n)
def jt(X:m7)(a b:cS)(at_ n:Nat)(l:List jx):Prop:=lO X b at_ n l∧w5 X a b at_ (at_+12*n)
section
variable {X:m7} {a b:cS} {at_ n k v:Nat} {l l2:List Nat} {f:jx} {m:List jx}
theorem mG.self(h:mG X a at_ n l):kE X a a at_ n l:=⟨h, .refl h.ok⟩
theorem mG.lt(h:mG X a at_ n l){v:Nat}(hv:v∈l):v<18446744073709551616:=h.v.lt hv
theorem kE.trans{c:cS}(h:kE X a b at_ n l)(k:kE X b c at_ n l2):kE X a c at_ n l2:=⟨k.1,h.2.trans k.2⟩
theorem kE.C6(h:kE X a b at_ n l)(k:Nat):kE X a b at_ n (l.take k):=⟨⟨h.1.ok,h.1.v.take k,by have:=h.1.le;rw[List.length_take];omega,h.1.fit,h.1.most⟩,h.2⟩
theorem kE.push(h:kE X a b at_ n l)(hl:l.length<n)(hv:v<18446744073709551616):kE X a (b.put (at_+8*l.length) (kO v 8)) at_ n (l++[v]):=
 have hf:=h.1.fit
 ⟨⟨rj h.1.ok (by omega),h.1.v.push h.1.ok (by omega) hv,by rw[List.length_append,List.length_singleton];omega,hf,h.1.most⟩,h.2.trans (.Rr h.1.ok (by omega) (by omega) hf)⟩
theorem kE.set(h:kE X a b at_ n l)(hl:k<l.length)(hv:v<18446744073709551616):kE X a (b.put (at_+8*k) (kO v 8)) at_ n (l.set k v):=
 have hf:=h.1.fit;have hle:=h.1.le
 ⟨⟨rj h.1.ok (by omega),h.1.v.set h.1.ok hl (by omega) hv,by rw[List.length_set];exact hle,hf,h.1.most⟩,h.2.trans (.Rr h.1.ok (by omega) (by omega) hf)⟩
theorem lO.self(h:lO X a at_ n m):jt X a a at_ n m:=⟨h, .refl h.ok⟩
theorem jt.C6(h:jt X a b at_ n m)(k:Nat):jt X a b at_ n (m.take k):=⟨⟨h.1.ok,h.1.v.take k,by have:=h.1.le;rw[List.length_take];omega,h.1.fit,h.1.most⟩,h.2⟩
theorem jt.push(h:jt X a b at_ n m)(hl:m.length<n)(hf:lN f):jt X a (sQ b (at_+12*m.length) f 3) at_ n (m++[f]):=
 have hx:=h.1.fit;have hp:=qu (f:=f) h.1.ok (x:=at_+12*m.length) (by omega) 3 (Nat.le_refl _)
 ⟨⟨hp.ok,h.1.v.push h.1.ok hf (by omega),by rw[List.length_append,List.length_singleton];omega,hx,h.1.most⟩,h.2.trans (hp.wide (by omega) (by omega))⟩
theorem jt.set(h:jt X a b at_ n m)(hl:k<m.length)(hf:lN f):jt X a (sQ b (at_+12*k) f 3) at_ n (m.set k f):=
 have hx:=h.1.fit;have hle:=h.1.le;have hp:=qu (f:=f) h.1.ok (x:=at_+12*k) (by omega) 3 (Nat.le_refl _)
 ⟨⟨hp.ok,h.1.v.set h.1.ok hf hl (by omega),by rw[List.length_set];exact hle,hx,h.1.most⟩,h.2.trans (hp.wide (by omega) (by omega))⟩
end
def w8(n:Nat)(l l2:List Nat):List Nat:=if l2.length≤n-l.length then l++l2 else l
def pH(k:Nat)(l:List Nat):List Nat×List Nat:=if k≤l.length then(l.drop (l.length-k),l.take (l.length-k)) else([],l)
def JW(keep height:Int)(l:List Nat):List Nat:=if (0≤keep∧0≤height)∧height≤(l.length:Int)∧keep≤(l.length:Int)-height then l.take height.toNat++l.drop (l.length-keep.toNat) else l
def jM(l:List jx):jx:=l.getLast?.getD ⟨0,0,0⟩
def RB(i:Int)(l:List jx):jx:=if 0≤i then(l[i.toNat]?).getD ⟨0,0,0⟩ else⟨0,0,0⟩
theorem My(l:List jx):RB ((l.length:Int)-1) l=jM l:=by
 unfold RB jM;cases l with
 |nil=>rfl
 |cons x r=>
  have e:(((x::r).length:Int)-1).toNat=(x::r).length-1:=by simp only[List.length_cons];omega
  rw[if_pos (by simp only[List.length_cons];omega),e,List.getLast?_eq_getElem?]
def NB(p:Int)(l:List jx):List jx:=if l=[]∨p<0∨4294967295<p then l else l.dropLast++[⟨(jM l).fn,p.toNat,(jM l).bs⟩]
def rJ(n:Nat)(l:List jx)(f:jx):List jx:=if l.length=n then l else l++[f]
def YN(f:jx)(k:Nat):List VP:=[nV (if 0<k then f.fn else 0),nV (if 1<k then f.pl else 0),nV (if 2<k then f.bs else 0)]
variable {k:Nat}
theorem O0(f:jx)(h:k<3):(YN f k).set (0+k*1) (nV (P1 f k))=YN f (k+1):=by
 match k,h with
 |0,_=>rfl
 |1,_=>rfl
 |2,_=>rfl
theorem O1(f:jx)(h:k<3):([nV f.fn,nV f.pl,nV f.bs]:List VP)[k]?=some (nV (P1 f k)):=by
 match k,h with
 |0,_=>rfl
 |1,_=>rfl
 |2,_=>rfl
theorem yg.part{x:Nat}{f:jx}(h:yg a x f)(hk:k<3):oI (a.get (x+4*k) 4)=P1 f k:=by
 match k,hk with
 |0,_=>exact h.fn
 |1,_=>exact h.pl
 |2,_=>exact h.bs
theorem Mz{f:jx}(h:lN f)(hk:k<3):P1 f k<4294967296:=by
 match k,hk with
 |0,_=>exact h.fn
 |1,_=>exact h.pl
 |2,_=>exact h.bs
variable {l:List jx}
theorem O2(h:l≠[])(g:jx):l.dropLast++[g]=l.set (l.length-1) g:=by
 obtain⟨l0,v,rfl⟩:=mw h;simp
theorem RC(h:l≠[]):l[l.length-1]?=some (jM l):=by
 obtain⟨l0,v,rfl⟩:=mw h;simp[jM]
theorem MA(h:l≠[]){p:Int}(hp:p=((jM l).pl:Int)):NB p l=l:=by
 unfold NB
 split
 · rfl
 · have e:(⟨(jM l).fn,p.toNat,(jM l).bs⟩:jx)=jM l:=by subst hp;rfl
   rw[e];obtain⟨l0,v,rfl⟩:=mw h;simp[jM]
theorem O3(h:l≠[]){p:Int}(hp:¬(p<0∨4294967295<p)):NB p l=l.set (l.length-1) ⟨(jM l).fn,p.toNat,(jM l).bs⟩:=by
 unfold NB;rw[if_neg (fun e=>e.elim h hp),O2 h]
section
variable {A:qG} {K:eU} {a a':cS} {c c':cg}
theorem eZ.toS(h:eZ A K a c)(hA:lZ A K):mG A.X a A.k0 K.cells c.stk:=⟨h.ok,h.stk,h.sl,(by have:=hA.kf;have:=hA.fx;omega),hA.cells⟩
theorem eZ.toF(h:eZ A K a c)(hA:lZ A K):lO A.X a A.f0 K.frames c.cN:=⟨h.ok,h.cN,h.fl,hA.fx,hA.frames⟩
theorem eZ.YO(h:eZ A K a c)(hA:lZ A K){l:List Nat}(k:kE A.X a a' A.k0 K.cells l):eZ A K a' {c with stk:=l}:=
 have h1:=hA.kf;have h2:=hA.tk;have h3:=hA.gt;have h4:=h.gn;have h5:=h.tn
 ⟨k.1.ok,h.same.trans k.2.same,k.1.v,h.cN.tq k.2 (by omega),h.gl.tq k.2 (by omega),h.tb.tq k.2 (by omega),k.1.le,h.fl,h.gn,h.tn⟩
theorem eZ.fJ(h:eZ A K a c)(hA:lZ A K){l:List jx}(k:jt A.X a a' A.f0 K.frames l):eZ A K a' {c with cN:=l}:=
 have h1:=hA.kf;have h2:=hA.tk;have h3:=hA.gt;have h4:=h.gn;have h5:=h.tn;have h6:=h.sl
 ⟨k.1.ok,h.same.trans k.2.same,h.stk.tq k.2 (by omega),k.1.v,h.gl.tq k.2 (by omega),h.tb.tq k.2 (by omega),h.sl,k.1.le,h.gn,h.tn⟩
variable {P:Program} {f:FuncId} {ps:List VP} {q':VP}
theorem nA(hA:lZ A K)(l:List Nat)(h:∀a,mG A.X a A.k0 K.cells c.stk→bk P f ps (ij A.kb A.X A.k0 K.cells c.stk.length::gy A.X a) (γ:=cS) (fun b=>kE A.X a b A.k0 K.cells l) (fun b=>ij A.kb A.X A.k0 K.cells l.length::gy A.X b) (fun _=>q'))(hc:c'={c with stk:=l}:=by rfl):bk P f ps [aM A K c] (γ:=Unit) (fun _=>True) (fun _=>[aM A K c']) (fun _=>q'):=by
 subst hc;exact .core fun a hV=> .Is (d:=id) (h a (hV.toS hA)) (Perm.idx [0,3,4,1,2,5] rfl rfl) (fun g hg=>hV.YO hA hg) (fun g hg=>aA.perm (Perm.idx [0,3,4,1,2,5] rfl rfl)) (fun _ _=>ag.refl _)
theorem pI(hA:lZ A K)(l:List jx)(h:∀a,lO A.X a A.f0 K.frames c.cN→bk P f ps (iS A.fb A.X A.f0 K.frames c.cN.length::gy A.X a) (γ:=cS) (fun b=>jt A.X a b A.f0 K.frames l) (fun b=>iS A.fb A.X A.f0 K.frames l.length::gy A.X b) (fun _=>q'))(hc:c'={c with cN:=l}:=by rfl):bk P f ps [aM A K c] (γ:=Unit) (fun _=>True) (fun _=>[aM A K c']) (fun _=>q'):=by
 subst hc;exact .core fun a hV=> .Is (d:=id) (h a (hV.toF hA)) (Perm.idx [1,3,4,0,2,5] rfl rfl) (fun g hg=>hV.fJ hA hg) (fun g hg=>aA.perm (Perm.idx [3,0,4,1,2,5] rfl rfl)) (fun _ _=>ag.refl _)
end
structure pJ(K:eU)(c:cg):Prop where
 fo:∀f∈c.cN,lN f
 sv:∀v∈c.stk,v<18446744073709551616
 sl:c.stk.length≤K.cells
 fl:c.cN.length≤K.frames
 gv:∀v∈c.gl,v<18446744073709551616
 gn:c.gl.length=K.m.aH.length
 tn:c.tb.length=fB K.m
 tv:∀v∈c.tb,v<4294967296
theorem eZ.fact(h:eZ A K a c):pJ K c:=by
 refine⟨fun f hf=>?_,fun v hv=>h.stk.lt hv,h.sl,h.fl,fun v hv=>?_,h.gn,h.tn,fun v hv=>?_⟩
 · obtain⟨i,hi⟩:=List.mem_iff_getElem?.1 hf
   exact(h.cN i f hi).ok
 · obtain⟨i,hi⟩:=List.mem_iff_getElem?.1 hv
   rw[←h.gl i v hi];exact zH _ _
 · obtain⟨i,hi⟩:=List.mem_iff_getElem?.1 hv
   rw[←h.tb i v hi];exact pz (a.bytes.drop _)
variable {env:Env} {Q:Exit→Act→World→Prop}
theorem aJ.oy{x:Ctx}{s:Code}{h0:HP}(k:pJ K c→aJ P Q x s (h0::aM A K c::r) env):aJ P Q x s (h0::aM A K c::r) env:=
 fun a w ⟨h1,h2,S,F,h3,h4,h5⟩=>k (by
  obtain⟨_,_,_,_,_,F1,F2,_,_,⟨b,G1,G2,_,_,hp,_⟩,_⟩:=h4;exact eZ.fact hp) a w ⟨h1,h2,S,F,h3,h4,h5⟩
theorem pJ.pop(h:pJ K c):(aC c).1<18446744073709551616:=by
 show c.stk.getLast?.getD 0<_
 cases hl:c.stk.getLast? with
 |none=>decide
 |some v=>exact h.sv v (List.mem_of_getLast? hl)
theorem bx.oy{x:Ctx}{e:Exit}{h0:HP}(k:pJ K c→bx Q e x (h0::aM A K c::r) env):bx Q e x (h0::aM A K c::r) env:=
 fun a w ⟨h1,h2,S,F,h3,h4,h5⟩=>k (by
  obtain⟨_,_,_,_,_,F1,F2,_,_,⟨b,G1,G2,_,_,hp,_⟩,_⟩:=h4;exact eZ.fact hp) a w ⟨h1,h2,S,F,h3,h4,h5⟩
theorem It{l:List Nat}(h:∀v∈l,v<18446744073709551616):l.getLast?.getD 0<18446744073709551616:=by
 cases hl:l.getLast? with
 |none=>decide
 |some v=>exact h v (List.mem_of_getLast? hl)
theorem pJ.TW(h:pJ K c):(aC (aC c).2).1<18446744073709551616:=It fun v hv=>h.sv v (List.dropLast_subset _ hv)
theorem pJ.YP(h:pJ K c):(aC (aC (aC c).2).2).1<18446744073709551616:=It fun v hv=>h.sv v (List.dropLast_subset _ (List.dropLast_subset _ hv))
theorem pJ.top(h:pJ K c):lN (bt c):=by
 unfold bt;cases hl:c.cN.getLast? with
 |none=>exact⟨by decide,by decide,by decide⟩
 |some f=>exact h.fo f (List.mem_of_getLast? hl)
section
variable {P:Program} {ops:Array Oper} {Q:Exit→Act→World→Prop} {c:Ctx} {l:List Oper} {hs:List HP} {env:Env} {d:Tmp} {op:Op} {ty:TypeId} {pos:String} {after:Array Edge} {γ:Type} {φ:γ→Prop} {hs':γ→List HP} {q:γ→VP} {j t:Nat} {p:Prop}
theorem bG.nG{want:Bool}(hl:look env t=some (ak p))(hj:(ops[j]?).bind (·.dst)=some t)(ht:Nat.blt t c.n=true)(hw:if want=true then p else ¬p)(h:fN P hs env ⟨some d,op,ty,pos,after,some (j,want)⟩ φ hs' q)(hd:Nat.blt d c.n=true)
    (k:∀g,φ g→bG P ops Q c l (hs' g) ((d,q g)::env)):bG P ops Q c (⟨some d,op,ty,pos,after,some (j,want)⟩::l) hs env:=by
  intro a w hst;obtain⟨h1,h2,S,F,h3,h4,h5⟩:=hst;refine wpListIn_step fun K hK=>?_;obtain⟨b,hy,hb⟩:=vZ (ops:=ops) hl hj ht h2 h5
  have Tf:b=want:=by
    cases want
    · simp only[Bool.false_eq_true,if_false] at hw
      cases b
      · rfl
      · exact absurd (hb.1 rfl) hw
    · simp only[if_true] at hw;exact hb.2 hw
  rw[if_pos (by simp[Region.wanted,hy,Tf])];exact Oper.om (h.gV h3 h4 h5) (h c a w S F h3 h4 h5 K Q fun g v w' S' F' hg k1 k2 k3 k4 k5=>hK _ _ (k g hg _ _ ⟨by rw[Act.cU];exact h1,by rw[Act.fy];exact h2,S',F',k1,k4,(h5.mono k2 k3).put k5 (by rw[h2];simpa using hd)⟩))
theorem bG.YQ(hl:look env t=some (ak p))(rX:(some (j,false):Option (Nat×Bool))=some (j,false))(hj:(ops[j]?).bind (·.dst)=some t)(ht:Nat.blt t c.n=true)(hp:¬p)(h:¬p→fN P hs env ⟨some d,op,ty,pos,after,some (j,false)⟩ φ hs' q)(hd:Nat.blt d c.n=true)
    (k:∀g,φ g→bG P ops Q c l (hs' g) ((d,q g)::env)):bG P ops Q c (⟨some d,op,ty,pos,after,some (j,false)⟩::l) hs env:= .nG hl hj ht (by simpa using hp) (h hp) hd k
end
def RD(P:Program)(f:FuncId)(ps:List VP)(hs:List HP)(φ:γ→Prop)(hs':γ→List HP)(q:γ→VP):Prop:=
 ∀(u:FrameMode) (w:World) (S F:BS) (vs:Array Value),(∀k,S k→k<w.heap.size)→(∀k,F k→k<w.heap.size)→(∀k,S k→¬F k)→cT hs F S w→e9 ps S w vs.toList→
  CallsD P f vs u w fun e u' w'=>u'=u∧∃v S' F' g,e= .returned v∧ir ⟨w,S,F,0,none,[]⟩ w' S' F'∧φ g∧cT (hs' g) F' S' w'∧(q g).p S' w' v
theorem RD.intro{P:Program}{f:FuncId}{fn:Func}{x:Code}{ps:List VP}{hs:List HP}{γ:Type}{φ:γ→Prop}{hs':γ→List HP}{q:γ→VP}
    (n:Nat) (hf:P.funcs[f]?=some fn) (hb:fn.body=some x) (hnt:fn.ntmps=n) (hn:Nat.ble ps.length n=true)
    (h:∀(w0:World) (S0 M:BS),aJ P (Post P fn ⟨w0,S0,M,n,none,[]⟩ φ hs' q) ⟨w0,S0,M,n,none,[]⟩ x hs (args ps)):RD P f ps hs φ hs' q:=by
  intro u w S F vs hS hF hSF hown hall;have hlen:ps.length=vs.size:=by simpa using hall.1
  have hn':ps.length≤n:=by simpa using hn
  refine callsD_of_wp hf hb (wpIn_wide.1 (h w S F _ _ ⟨rfl,?_,S,F,?_,hown,?_⟩))
  · simp;omega
  · exact⟨rfl,rfl,rfl,Nat.le_refl _,fun _ _ _=>rfl,hSF,hS,hF,fun k hk=> .inl hk,fun k hk=> .inl hk,fun _ hk=>hk⟩
  · intro t q' hl
    obtain⟨j,hj,hq⟩:=ld ps 0 t q' hl;have rY:t=j:=by omega
    subst rY;have hjl:t<ps.length:=(List.getElem?_eq_some_iff.1 hq).1;have Hj:t<vs.size:=by omega
    have:(vs++Array.replicate (fn.ntmps-vs.size) undef).getD t undef=vs[t]:=by simp[Array.getElem?_append,Hj]
    rw[this];exact hall.2 t q' _ hq (by simp[Hj])
variable {S:BS} {w:World}
theorem MB:(aS []).p S w (.tuple #[]):=⟨#[],rfl,rfl,fun j p v hj=>by simp at hj⟩
variable {vs:List Value}
theorem FO{l:List Value}(h:e9 (vs.map af) S w l):l=vs:=by
 have hl:vs.length=l.length:=by simpa using h.1
 refine List.ext_getElem hl.symm fun j h1 h2=>?_;have:=h.2 j (af vs[j]) l[j] (by simp[h2]) (by simp[h1]);exact this
theorem AS(vs:List Value):e9 (vs.map af) S w vs:=
 ⟨by simp,fun j q v h1 h2=>by
  rw[List.getElem?_map,h2] at h1;cases h1;rfl⟩
theorem C7{qs:List VP}{a b:List Value}(h:e9 ps S w a)(k:e9 qs S w b):e9 (ps++qs) S w (a++b):=
 ⟨by simp[h.1,k.1],fun j q v h1 h2=>by
  have hl:=h.1;by_cases hj:j<ps.length
  · rw[List.getElem?_append_left hj] at h1
    rw[List.getElem?_append_left (by omega)] at h2;exact h.2 j q v h1 h2
  · rw[List.getElem?_append_right (by omega)] at h1
    rw[List.getElem?_append_right (by omega),←hl] at h2;exact k.2 _ q v h1 h2⟩
theorem bG.MC{ops:Array Oper}{c:Ctx}{l:List Oper}{xs:List Operand}{ats:Array TypeId}{ty:TypeId}{pos:String}{after:Array Edge}
    (hro:c.ro=none) (hx:iN env xs (vs.map af)) (k:bG P ops Q {c with df:=⟨.fn (.func f) #[],vs.toArray⟩::c.df} l hs env):
    bG P ops Q c (⟨none, .defer ⟨.value (.func f),xs.toArray,ats⟩,ty,pos,after,none⟩::l) hs env:=by
  intro a w hst;obtain⟨h1,h2,S,F,h3,h4,h5⟩:=hst;refine wpListIn_plain rfl fun K hK=>⟨fun _ _=>trivial,?_⟩;have hv:xs.map a.eval=vs:=FO (hx S w a h5);have B9:a.eval (.func f)= .func (.func f) #[] #[]:=rfl
  have hr:(execOp a.eval (⟨none, .defer ⟨.value (.func f),xs.toArray,ats⟩,ty,pos,after,none⟩:Oper)).run P w= .ok (.defer ⟨.fn (.func f) #[],vs.toArray⟩) w:=by
    simp[execOp,resolve,B9,hv,Deferred.ofValue]
  have hs0:(WF c.ro).round=none:=by rw[hro];rfl
  rw[hs0,Oper.semAt_none,hr,Oper.uponIn_defer];refine hK _ _ ?_;have:=k {a with defers:=⟨.fn (.func f) #[],vs.toArray⟩::a.defers} w ⟨by simp[h1],h2,S,F,⟨h3.os,h3.tape,h3.output,h3.size,h3.kept,h3.cR,h3.bD,h3.bO,h3.own,h3.shr,h3.base⟩,h4,h5⟩;exact this
def Iu(P:Program)(fn:Func)(c:Ctx)(φ:γ→Prop)(hs':γ→List HP)(q:γ→VP):Exit→Act→World→Prop:=
 bodyPostD P fn fun e w'=>∃v S' F' g,e= .returned v∧ir ⟨c.w0,c.S0,c.M,0,none,[]⟩ w' S' F'∧φ g∧cT (hs' g) F' S' w'∧(q g).p S' w' v
variable {fn:Func}
theorem bk.RE{x:Code}
    (n:Nat) (hf:P.funcs[f]?=some fn) (hb:fn.body=some x) (hnt:fn.ntmps=n) (hn:Nat.ble ps.length n=true)
    (h:∀(w0:World) (S0 M:BS),aJ P (Iu P fn ⟨w0,S0,M,n,none,[]⟩ φ hs' q) ⟨w0,S0,M,n,none,[]⟩ x hs (args ps)):bk P f ps hs φ hs' q:=
  bk.HG n hf hb hnt hn h
theorem bx.AT{hs0 rest:List HP}{qP:List HP}{q1:VP}{c0:Ctx}{w0:World}{S0 M:BS}{n:Nat}{ro:Option Nat}{ds:List Deferred}
    (hd:RD P f ps hs0 (γ:=Unit) (fun _=>True) (fun _=>qP) (fun _=>q1)) (hb:iu P f=true) (hv:∀S w,e9 ps S w vs) (hp:hs.Perm (hs0++rest))
    (h:bx (Iu P fn c0 φ hs' q) .normal ⟨w0,S0,M,n,ro,ds⟩ (qP++rest) env):bx (Iu P fn c0 φ hs' q) .normal ⟨w0,S0,M,n,ro,⟨.fn (.func f) #[],vs.toArray⟩::ds⟩ hs env:=by
  intro a w hst;obtain⟨h1,h2,S,F,h3,h4,h5⟩:=hst;have h3':ir ⟨w0,S0,M,n,ro,ds⟩ w S F:=⟨h3.os,h3.tape,h3.output,h3.size,h3.kept,h3.cR,h3.bD,h3.bO,h3.own,h3.shr,h3.base⟩;obtain⟨F1,F2,lW,rZ,Ey,EP⟩:=cT.append.1 (h4.perm hp);have IZ:∀k,F1 k→k<w.heap.size:=fun k hk=>h3.bO k (lW k hk).1;have hSF:∀k,S k→¬F1 k:=fun k hk hf=>h3.cR k hk (lW k hf).1
  show Leaves P fn a.tmps _ a.defers .returning w
  have h1':a.defers=⟨.fn (.func f) #[],vs.toArray⟩::ds:=h1;rw[h1'];refine leaves_cons (f:=f) (args:=vs.toArray) (by simp) (by have h9:=ei hb vs.toArray w;simpa[invoke] using h9) ?_;refine(hd .returning w S F1 vs.toArray h3.bD IZ hSF Ey (by simpa using hv S w)).mono ?_;rintro e u' w'' ⟨rfl,v,S',F1',g,rfl,uj,_,lC,_⟩;obtain⟨k1,k2,k3,k4⟩:=ir.over h3' lW rZ EP uj lC;exact h {a with defers:=ds} w'' ⟨rfl,h2,S',_,k1,k4,h5.mono k2 k3⟩
theorem bx.YR{c:Ctx}(h:bx (Post P fn c φ hs' q) .normal c hs env):bx (Iu P fn c φ hs' q) .normal c hs env:=by
 intro a w hst;obtain⟨h9,v,hr,hR⟩:=h a w hst
 show Leaves P fn a.tmps _ a.defers .returning w
 rw[h9];exact⟨v,hr,hR⟩
section
variable {P:Program} {hs:List HP} {env:Env} {dst:Option Tmp} {ty:TypeId} {pos:String} {after:Array Edge} {gd:Option (Nat×Bool)} {x y z:Operand} {ats:Array TypeId}
theorem cell_of{F S:BS}{w:World}{b off:Nat}{cs:List VP}{u:Value}(h:(aF b cs).p F S w)(hc:cs[off]?=some (af u)):w.cell? ⟨b,off,none⟩=some u∧w.frozen? ⟨b,off,none⟩=false:=by
 obtain⟨hF0,arr,E',PM,hsz,PN⟩:=h;obtain⟨u0,Sh,HB⟩:=PN _ _ hc;simp only[af] at HB;subst HB
 exact⟨by simp[World.cell?,PM,Sh],by simp[World.frozen?,PM]⟩
theorem tV{cs:List VP}{b off i:Nat}{o:Op}{u v r:Value}{qv:VP}(XA:∀S w,qv.p S w r)(hi:hs[i]?=some (aF b cs))(hc:cs[off]?=some (af u))[Sl:Flat (af v)]
    (hr:∀(a:Act) (w:World) (S:BS),cn env S w a.tmps→w.cell? ⟨b,off,none⟩=some u→w.frozen? ⟨b,off,none⟩=false→(execOp a.eval ⟨dst,o,ty,pos,after,gd⟩).run P w= .ok (.value r) (w.setCell ⟨b,off,none⟩ v)):
    fN P hs env ⟨dst,o,ty,pos,after,gd⟩ (γ:=Unit) (fun _=>True) (fun _=>hs.set i (aF b (cs.set off (af v)))) (fun _=>qv):=by
  intro c a w S F ax hown lV Kp Q hk;obtain⟨F0,_,aj⟩:=hown.get hi;obtain⟨hcell,hfr⟩:=cell_of aj hc;obtain⟨hF0,arr,E',PM,hsz,PN⟩:=aj;have ho:off<cs.length:=(List.getElem?_eq_some_iff.1 hc).1;have hrr:=hr a w S lV hcell hfr;refine fN.HC (m:=b) (h1:=aF b (cs.set off (af v))) ax hown hi (fun F1 S w h=>h.1) hrr rfl rfl rfl (by simp[World.setCell]) (fun k hk=>dh w _ _ k hk) (fun F1 h=>?_) (fun hS hag hO=>hk () _ _ S F trivial hS (fun _ h=>h) hag hO (XA _ _))
  have hag:∀k,S k→(w.setCell ⟨b,off,none⟩ v).heap[k]?=w.heap[k]?:=fun k hk=>dh w _ _ k (fun e=>by
    obtain⟨F1',F2',f1,_,f3,_⟩:=hown.ue hi;exact ax.cR k hk (e▸(f1 b f3.1).1))
  refine⟨h.1,arr.setIfInBounds off v,E',by simp[World.setCell,Array.getElem?_modify,PM],by simp[hsz],fun j q' hj=>?_⟩;rw[List.getElem?_set] at hj;by_cases e:off=j
  · subst e
    rw[if_pos rfl,if_pos ho] at hj;cases hj
    have h9:off<arr.size:=by omega
    exact⟨_,by simp[h9],rfl⟩
  · rw[if_neg e] at hj
    obtain⟨u',Eu,hq⟩:=PN j q' hj;exact⟨u',by simp[Array.getElem?_setIfInBounds_ne e,Eu],q'.mono (fun _ h=>h) hag hq⟩
theorem FQ{f:FuncId}{fn:Func}{cs:List VP}{b off i:Nat}{k:IntKind}{n:Int}(hf:P.funcs[f]?=some fn)(hname:(fn.name=="runtime.NumGoroutine")=false)(hb:fn.body.isNone=true)(hn:Extern.findNext fn=none)
    (he:Extern.find fn=some (Extern.Atomic.loadT (.int k))) (hx:aU env x (ai b off)) (hi:hs[i]?=some (aF b cs)) (hc:cs[off]?=some (aa k n)):
    aT P hs env ⟨dst, .call ⟨.value (.func f), #[x],ats⟩,ty,pos,after,gd⟩ (aa k n):=by
  intro a w S F h1 h2 h3 h4 lV K Q hk;have hv:=hx S w a lV;simp only[af] at hv
  obtain⟨F0,_,aj⟩:=h4.get hi;obtain⟨hcell,hfr⟩:=cell_of aj hc;have hrun:=run_call_load hf hname hb hn k he hcell;have B9:a.eval (.func f)= .func (.func f) #[] #[]:=rfl
  have hr:(execOp a.eval ⟨dst, .call ⟨.value (.func f), #[x],ats⟩,ty,pos,after,gd⟩).run P w= .ok (.value (.int k n)) w:=by
    simp[execOp,resolve,Deferred.ofValue,invoke,hv,B9,hrun]
  unfold Oper.wp;rw[hr];exact hk _ w S (ez.refl _ _) rfl
theorem JX{f:FuncId}{fn:Func}{cs:List VP}{b off i:Nat}{k:IntKind}{n m:Int}(hf:P.funcs[f]?=some fn)(hname:(fn.name=="runtime.NumGoroutine")=false)(hb:fn.body.isNone=true)(hn:Extern.findNext fn=none)
    (he:Extern.find fn=some (Extern.Atomic.casT (.int k))) (hx:aU env x (ai b off)) (hy:aU env y (aa k n)) (hz:aU env z (aa k m)) (hi:hs[i]?=some (aF b cs)) (hc:cs[off]?=some (aa k n)):
    fN P hs env ⟨dst, .call ⟨.value (.func f), #[x,y,z],ats⟩,ty,pos,after,gd⟩ (γ:=Unit) (fun _=>True) (fun _=>hs.set i (aF b (cs.set off (aa k m)))) (fun _=>ak True):=
  tV (fun _ _=>⟨true,rfl,by simp⟩) hi hc fun a w S lV hcell hfr=>by
    have hv:=hx S w a lV;simp only[af] at hv
    have JV:=hy S w a lV;simp only[af] at JV
    have hv3:=hz S w a lV;simp only[af] at hv3
    have B9:a.eval (.func f)= .func (.func f) #[] #[]:=rfl;have hrun:=run_call_cas_hit (y:=m) hf hname hb hn k he hcell hfr;simp[execOp,resolve,Deferred.ofValue,invoke,hv,JV,hv3,B9,hrun]
theorem C8{f:FuncId}{fn:Func}{cs:List VP}{b off i:Nat}{k:IntKind}{m:Int}{u:Value}(hf:P.funcs[f]?=some fn)(hname:(fn.name=="runtime.NumGoroutine")=false)(hb:fn.body.isNone=true)(hn:Extern.findNext fn=none)
    (he:Extern.find fn=some Extern.Atomic.storeT) (hx:aU env x (ai b off)) (hy:aU env y (aa k m)) (hi:hs[i]?=some (aF b cs)) (hc:cs[off]?=some (af u)):
    fN P hs env ⟨dst, .call ⟨.value (.func f), #[x,y],ats⟩,ty,pos,after,gd⟩ (γ:=Unit) (fun _=>True) (fun _=>hs.set i (aF b (cs.set off (aa k m)))) (fun _=>aS []):=
  tV (fun _ _=>MB) hi hc fun a w S lV hcell hfr=>by
    have hv:=hx S w a lV;simp only[af] at hv
    have JV:=hy S w a lV;simp only[af] at JV
    have B9:a.eval (.func f)= .func (.func f) #[] #[]:=rfl;have hrun:=run_call_store (y:=m) (k:=k) hf hname hb hn he hcell hfr;simp[execOp,resolve,Deferred.ofValue,invoke,hv,JV,B9,hrun]
theorem JY{f:FuncId}{fn:Func}{cs:List VP}{b off i:Nat}{k:IntKind}{n m s:Int}(hf:P.funcs[f]?=some fn)(hname:(fn.name=="runtime.NumGoroutine")=false)(hb:fn.body.isNone=true)(hn:Extern.findNext fn=none)
    (he:Extern.find fn=some (Extern.Atomic.update (Op.intArith .add) k true)) (hx:aU env x (ai b off)) (hy:aU env y (aa k m)) (hi:hs[i]?=some (aF b cs)) (hc:cs[off]?=some (aa k n)) (hs0:k.wrap (n+m)=s):
    fN P hs env ⟨dst, .call ⟨.value (.func f), #[x,y],ats⟩,ty,pos,after,gd⟩ (γ:=Unit) (fun _=>True) (fun _=>hs.set i (aF b (cs.set off (aa k s)))) (fun _=>aa k s):=
  tV (fun _ _=>rfl) hi hc fun a w S lV hcell hfr=>by
    have hv:=hx S w a lV;simp only[af] at hv
    have JV:=hy S w a lV;simp only[af] at JV
    have B9:a.eval (.func f)= .func (.func f) #[] #[]:=rfl;have mL:(Op.intArith .add k n m).run P w= .ok (.int k s) w:=by simp[Op.intArith,hs0]
    have hrun:=run_call_add hf hname hb hn k he hcell hfr mL;simp[execOp,resolve,Deferred.ofValue,invoke,hv,JV,B9,hrun]
theorem vA{f:FuncId}(h:∀w:World,(callFunc f #[]).run P w= .ok (.value (.tuple #[])) w):aT P hs env ⟨dst, .call ⟨.value (.func f), #[],ats⟩,ty,pos,after,gd⟩ (aS []):=by
 intro a w S F h1 h2 h3 h4 lV K Q hk;have B9:a.eval (.func f)= .func (.func f) #[] #[]:=rfl
 have hr:(execOp a.eval ⟨dst, .call ⟨.value (.func f), #[],ats⟩,ty,pos,after,gd⟩).run P w= .ok (.value (.tuple #[])) w:=by
  have:=h w;simp[execOp,resolve,Deferred.ofValue,invoke,B9,this]
 unfold Oper.wp;rw[hr];exact hk _ w S (ez.refl _ _) MB
theorem Iv{f:FuncId}{b off:Nat}(h:∀(a:Addr) (w:World),(callFunc f #[.pointer (some a)]).run P w= .ok (.value (.tuple #[])) w)(hx:aU env x (ai b off)):aT P hs env ⟨dst, .call ⟨.value (.func f), #[x],ats⟩,ty,pos,after,gd⟩ (aS []):=by
 intro a w S F h1 h2 h3 h4 lV K Q hk;have hv:=hx S w a lV;simp only[af] at hv
 have B9:a.eval (.func f)= .func (.func f) #[] #[]:=rfl
 have hr:(execOp a.eval ⟨dst, .call ⟨.value (.func f), #[x],ats⟩,ty,pos,after,gd⟩).run P w= .ok (.value (.tuple #[])) w:=by
  have:=h ⟨b,off,none⟩ w;simp[execOp,resolve,Deferred.ofValue,invoke,B9,hv,this]
 unfold Oper.wp;rw[hr];exact hk _ w S (ez.refl _ _) MB
theorem C9{src d t:TypeId}{cs:List VP}{b off i:Nat}{u:Value}(h1:P.underlying src=some (.pointer t))(h2:P.underlying d=some .unsafePointer)(h3:(P.info? t).map (fun i=>decide (i.size=0))=some false)(hx:aU env x (ai b off))(hi:hs[i]?=some (aF b cs))(hc:cs[off]?=some (af u)):
    aT P hs env ⟨dst, .convert src d x,ty,pos,after,gd⟩ (ai b off):=by
  intro a w S F k1 k2 k3 k4 lV K Q hk;have hv:=hx S w a lV;simp only[af] at hv
  obtain⟨F0,_,aj⟩:=k4.get hi;obtain⟨hcell,_⟩:=cell_of aj hc;have hcv:=run_convert_to_unsafe h1 h2 h3 hcell
  have hr:(execOp a.eval ⟨dst, .convert src d x,ty,pos,after,gd⟩).run P w= .ok (.value (.pointer (some ⟨b,off,none⟩))) w:=by
    simp[execOp,hv,hcv]
  unfold Oper.wp;rw[hr];exact hk _ w S (ez.refl _ _) rfl
theorem FT{f:FuncId}{xs:List Operand}{ps cs:List VP}{hs0 rest:List HP}{γ:Type}{φ:γ→Prop}{hs':γ→List HP}{q:γ→VP}(hf:bk P f (ps++cs) hs0 φ hs' q)(hb:iu P f=true)(hx:aU env x (ux f cs))(hxs:iN env xs ps)(hp:hs.Perm (hs0++rest)):
    fN P hs env ⟨dst, .call ⟨.value x,xs.toArray,ats⟩,ty,pos,after,gd⟩ φ (fun g=>hs' g++rest) q:=by
  intro c a w S F ax hown he K Q hk;obtain⟨F1,F2,lW,rZ,Ey,EP⟩:=cT.append.1 (hown.perm hp);have IZ:∀k,F1 k→k<w.heap.size:=fun k hk=>ax.bO k (lW k hk).1;have hSF:∀k,S k→¬F1 k:=fun k hk hf=>ax.cR k hk (lW k hf).1;obtain⟨lb,hv,hlb⟩:=hx S w a he
  have hr:(execOp a.eval ⟨dst, .call ⟨.value x,xs.toArray,ats⟩,ty,pos,after,gd⟩).run P w= .ok (.enter f ((xs.map a.eval).toArray++lb.toArray)) w:=by
    have h:=ei hb ((xs.map a.eval).toArray++lb.toArray) w;simp[execOp,resolve,hv,Deferred.ofValue,invoke] at h ⊢;exact h
  unfold Oper.wp;rw[hr];refine(hf w S F1 _ ax.bD IZ hSF Ey (by simpa using C7 (hxs S w a he) hlb)).mono ?_;rintro e w' ⟨v,S',F1',g,rfl,h2,hφ,lC,hq⟩;obtain⟨k1,k2,k3,k4⟩:=ir.over ax lW rZ EP h2 lC;exact hk g v w' S' _ hφ k1 k2 k3 k4 hq
end
end Go.Hl
end
