/-
  Parts of the proof.
-/
import Derived.Test.YtppekopemdoclaaGreatDoorRAK
import Derived.Lib.TrailingZeros
set_option linter.all false
set_option maxRecDepth 1000000
set_option maxHeartbeats 4000000
section
namespace Go.Hl
open Go.Lib
def WN(n:Nat):Prop:=n=32\/n=64
abbrev uV(a:Nat):VP:=af .u64 (a:Int)
theorem qC(v:Int):IntKind.u64.wrap v=(((v%18446744073709551616).toNat:Nat):Int):=by
 rw[IntKind.wrap_u64];omega
def qD(n A:Nat):Int:=if A<2^(n-1) then(A:Int) else(A:Int)-2^n
variable {a:Nat}
theorem af5:qD 32 (a%4294967296)=IntKind.i64.wrap (IntKind.i32.wrap (a:Int)):=by
 rw[IntKind.wrap_i64,IntKind.wrap_i32];unfold qD;split<;>omega
theorem af6(h:a<18446744073709551616):qD 64 a=IntKind.i64.wrap (a:Int):=by
 rw[IntKind.wrap_i64];unfold qD;split<;>omega
variable {n:Nat} {B:Nat}
theorem MY(hn:WN n)(hB:B<2^n)(h:B≠0):qD n B≠0:=by
 rcases hn with rfl|rfl<;>(unfold qD;split<;>omega)
def vv(n A k:Nat):Nat:=(A*2^k)%2^n+A/2^(n-k)
def oJ(n:Nat)(op:Int)(A B:Nat):Int:=
 if op<3\/6<op then 0 else if B=0 then 2 else if op=3/\qD n B= -1/\A=2^(n-1) then 3 else 0
def ON(n:Nat)(op:Int)(A B:Nat):Nat:=
 if op=0 then(A+B)%2^n else if op=1 then(A+2^n-B)%2^n else if op=2 then(A*B)%2^n
 else if op=3 then((qD n A).tdiv (qD n B)%2^n).toNat else if op=4 then A/B
 else if op=5 then((qD n A).tmod (qD n B)%2^n).toNat else if op=6 then A%B
 else if op=7 then A &&& B else if op=8 then A|||B else if op=9 then A^^^B
 else if op=10 then(A*2^(B%n))%2^n else if op=11 then(qD n A/2^(B%n)%2^n).toNat else if op=12 then A/2^(B%n)
 else if op=13 then vv n A (B%n) else vv n A ((n-B%n)%n)
def Hf(n:Nat)(op:Int)(A B:Nat):Nat:=if oJ n op A B=0 then ON n op A B else 0
def mC(n:Nat)(op:Int)(A B:Nat):Nat:=
 if op=0 then(A+B)%18446744073709551616 else if op=1 then(A+18446744073709551616-B)%18446744073709551616 else if op=2 then(A*B)%18446744073709551616
 else if op=3 then((qD n A).tdiv (qD n B)%18446744073709551616).toNat else if op=4 then A/B
 else if op=5 then((qD n A).tmod (qD n B)%18446744073709551616).toNat else A%B
def pJ(n:Nat)(op:Int)(A B:Nat):Nat:=
 if op=7 then A &&& B else if op=8 then A|||B else if op=9 then A^^^B
 else if op=10 then(A*2^(B%n))%18446744073709551616 else if op=11 then(qD n A/2^(B%n)%18446744073709551616).toNat else if op=12 then A/2^(B%n)
 else if op=13 then vv n A (B%n) else vv n A ((n-B%n)%n)
theorem yc(hn:WN n)(v:Nat):v%18446744073709551616%2^n=v%2^n:=by
 rcases hn with rfl|rfl<;>omega
theorem vw(hn:WN n)(v:Int):(v%18446744073709551616).toNat%2^n=(v%2^n).toNat:=by
 rcases hn with rfl|rfl<;>omega
variable {A:Nat}
theorem A1{k:Nat}(hA:A<2^n)(hk:k<=n):vv n A k<2^n:=by
 unfold vv;have hp:2^n=2^(n-k)*2^k:=by rw[<-Nat.pow_add];congr 1;omega
 have h1:A*2^k%2^n=(A%2^(n-k))*2^k:=by rw[hp,Nat.mul_mod_mul_right]
 have h2:A/2^(n-k)<2^k:=by
  rw[Nat.div_lt_iff_lt_mul (Nat.two_pow_pos _),Nat.mul_comm,<-hp];exact hA
 have h3:=Nat.mod_lt A (Nat.two_pow_pos (n-k));rw[h1];have h4:(A%2^(n-k)+1)*2^k<=2^(n-k)*2^k:=Nat.mul_le_mul_right _ h3;rw[Nat.add_mul,Nat.one_mul] at h4;omega
theorem A2(hA:A<2^n)(hB:B<2^n):A &&& B<2^n/\A|||B<2^n/\A^^^B<2^n:=⟨Nat.and_lt_two_pow _ hB,Nat.or_lt_two_pow hA hB,Nat.xor_lt_two_pow hA hB⟩
variable {op:Int}
theorem DF(hn:WN n)(h0:op<7)(hA:A<2^n)(hB:B<2^n)(h1:0<=op):mC n op A B%2^n=ON n op A B:=by
 unfold mC ON;by_cases c0:op=0
 · rw[if_pos c0,if_pos c0];exact yc hn _
 rw[if_neg c0,if_neg c0];by_cases c1:op=1
 · rw[if_pos c1,if_pos c1];rcases hn with rfl|rfl<;>omega
 rw[if_neg c1,if_neg c1];by_cases c2:op=2
 · rw[if_pos c2,if_pos c2];exact yc hn _
 rw[if_neg c2,if_neg c2];by_cases c3:op=3
 · rw[if_pos c3,if_pos c3];exact vw hn _
 rw[if_neg c3,if_neg c3];by_cases c4:op=4
 · rw[if_pos c4,if_pos c4];exact Nat.mod_eq_of_lt (Nat.lt_of_le_of_lt (Nat.div_le_self _ _) hA)
 rw[if_neg c4,if_neg c4];by_cases c5:op=5
 · rw[if_pos c5,if_pos c5];exact vw hn _
 rw[if_neg c5,if_neg c5,if_pos (by omega:op=6)];exact Nat.mod_eq_of_lt (Nat.lt_of_le_of_lt (Nat.mod_le _ _) hA)
theorem Hg(hn:WN n)(h0:7<=op)(hA:A<2^n)(hB:B<2^n):pJ n op A B%2^n=ON n op A B:=by
 have hn0:0<n:=by rcases hn with rfl|rfl<;>decide
 have hk:=Nat.mod_lt B hn0;obtain⟨b1,b2,b3⟩:=A2 hA hB;unfold pJ ON;rw[if_neg (by omega:¬op=0),if_neg (by omega:¬op=1),if_neg (by omega:¬op=2),if_neg (by omega:¬op=3),if_neg (by omega:¬op=4),if_neg (by omega:¬op=5),if_neg (by omega:¬op=6)];by_cases c7:op=7
 · rw[if_pos c7,if_pos c7];exact Nat.mod_eq_of_lt b1
 rw[if_neg c7,if_neg c7];by_cases c8:op=8
 · rw[if_pos c8,if_pos c8];exact Nat.mod_eq_of_lt b2
 rw[if_neg c8,if_neg c8];by_cases c9:op=9
 · rw[if_pos c9,if_pos c9];exact Nat.mod_eq_of_lt b3
 rw[if_neg c9,if_neg c9];by_cases lZ:op=10
 · rw[if_pos lZ,if_pos lZ];exact yc hn _
 rw[if_neg lZ,if_neg lZ];by_cases n8:op=11
 · rw[if_pos n8,if_pos n8];exact vw hn _
 rw[if_neg n8,if_neg n8];by_cases qB:op=12
 · rw[if_pos qB];exact Nat.mod_eq_of_lt (Nat.lt_of_le_of_lt (Nat.div_le_self _ _) hA)
 rw[if_neg qB];by_cases v8:op=13
 · rw[if_pos v8];exact Nat.mod_eq_of_lt (A1 hA (by omega))
 rw[if_neg v8];exact Nat.mod_eq_of_lt (A1 hA (Nat.le_of_lt (Nat.mod_lt _ hn0)))
theorem yd(hn:WN n)(hA:A<2^n):A<18446744073709551616:=by rcases hn with rfl|rfl<;>omega
theorem Hh(hn:WN n)(hA:A<2^n)(hB:B<2^n):mC n op A B<18446744073709551616:=by
 have h1:=yd hn hA;have h2:=Nat.div_le_self A B;have h3:=Nat.mod_le A B;unfold mC
 (repeat' split)<;>omega
theorem MZ(hn:WN n)(hA:A<2^n)(hB:B<2^n):pJ n op A B<18446744073709551616:=by
 have hn0:0<n:=by rcases hn with rfl|rfl<;>decide
 have hk:=Nat.mod_lt B hn0;obtain⟨b1,b2,b3⟩:=A2 hA hB;have h0:=yd hn hA;have h1:=yd hn b1;have h2:=yd hn b2;have h3:=yd hn b3;have h4:=Nat.div_le_self A (2^(B%n));have h5:=yd hn (A1 hA (k:=B%n) (by omega));have h6:=yd hn (A1 hA (k:=(n-B%n)%n) (Nat.le_of_lt (Nat.mod_lt _ hn0)));unfold pJ
 (repeat' split)<;>omega
def w4(n:Nat)(signed:Prop)[Decidable signed](A B:Nat):Prop:=if signed then qD n A<qD n B else A<B
instance {n:Nat} {s:Prop} [Decidable s] {A B:Nat}:Decidable (w4 n s A B):=by unfold w4;infer_instance
def iP(n:Nat)(op:Int)(A B:Nat):Prop:=
 if op=0 then A=B else if op=1 then A≠B else if op=2\/op=3 then w4 n (op%2=0) A B else if op=4\/op=5 then w4 n (op%2=0) B A
 else if op=6\/op=7 then ¬w4 n (op%2=0) B A else ¬w4 n (op%2=0) A B
open Classical in
noncomputable def A3(n:Nat)(op:Int)(A B:Nat):Nat:=if iP n op A B then 1 else 0
def xL(a:Nat):Nat:=if a=0 then 0 else Nat.log2 a+1
theorem R0(h:a<2^n):xL a<=n:=by
 unfold xL;split
 · omega
 · exact(Nat.log2_lt (by assumption)).2 h
theorem Yi(h0:2^n<=a)(h1:a<2^(n+1)):xL a=n+1:=by
 have ha:a≠0:=by have:=Nat.two_pow_pos n;omega
 unfold xL;rw[if_neg ha]
 have h2:=(Nat.log2_lt ha).2 h1;have h3:=(Nat.le_log2 ha).2 h0;omega
theorem Kv{k:Nat}(h:2^k<=a):xL a=xL (a/2^k)+k:=by
 have hp:=Nat.two_pow_pos k;have hd:0<a/2^k:=Nat.div_pos h hp;have hne:a/2^k≠0:=by omega
 have h1:xL (a/2^k)=Nat.log2 (a/2^k)+1:=by unfold xL;rw[if_neg hne]
 have h2:2^Nat.log2 (a/2^k)<=a/2^k:=Nat.log2_self_le hne;have h3:a/2^k<2^(Nat.log2 (a/2^k)+1):=Nat.lt_log2_self
 have h4:2^(Nat.log2 (a/2^k)+k)<=a:=by
  rw[Nat.pow_add];exact Nat.le_trans (Nat.mul_le_mul_right _ h2) (Nat.div_mul_le_self _ _)
 have h5:a<2^(Nat.log2 (a/2^k)+k+1):=by
  have:a<2^(Nat.log2 (a/2^k)+1)*2^k:=by
   rw[<-Nat.div_lt_iff_lt_mul hp];exact h3
  rw[<-Nat.pow_add] at this
  rwa [show Nat.log2 (a/2^k)+k+1=Nat.log2 (a/2^k)+1+k by omega]
 rw[Yi h4 h5,h1];omega
def fB:Nat->Nat->Nat
 |0,_=>0
 |i+1,a=>fB i a+U9 (a.testBit i)
def R1:Nat->Nat->Nat
 |0,_=>0
 |i+1,a=>if fB i a=0/\a.testBit i=false then R1 i a+1 else R1 i a
theorem zO:∀(i a:Nat),fB i a<=i
 |0,_=>Nat.le_refl _
 |i+1,a=>by have:=zO i a;have:=Yh (a.testBit i);simp only[fB];omega
theorem R2:∀(i a:Nat),R1 i a<=i
 |0,_=>Nat.le_refl _
 |i+1,a=>by have:=R2 i a;simp only[R1];split<;>omega
theorem w5:∀(i a:Nat),fB i a=0↔a%2^i=0
 |0,a=>by simp[fB,Nat.mod_one]
 |i+1,a=>by
  have ih:=w5 i a;have hp:=Nat.two_pow_pos i;have hm:=rD a i;simp only[fB,hm];cases hb:a.testBit i<;>simp[U9]<;>omega
theorem EE:∀(i a:Nat),a%2^i=0->R1 i a=i
 |0,_,_=>rfl
 | i+1,a,h=>by
  have hp:=Nat.two_pow_pos i;have hm:=rD a i;rw[h] at hm;have h1:a%2^i=0:=by omega
  have hb:a.testBit i=false:=by
   cases hb:a.testBit i with
   |false=>rfl
   |true=>rw[hb] at hm;simp[U9] at hm;omega
  simp only[R1];rw[if_pos ⟨(w5 i a).2 h1,hb⟩,EE i a h1]
theorem W2{a k:Nat}(h0:a%2^k=0)(hb:a.testBit k=true):∀i,k<=i->R1 i a=k
 |0,h=>by
  have:k=0:=by omega
  subst this;rfl
 | i + 1,h=>by
  by_cases he:k=i+1
  · subst he;exact EE _ _ h0
  · have ih:=W2 h0 hb i (by omega)
    simp only[R1];rw[if_neg]
    · exact ih
    · rintro⟨h1,h2⟩
      by_cases TV:k=i
      · subst TV;rw[hb] at h2;cases h2
      · have h3:=(w5 i a).1 h1
        have h4:a%2^(k+1)=0:=by
         have:2^(k+1) ∣ 2^i:=Nat.pow_dvd_pow 2 (by omega);exact Nat.mod_eq_zero_of_dvd (Nat.dvd_trans this (Nat.dvd_of_mod_eq_zero h3))
        have h5:=rD a k;rw[h4,hb] at h5;have:=Nat.two_pow_pos k;simp[U9] at h5;omega
theorem OO(a k m:Nat)(h:a=2^k*(2*m+1)):a%2^k=0/\a.testBit k=true:=by
 subst h;refine⟨Nat.mul_mod_right _ _,?_⟩;have:2^k*(2*m+1)=(2*m+1)*2^k:=Nat.mul_comm _ _;rw[this,Nat.testBit_mul_two_pow];simp
theorem Yj(hn:n<=64)(h:a<2^n):min (Lib.ctz 64 a) n=R1 n a:=by
 have Va:a<2^64:=Nat.lt_of_lt_of_le h (Nat.pow_le_pow_right (by decide) hn);by_cases h0:a=0
 · subst h0
   rw[EE n 0 (Nat.zero_mod _)];have:Lib.ctz 64 0=64:=rfl;rw[this];omega
 · have e:Lib.ctz 64 a=Lib.ctzFrom 64 a:=by unfold Lib.ctz;rw[if_neg h0]
   obtain⟨m,h1,h2⟩:=Lib.ctzFrom_spec 64 a (by omega) Va;rw[e];generalize Lib.ctzFrom 64 a=k at*;obtain⟨h3,h4⟩:=OO a k m h1
   have hk:k<n:=by
    refine Nat.lt_of_not_le λhle=>?_;have:=Nat.testBit_lt_two_pow (Nat.lt_of_lt_of_le h (Nat.pow_le_pow_right (show 0<2 by decide) hle));rw[this] at h4;cases h4
   rw[W2 h3 h4 n (by omega)];omega
def unF(n:Nat)(op:Int)(A:Nat):Nat:=if op=0 then n-xL A else if op=1 then R1 n A else if op=2 then fB n A else if A=0 then 1 else 0
end Go.Hl
end
section
namespace Go.Hl
open Go.RowKit
theorem af7(n:Int)(h0:0<=n)(h1:n<2^8):IntKind.u8.wrap n=n:=fm (Mj h0 (by omega))
section
variable {P:Program} {hs:List HP} {env:Env} {q:VP} {dst:Option Tmp} {ty T T2 T' E:TypeId} {pos:String} {after:Array Edge} {gd:Option (Nat×Bool)} {x y z:Operand}
theorem A4{a b:Nat}(ha:a<256)(hb:b<256)(hx:bA env x (af .u8 (a:Int)))(hy:bA env y (af .u8 (b:Int))):bw P hs env ⟨dst, .binOp .and T x y T',ty,pos,after,gd⟩ (af .u8 ((a &&& b:Nat):Int)):=
 bw.aM λρ w S F _ he=>by
  have h1:=he.o _ _ hx;have h2:=he.o _ _ hy;simp only[ag] at h1 h2
  exact⟨.int .u8 ((a &&& b:Nat):Int),by simp[execOp,h1,h2,go_sem,(bits_nat .u8 8 (by decide) af7 a b (by omega) (by omega)).1],rfl⟩
theorem M0{a b:Nat}(ha:a<256)(hb:b<256)(hx:bA env x (af .u8 (a:Int)))(hy:bA env y (af .u8 (b:Int))):bw P hs env ⟨dst, .binOp .or T x y T',ty,pos,after,gd⟩ (af .u8 ((a|||b:Nat):Int)):=
 bw.aM λρ w S F _ he=>by
  have h1:=he.o _ _ hx;have h2:=he.o _ _ hy;simp only[ag] at h1 h2
  exact⟨.int .u8 ((a|||b:Nat):Int),by simp[execOp,h1,h2,go_sem,(bits_nat .u8 8 (by decide) af7 a b (by omega) (by omega)).2],rfl⟩
theorem OP{n:Int}(h1: -9223372036854775808<=n)(h2:n<=9223372036854775807):bits .xor .i64 (-1) n= -n-1:=by
 have e:BitVec.ofInt 64 (-1)^^^BitVec.ofInt 64 n= ~~~ (BitVec.ofInt 64 n):=by rw[show BitVec.ofInt 64 (-1)=BitVec.allOnes 64 from by decide,BitVec.allOnes_xor]
 show IntKind.i64.wrap ((BitVec.ofInt 64 (-1)^^^BitVec.ofInt 64 n).toNat:Int)= -n-1
 rw[e,BitVec.toNat_not,BitVec.toNat_ofInt];unfold IntKind.wrap;simp only[IntKind.signed,IntKind.bits];simp;omega
theorem OQ{n:Int}(h1: -9223372036854775808<=n)(h2:n<=9223372036854775807)(hx:bA env x (af .i64 n)):bw P hs env ⟨dst, .unOp .xor T x,ty,pos,after,gd⟩ (af .i64 (-n-1)):=
 bw.aM λρ w S F _ he=>by
  have h3:=he.o _ _ hx;simp only[ag] at h3
  exact⟨.int .i64 (-n-1),by simp[execOp,h3,go_sem,OP h1 h2,show IntKind.i64.signed=true from rfl],rfl⟩
end
theorem pK(n:Int):IntKind.u8.wrap n=((n%256).toNat:Int):=by
 unfold IntKind.wrap;simp[IntKind.signed,IntKind.bits];omega
theorem Hi(k:Nat):k &&& 127<256:=Nat.lt_of_le_of_lt Nat.and_le_right (by decide)
theorem R3{k:Nat}(h:k<256):k|||128<256:=Nat.or_lt_two_pow (n:=8) h (by decide)
theorem pL{k:Nat}(h:k<256):aa (af .u8 (k:Int)) (af .u8 ((UInt8.ofNat k).toNat:Int)):=aa.int (by simp;omega)
theorem Vb(a:Nat):xL a=Qz a:=rfl
theorem Vc(n:Int):kI n=(xL (if n<0 then(-n-1).toNat else n.toNat)+7)/7:=OE n.natAbs n (Nat.le_refl _)
theorem af8{a:Nat}(h:a<18446744073709551616):xL a<=64:=by rw[Vb];exact Ko (k:=64) h
def uQ(x:aj):Int:=(eZ x.Code).elim (-1) (·.Form)
theorem A5{x:aj}(h:eZ x.Code=none):uQ x= -1/\iO x.Code=[]:=by unfold uQ;rw[h];exact⟨rfl,ry h⟩
theorem A6{x:aj}{i:pF}(h:eZ x.Code=some i):uQ x=aP x.Code/\iO x.Code≠[]:=by
 unfold uQ;rw[h];have:=lQ h;exact⟨this.2.2.2.1,this.2.2.1⟩
theorem vz(c:Int):0<=aP c/\aP c<=11:=by unfold aP;repeat (first|split|omega)
theorem M1{c:Int}(h:aP c=11):c=65\/c=66:=by
 unfold aP at h
 repeat' split at h
 all_goals omega
theorem R4{x:aj}(hA:0<=x.A)(hB:0<=x.B):iH x↔nB x (uQ x):=by
 rw[G9 hA hB (vz _) (λh=>M1 h) (λh=>by rw[h];decide)];cases hf:eZ x.Code with
 |none=>
  obtain⟨h1,h2⟩:=A5 hf;rw[h1,h2];constructor
  · rintro⟨h,_⟩;exact absurd rfl h
  · intro h;unfold nB at h;omega
 |some i=>
  obtain⟨h1,h2⟩:=A6 hf;rw[h1];exact⟨λh=>h.2,λh=>⟨h2,h⟩⟩
theorem Kw{x:aj}(hA:0<=x.A)(hB:0<=x.B)(h:iH x):uQ x=aP x.Code/\iO x.Code≠[]:=by
 cases hf:eZ x.Code with
 |none=>exact absurd (A5 hf).2 h.1
 |some i=>exact A6 hf
theorem zP{c:Int}(h:iO c≠[]):0<=c/\c<=196\/64522<=c/\c<=64523:=by
 by_cases h2:c<0\/196<c/\c<64522\/64523<c
 · exact absurd (ry (GY h2)) h
 · omega
end Go.Hl
namespace Go.Hl
def s8(l:List Int):Nat:=(l.map bU).sum
theorem DG(l:List Int)(n:Int):s8 (l++[n])=s8 l+bU n:=by simp[s8]
theorem rE:∀(l:List Int),(∀n∈l,0<=n/\n<18446744073709551616)->s8 l<=10*l.length
 |[],_=>by simp[s8]
 |n::l,h=>by
  have h1:=rE l (λm hm=>h m (List.mem_cons_of_mem _ hm));have h2:=h n (List.mem_cons_self ..);have h3:bU n<=10:=ew (by omega);simp only[s8,List.map_cons,List.sum_cons,List.length_cons] at h1 ⊢;omega
def pM(x:aj):Nat:=if 64512<=x.Code then 1+bU (x.Code-64512) else 1
def lu(x:aj):Int:=if x.Code=65 then(if x.A<2147483648 then x.A else x.A-4294967296) else(if x.A<9223372036854775808 then x.A else x.A-18446744073709551616)
def Kx(x:aj):Nat:=(if x.A=0 then bU x.ei else bU (x.ei+64)+bU x.A)+bU x.B
theorem iX(x:aj):nR x=pM x+(if aP x.Code=1 then 1
   else if aP x.Code=2\/aP x.Code=4\/aP x.Code=6\/aP x.Code=7\/aP x.Code=9 then bU x.A
   else if aP x.Code=3 then gy x.L.length+s8 x.L+bU x.A
   else if aP x.Code=5\/aP x.Code=10 then bU x.A+bU x.B
   else if aP x.Code=8 then Kx x
   else if aP x.Code=11 then kI (lu x) else 0):=rfl
theorem M3{a:Int}(h0:0<=a)(h1:a<18446744073709551616):IntKind.i64.wrap a=if a<9223372036854775808 then a else a-18446744073709551616:=by
 by_cases h:a<9223372036854775808
 · rw[if_pos h];unfold IntKind.wrap;simp only[IntKind.signed,IntKind.bits];simp;omega
 · rw[if_neg h];unfold IntKind.wrap;simp only[IntKind.signed,IntKind.bits];simp;omega
theorem Vd{a:Int}(h0:0<=a)(h1:a<=4294967295):IntKind.i32.wrap a=if a<2147483648 then a else a-4294967296:=by
 by_cases h:a<2147483648
 · rw[if_pos h];unfold IntKind.wrap;simp only[IntKind.signed,IntKind.bits];simp;omega
 · rw[if_neg h];unfold IntKind.wrap;simp only[IntKind.signed,IntKind.bits];simp;omega
end Go.Hl
end
section
namespace Go.Hl
open Go.RowKit
abbrev jr:=Int×Int×Int
def bP(s:jr):List VP:=[af .i64 s.1,af .i64 s.2.1,af .i64 s.2.2]
instance:gX 3 bP:=⟨λ_=>rfl,λx q h=>by simp only[bP,List.mem_cons,List.not_mem_nil,or_false] at h;rcases h with h|h|h<;>rw[h]<;>infer_instance⟩
instance (x:jr):bD (bP x):=bD.of x
def fU(n:Nat):List VP:=[af .i64 (n:Int)]
instance:gX 1 fU:=⟨λ_=>rfl,λx q h=>by simp only[fU,List.mem_cons,List.not_mem_nil,or_false] at h;rw[h];infer_instance⟩
instance (x:Nat):bD (fU x):=bD.of x
def rF(r:Nat×UInt8):List VP:=[af .i64 (r.1:Int),af .u8 (r.2.toNat:Int)]
instance:gX 2 rF:=⟨λ_=>rfl,λx q h=>by simp only[rF,List.mem_cons,List.not_mem_nil,or_false] at h;rcases h with h|h<;>rw[h]<;>infer_instance⟩
instance (x:Nat×UInt8):bD (rF x):=bD.of x
structure QB where
 gp:SB
 go:SB
 sp:List jr
 op:List Nat
 cl:Prop
 dp:Int
abbrev EF(nb:Nat)(l:List aj)(z:QB):List HP:=[az nb [ai 5 aB l,ag (bI z.gp z.sp.length),ag (bI z.go z.op.length),av z.cl,af .i64 z.dp],aH z.gp 3 bP z.sp,aH z.go 1 fU z.op]
def Hj(l:List aj)(sp:List jr)(p:Nat)(ce:Int×Bool):Prop:=∃(i:Nat) (el en:Int) (x:aj),sp[p]?=some ((i:Int),el,en)/\l[i]?=some x/\x.Code=ce.1/\(ce.2=true↔el≠ -1)
structure iQ(l:List aj)(sp:List jr)(op:List Nat)(rs:List (Int×Bool)):Prop where
 len:op.length=rs.length
 inc:op.Pairwise (· < ·)
 rel:∀(k p:Nat) (ce:Int×Bool),op[k]?=some p->rs[k]?=some ce->Hj l sp p ce
theorem iQ.nil(l:List aj)(sp:List jr):iQ l sp [] []:=⟨rfl,List.Pairwise.nil,λk p ce h=>by simp at h⟩
theorem iQ.at_{l:List aj}{sp:List jr}{op:List Nat}{rs:List (Int×Bool)}(h:iQ l sp op rs){p:Nat}(hp:p∈op):∃ce,Hj l sp p ce:=by
 obtain⟨k,hk⟩:=List.mem_iff_getElem?.1 hp;have hl:k<rs.length:=by have:=(List.getElem?_eq_some_iff.1 hk).1;rw[h.len] at this;exact this
 exact⟨_,h.rel k p _ hk (List.getElem?_eq_getElem hl)⟩
theorem Hj.lt{l:List aj}{sp:List jr}{p:Nat}{ce:Int×Bool}(h:Hj l sp p ce):p<sp.length:=by
 obtain⟨_,_,_,_,h1,_⟩:=h;exact(List.getElem?_eq_some_iff.1 h1).1
theorem iQ.begin{l:List aj}{sp:List jr}{op:List Nat}{rs:List (Int×Bool)}(h:iQ l sp op rs){i:Nat}{x:aj}(hx:l[i]?=some x):iQ l (sp++[((i:Int),-1,-1)]) (op++[sp.length]) (rs++[(x.Code,false)]):=by
 refine⟨by simp[h.len],?_,λk p ce hk hr=>?_⟩
 · rw[List.pairwise_append]
   refine⟨h.inc,List.pairwise_singleton _ _,λa ha b hb=>?_⟩;simp only[List.mem_singleton] at hb;subst hb
   obtain⟨ce,hce⟩:=h.at_ ha;exact hce.lt
 · by_cases JN:k<op.length
   · rw[List.getElem?_append_left JN] at hk
     rw[List.getElem?_append_left (by rw[<-h.len];exact JN)] at hr;obtain⟨j,el,en,y,h1,h2,h3,h4⟩:=h.rel k p ce hk hr;exact⟨j,el,en,y,by rw[List.getElem?_append_left (List.getElem?_eq_some_iff.1 h1).1];exact h1,h2,h3,h4⟩
   · rw[List.getElem?_append_right (by omega)] at hk
     rw[List.getElem?_append_right (by rw[<-h.len];omega)] at hr
     have JC:k-op.length=0:=by
      have:=(List.getElem?_eq_some_iff.1 hk).1;simp at this;omega
     rw[JC] at hk;rw[<-h.len,JC] at hr;simp at hk hr;subst hk;subst hr
     exact⟨i,-1,-1,x,by simp,hx,rfl,by simp⟩
theorem EG{α:Type}{o:List α}{p:α}:(o++[p])[o.length]?=some p:=by simp
theorem iQ.top{l:List aj}{sp:List jr}{o:List Nat}{p:Nat}{rs:List (Int×Bool)}{ce:Int×Bool}(h:iQ l sp (o++[p]) (rs++[ce])):Hj l sp p ce:=by
 have hl:o.length=rs.length:=by have:=h.len;simp at this;exact this
 exact h.rel o.length p ce EG (by rw[hl];exact EG)
theorem iQ.Yk{l:List aj}{sp:List jr}{o:List Nat}{p:Nat}{rs:List (Int×Bool)}(h:iQ l sp (o++[p]) rs):p∉o:=λhp=>by
 have:=(List.pairwise_append.1 h.inc).2.2 p hp p (by simp);omega
theorem Hj.set{l:List aj}{sp:List jr}{p q:Nat}{s:jr}{ce:Int×Bool}(h:Hj l sp q ce)(hne:q≠p):Hj l (sp.set p s) q ce:=by
 obtain⟨j,el,en,y,h1,h2⟩:=h;exact⟨j,el,en,y,by rw[List.getElem?_set_ne (by omega)];exact h1,h2⟩
theorem iQ.pop{l:List aj}{sp:List jr}{o:List Nat}{p:Nat}{rs:List (Int×Bool)}{ce:Int×Bool}(h:iQ l sp (o++[p]) (rs++[ce]))(s:jr):iQ l (sp.set p s) o rs:=by
 have hl:o.length=rs.length:=by have:=h.len;simp at this;exact this
 refine⟨hl,(List.pairwise_append.1 h.inc).1,λk q c hk hr=>?_⟩;have hq:q∈o:=List.mem_of_getElem? hk;refine(h.rel k q c ?_ ?_).set (λe=>h.Yk (e▸hq))
 · rw[List.getElem?_append_left (List.getElem?_eq_some_iff.1 hk).1];exact hk
 · rw[List.getElem?_append_left (List.getElem?_eq_some_iff.1 hr).1];exact hr
theorem iQ.other{l:List aj}{sp:List jr}{o:List Nat}{p:Nat}{rs:List (Int×Bool)}{c:Int}{e:Bool}(h:iQ l sp (o++[p]) (rs++[(c,e)])){i:Nat}{el en:Int}{x:aj}(hs:sp[p]?=some ((i:Int),el,en))(hx:l[i]?=some x)(hc:x.Code=c){j:Nat}:
    iQ l (sp.set p ((i:Int),(j:Int),en)) (o++[p]) (rs++[(c,true)]):=by
  have hl:o.length=rs.length:=by have:=h.len;simp at this;exact this
  have aK9:=h.pop ((i:Int),(j:Int),en);refine⟨by simp[hl],h.inc,λk q ce hk hr=>?_⟩;by_cases JN:k<o.length
  · rw[List.getElem?_append_left JN] at hk
    rw[List.getElem?_append_left (by omega)] at hr;exact aK9.rel k q ce hk hr
  · rw[List.getElem?_append_right (by omega)] at hk
    rw[List.getElem?_append_right (by omega)] at hr
    have JC:k-o.length=0:=by
      have:=(List.getElem?_eq_some_iff.1 hk).1;simp at this;omega
    rw[JC] at hk;rw[<-hl,JC] at hr;simp at hk hr;subst hk;subst hr
    exact⟨i,j,en,x,by rw[List.getElem?_set_self (List.getElem?_eq_some_iff.1 hs).1],hx,hc,by simp⟩
def gf(cl:Prop)(rs:List (Int×Bool))(r:List Int):Prop:=(cl/\r=[])\/(¬cl/\fQ r rs.reverse)
theorem Ky{rs:List (Int×Bool)}{c:Int}{r:List Int}(h:aN c)(hl:rs.length≠64)(hb:rs.length<=64):gf False rs (c::r)↔gf False (rs++[(c,false)]) r:=by
 simp only[gf,false_and,not_false_eq_true,true_and,false_or,List.reverse_append,List.reverse_cons,List.reverse_nil,List.nil_append,List.singleton_append];rw[jj,if_pos h];simp only[List.length_reverse];exact⟨λh=>h.2,λh=>⟨by omega,h⟩⟩
theorem Kz{rs:List (Int×Bool)}{c:Int}{r:List Int}(h:aN c)(hl:rs.length=64):¬gf False rs (c::r):=by
 simp only[gf,false_and,not_false_eq_true,true_and,false_or];rw[jj,if_pos h];simp only[List.length_reverse];omega
theorem Cx{r:List Int}:¬gf False [] (5::r):=by
 simp only[gf,false_and,not_false_eq_true,true_and,false_or,List.reverse_nil];rw[jj];simp[aN]
theorem A7{rs:List (Int×Bool)}{b:Int}{e:Bool}{r:List Int}:gf False (rs++[(b,e)]) (5::r)↔(b=4/\e=false)/\gf False (rs++[(b,true)]) r:=by
 simp only[gf,false_and,not_false_eq_true,true_and,false_or,List.reverse_append,List.reverse_cons,List.reverse_nil,List.nil_append,List.singleton_append];rw[jj];simp[aN]
theorem A8{r:List Int}:gf False [] (11::r)↔gf True [] r:=by
 simp only[gf,false_and,not_false_eq_true,true_and,false_or,not_true_eq_false,or_false,List.reverse_nil];rw[jj];simp[aN]
theorem OR{rs:List (Int×Bool)}{ce:Int×Bool}{r:List Int}:gf False (rs++[ce]) (11::r)↔gf False rs r:=by
 simp only[gf,false_and,not_false_eq_true,true_and,false_or,List.reverse_append,List.reverse_cons,List.reverse_nil,List.nil_append,List.singleton_append];rw[jj];simp[aN]
theorem Ho{rs:List (Int×Bool)}{c:Int}{r:List Int}(h1:¬aN c)(h2:c≠5)(h3:c≠11):gf False rs (c::r)↔gf False rs r:=by
 simp only[gf,false_and,not_false_eq_true,true_and,false_or];rw[jj,if_neg h1,if_neg h2,if_neg h3]
theorem EH{rs:List (Int×Bool)}{c:Int}{r:List Int}:¬gf True rs (c::r):=by simp[gf]
theorem OS{cl:Prop}{rs:List (Int×Bool)}:gf cl rs []↔cl:=by simp[gf,fQ]
theorem M4{α β:Type}{n k:Nat}{e1:α->List VP}{e2:β->List VP}{r:List HP}:aF r (aH none n e1 []::aH none k e2 []::r):=λF S w h=>
 ⟨λ_=>False,F,λ_ h=>h.elim,λ_ h=>h,rfl,λ_=>False,F,λ_ h=>h.elim,λ_ h=>h,rfl,h⟩
noncomputable section
open Classical
def Hp(c:Int)(j:Nat)(s:List jr×List Nat):List jr×List Nat:=
 if aN c then(s.1++[((j:Int),-1,-1)],s.2++[s.1.length])
 else match s.2.getLast? with
  |none=>s
  |some p=>match s.1[p]? with
   |none=>s
   |some (b,el,en)=>if c=5 then(s.1.set p (b,(j:Int),en),s.2) else if c=11 then(s.1.set p (b,el,(j:Int)),s.2.dropLast) else s
def M5(l:List aj):Nat->List jr×List Nat
 |0=>([],[])
 |i+1=>match l[i]? with
  |some x=>Hp x.Code i (M5 l i)
  |none=>M5 l i
theorem af9{l:List aj}{i:Nat}{x:aj}(h:l[i]?=some x):M5 l (i+1)=Hp x.Code i (M5 l i):=by show(match l[i]? with|some x=>Hp x.Code i (M5 l i)|none=>M5 l i)=_;rw[h]
def lS(l:List aj):List jr:=(M5 l l.length).1
end
def nsQ(c:Int)(j:Nat)(z0 z:QB):Prop:=(z.sp,z.op)=Hp c j (z0.sp,z0.op)
def nsP(l:List aj)(cl:Prop)(rs:List (Int×Bool))(c:Int)(j:Nat)(z0:QB)(e:Int)(z:QB):Prop:=
 (e=0/\nsQ c j z0 z/\z.sp.length<=z0.sp.length+1/\z.op.length<=64/\∃rs',iQ l z.sp z.op rs'/\∀r,gf cl rs (c::r)↔gf z.cl rs' r)\/(e≠0/\∀r,¬gf cl rs (c::r))
theorem R5{c:Int}{j:Nat}{s:List jr×List Nat}(h:aN c):Hp c j s=(s.1++[((j:Int),-1,-1)],s.2++[s.1.length]):=if_pos h
theorem R6{j p:Nat}{sp:List jr}{o:List Nat}{b el en:Int}(h:sp[p]?=some (b,el,en)):Hp 5 j (sp,o++[p])=(sp.set p (b,(j:Int),en),o++[p]):=by
 unfold Hp;rw[if_neg (by unfold aN;omega)];simp[h]
theorem Ve{j p:Nat}{sp:List jr}{o:List Nat}{b el en:Int}(h:sp[p]?=some (b,el,en)):Hp 11 j (sp,o++[p])=(sp.set p (b,el,(j:Int)),o):=by
 unfold Hp;rw[if_neg (by unfold aN;omega)];simp[h]
theorem R7{j:Nat}{sp:List jr}:Hp 11 j (sp,[])=(sp,[]):=by
 unfold Hp;rw[if_neg (by unfold aN;omega)];rfl
theorem OT{c:Int}{j:Nat}{s:List jr×List Nat}(h1:¬aN c)(h2:c≠5)(h3:c≠11):Hp c j s=s:=by
 unfold Hp;rw[if_neg h1];cases s.2.getLast? with
 |none=>rfl
 |some p=>
  simp only;cases s.1[p]? with
  |none=>rfl
  |some x=>obtain⟨b,el,en⟩:=x;simp only;rw[if_neg h2,if_neg h3]
end Go.Hl
end
section
namespace Go.Hl
theorem Hq(t:UInt8):bF [] t=[(1,t)]:=rfl
theorem w6(m:List (Nat×UInt8))(n:Nat)(t:UInt8):bF (m++[(n,t)]) t=m++[(n+1,t)]:=by rw[rC];simp[bF]
variable {t:UInt8}
theorem uR(m:List (Nat×UInt8))(n:Nat){t':UInt8}(h:¬t=t'):bF (m++[(n,t)]) t'=(m++[(n,t)])++[(1,t')]:=by rw[rC];simp[bF,h]
theorem vA{l:List UInt8}{k:Nat}(h:l[k]?=some t):(l.take (k+1)).foldl bF []=bF ((l.take k).foldl bF []) t:=by
 rw[<-bE h,List.foldl_append];rfl
theorem KA{o:List (Nat×UInt8)}{M:Nat}(h:∀p∈o,p.1<=M):(∀p∈bF o t,p.1<=M+1)/\(bF o t).length<=o.length+1:=by
 rcases List.eq_nil_or_concat o with rfl|⟨m,⟨n,t'⟩,rfl⟩
 · simp[Hq]
 · rw [List.concat_eq_append] at h ⊢
   by_cases e:t'=t
   · subst e
     rw[w6];refine⟨λp hp=>?_,by simp⟩;rcases List.mem_append.1 hp with hp|hp
     · have:=h p (by simp[hp]);omega
     · simp only[List.mem_singleton] at hp;subst hp
       have:=h (n,t') (by simp);simp only at this ⊢;omega
   · rw[uR _ _ e]
     refine⟨λp hp=>?_,by simp⟩;rcases List.mem_append.1 hp with hp|hp
     · have:=h p hp;omega
     · simp only[List.mem_singleton] at hp;subst hp;simp
theorem zQ:∀(l:List UInt8) (o:List (Nat×UInt8)) (M:Nat),(∀p∈o,p.1<=M)->(∀p∈l.foldl bF o,p.1<=M+l.length)/\(l.foldl bF o).length<=o.length+l.length
 |[],o,M,h=>⟨by simpa using h,by simp⟩
 |t::l,o,M,h=>by
  obtain⟨h1,h2⟩:=KA (t:=t) h;obtain⟨h3,h4⟩:=zQ l _ _ h1;simp only[List.foldl_cons,List.length_cons];exact⟨λp hp=>by have:=h3 p hp;omega,by omega⟩
theorem EI{x:aj}(h:nJ x)(r:iH x):nR x<=1100:=by
 obtain⟨r1,r2,r3,r4,r5,r6⟩:=r;have hL:x.L.length<=100:=r6.elim (λh=>by rw[h];simp) (λh=>h.2);have hA:bU x.A<=10:=ew (by have:=h.A0;have:=h.wY;omega);have hB:bU x.B<=10:=ew (by have:=h.B0;have:=h.B64;omega);have hs:=rE x.L (λn hn=>⟨h.L0 n hn,by have h9:n<=4294967295:=r5 n hn;omega⟩);have hl:gy x.L.length<=10:=ew (by omega);have ha:bU x.ei<=10:=ew (by have:=h.Yg;omega);have ha2:bU (x.ei+64)<=10:=ew (by have:=h.Yg;omega);have hm:Kx x<=30:=by unfold Kx;split<;>omega
 have OL:x.Code=65->x.A<=4294967295:=λOL=>Classical.byContradiction λh9=>r2 (.inr (.inl ⟨OL,h9⟩));have hw:kI (lu x)<=10:=zK (by have:=h.A0;have:=h.wY;unfold lu;(repeat split)<;>(try omega)) (by have:=h.A0;have:=h.wY;unfold lu;split<;>(try have:=OL (by assumption))<;>split<;>omega)
 have hh:pM x<=11:=by
  unfold pM
  split
  · have:bU (x.Code-64512)<=10:=ew (by have:=zP r1;omega)
    omega
  · omega
 rw[iX]
 repeat (first|split|omega)
def ye(l:List aj):Nat:=(l.map nR).sum
theorem DH(l:List aj)(x:aj):ye (l++[x])=ye l+nR x:=by simp[ye]
theorem EJ:∀(l:List aj),(∀x∈l,nJ x/\iH x)->ye l<=1100*l.length
 |[],_=>by simp[ye]
 |x::l,h=>by
  have h1:=EJ l (λy hy=>h y (List.mem_cons_of_mem _ hy));have h2:=h x (List.mem_cons_self ..);have h3:=EI h2.1 h2.2;simp only[ye,List.map_cons,List.sum_cons,List.length_cons] at h1 ⊢;omega
def A9(r:List (Nat×UInt8)):Nat:=(r.map λp=>gy p.1+1).sum
theorem OU(r:List (Nat×UInt8))(p:Nat×UInt8):A9 (r++[p])=A9 r+(gy p.1+1):=by simp[A9]
theorem EK:∀(r:List (Nat×UInt8)),(∀p∈r,p.1<=1000000)->A9 r<=11*r.length
 |[],_=>by simp[A9]
 |p::r,h=>by
  have h1:=EK r (λq hq=>h q (List.mem_cons_of_mem _ hq));have h2:=h p (List.mem_cons_self ..);have h3:gy p.1<=10:=ew (by omega);simp only[A9,List.map_cons,List.sum_cons,List.length_cons] at h1 ⊢;omega
theorem Vf(b:j8):Kq b=gy (b.aV.foldl bF []).length+A9 (b.aV.foldl bF [])+ye b.L:=by
 unfold Kq A9 ye;rw[<-U8];simp[List.map_map,Function.comp_def]
theorem nJ.of{x:aj}(h:p9 x)(r:iH x):nJ x where
 top9:=h
 A16:=λe=>by
  have hf:aP x.Code≠11:=by rw[e];decide
  have h1:=r.2.1;have h2:um x.A:=Classical.byContradiction λh9=>h1 (.inl ⟨hf,h9⟩);have:=h.A0;unfold um at h2;omega
 a0:=by have h1:=r.2.2.2.1;omega
 Yg:=by have h1:=r.2.2.2.1;omega
structure Vg(b:j8):Prop where
 ins:∀x∈b.L,p9 x
 len:b.L.length<=10000
 loc:b.aV.length<=60000
end Go.Hl
end
section
namespace Go.Hl
open Go.RowKit
def M6(rest:List aj)(fs:List eT):Prop:=(fs=[]/\rest=[])\/∃st:List (Int×Bool),st.length+1=fs.length/\fQ (rest.map (·.Code)) st
theorem Hr{x:aj}{r:List aj}{fs:List eT}(h:M6 (x::r) fs):∃gs b,fs=gs++[b]:=by
 rcases h with⟨_,h⟩|⟨st,h,_⟩
 · cases h
 · exact nS (λe=>by rw[e] at h;simp at h)
theorem KB{m:aT}{f:cn}{x:aj}{r:List aj}{fs fs':List eT}{b:eT}(h:M6 (x::r) (fs++[b]))(hs:jN m f x fs b=some fs'):M6 r fs':=by
 rcases h with⟨h,_⟩|⟨st,hl,hn⟩
 · simp at h
 simp only[List.length_append,List.length_cons,List.length_nil] at hl;rw[List.map_cons,jj] at hn;by_cases h11:x.Code=11
 · rw [if_neg (by rw[h11];decide),if_neg (by omega),if_pos h11] at hn
   unfold jN cR at hs;rw[if_pos h11] at hs
   split at hs
   · simp only[Option.some.injEq] at hs
     subst hs;cases st with
     |nil=>
      simp only at hn;have:fs=[]:=List.eq_nil_of_length_eq_zero (by simp only[List.length_nil] at hl;omega);subst this;exact .inl ⟨rfl,by simpa using hn⟩
     |cons p t=>
      simp only at hn;rcases List.eq_nil_or_concat fs with rfl|⟨gs,y,rfl⟩
      · simp at hl
      · refine .inr ⟨t,?_,hn⟩
        simp only[List.concat_eq_append,List.getLast?_append,List.getLast?_singleton,Option.some_or,List.dropLast_concat,List.length_append,List.length_cons,List.length_nil] at hl ⊢;omega
   · cases hs
 by_cases h5:x.Code=5
 · rw [if_neg (by rw[h5];decide),if_pos h5] at hn
   unfold jN cR at hs;rw[if_neg h11,if_pos h5] at hs
   split at hs
   · simp only[Option.some.injEq] at hs
     subst hs;cases st with
     |nil=>exact hn.elim
     |cons p t=>
      obtain⟨pb,pe⟩:=p;simp only at hn;exact .inr ⟨(pb,true)::t,by simpa using hl,hn.2⟩
   · cases hs
 by_cases ho:aN x.Code
 · rw[if_pos ho] at hn
   unfold jN cR at hs;rw[if_neg h11,if_neg h5,if_pos ho] at hs;obtain⟨s,_,rfl⟩:=Option.map_eq_some_iff.1 hs;exact .inr ⟨(x.Code,false)::st,by simp;omega,hn.2⟩
 · rw[if_neg ho,if_neg h5,if_neg h11] at hn
   rw[AX h11 h5 ho] at hs;obtain⟨s,_,rfl⟩:=Option.map_eq_some_iff.1 hs;exact .inr ⟨st,by simp;omega,hn⟩
theorem KC{m:aT}{f:cn}(h:dB m):∀g∈(bR m f).aq,g.R.length<=20:=λg hg=>by
 obtain⟨k,hk⟩:=List.mem_iff_getElem?.1 hg;have h9:=qz (f:=f) (n:=(k:Int)) h;have:eG (bR m f).aq (k:Int)=some g:=by unfold eG;rw[if_pos ⟨by have:=(List.getElem?_eq_some_iff.1 hk).1;omega,by omega⟩];simpa using hk
 rw[this] at h9;exact(h.Co g (zG h9.symm)).2
theorem R8(x:aj):(eH x).length<=20:=by unfold eH;split<;>simp
structure w7(m:aT)(f:cn)(i:Nat)(hts:List Nat)(fs:List eT):Prop where
 Co:ED fs
 hgt:su fs<=20*i
 len:fs.length<=1+i
 nest:M6 (f.Body.L.drop i) fs
 run:cN m f=(kG (·.Code) eH (fZ (bR m f)) (f.Body.L.drop i) fs).map (hts++ ·)
theorem w7.init{m:aT}{f:cn}(h:dB m)(hs:bJ m f.fW∈m.bQ)(hn:fQ (f.Body.L.map (·.Code)) []):w7 m f 0 [] [eT.mk False False (bJ m f.fW).R ([],False)] where
 Co:=λk hk=>by simp only[List.mem_singleton] at hk;subst hk;exact(h.Co _ hs).2
 hgt:=by simp[su]
 len:=by simp
 nest:= .inr ⟨[],by simp,by simpa using hn⟩
 run:=by
  show cN m f=(kG _ _ _ f.Body.L _).map ([]++ ·)
  unfold cN;cases kG (λx:aj=>x.Code) eH (fZ (bR m f)) f.Body.L [eT.mk False False (bJ m f.fW).R ([],False)]<;>rfl
theorem uo{α:Type}{l:List α}{i:Nat}{x:α}(h:l[i]?=some x):l.drop i=x::l.drop (i+1):=by
 have hl:=(List.getElem?_eq_some_iff.1 h);rw[List.drop_eq_getElem_cons hl.1,hl.2]
theorem w7.next{m:aT}{f:cn}{i:Nat}{hts:List Nat}{fs fs':List eT}{b:eT}{x:aj}(h:w7 m f i hts (fs++[b]))(hm:dB m)(hx:f.Body.L[i]?=some x)(hs:jN m f x fs b=some fs'):w7 m f (i+1) (hts++[su (fs++[b])]) fs':=by
 obtain⟨g1,g2,g3⟩:=Ku (v:=bR m f) (x:=x) (rr:=eH) (R8 x) h.Co (KC hm) (λg hg=>(hm.Co g hg).2) (by have:=(jZ x.Code).2;omega) hs;have hd:=uo hx;refine⟨g1,by have:=h.hgt;omega,by have:=h.len;simp at this;omega,KB (hd▸h.nest) hs,?_⟩;rw[h.run,hd,qx];have hs':cR (λx:aj=>x.Code) eH (fZ (bR m f)) x fs b=some fs':=hs;rw[hs'];simp only[Option.bind_some,Option.map_map]
 congr 1
 funext l
 simp
theorem w7.ag0{m:aT}{f:cn}{i:Nat}{hts:List Nat}{fs:List eT}{b:eT}{x:aj}(h:w7 m f i hts (fs++[b]))(hx:f.Body.L[i]?=some x)(hs:jN m f x fs b=none):cN m f=none:=by
 rw[h.run,uo hx,qx];have hs':cR (λx:aj=>x.Code) eH (fZ (bR m f)) x fs b=none:=hs;rw[hs'];rfl
theorem w7.done{m:aT}{f:cn}{i:Nat}{hts:List Nat}{fs:List eT}(h:w7 m f i hts fs)(hi:f.Body.L.length<=i):cN m f=some hts:=by
 rw[h.run,List.drop_eq_nil_of_le hi];simp[kG]
structure fV(m:aT):Prop where
 ins:∀f∈m.aq,∀x∈f.Body.L,p9 x
 len:∀f∈m.aq,f.Body.L.length<=2000
 loc:∀f∈m.aq,f.Body.aV.length<=50000
theorem fV.bd{m:aT}(h:fV m){f:cn}(hf:f∈m.aq):Vg f.Body:=⟨h.ins f hf,by have:=h.len f hf;omega,by have:=h.loc f hf;omega⟩
theorem jO{m:aT}(h:dB m){f:cn}(hf:f∈m.aq):kE f.fW m.bQ.length:=Classical.not_not.1 ((cW (by decide)).1 (q7 h.funcs f hf))
theorem oa{m:aT}(h:dB m){f:cn}{i:Nat}(hf:m.aq[i]?=some f):eY m ((m.ay.length:Int)+(i:Int))=some (bJ m f.fW):=by
 have hl:=(List.getElem?_eq_some_iff.1 hf).1;have h1:=qz (f:=f) (n:=(m.ay.length:Int)+(i:Int)) h;rw[<-h1];have hlen:(bR m f).aq.length=m.ay.length+m.aq.length:=by simp[bR]
 unfold eG;rw[if_pos (by rw[hlen];omega)]
 show(m.ay.map (λi=>bJ m i.fW)++m.aq.map (λg=>bJ m g.fW))[_]?=_
 rw[List.getElem?_append_right (by simp;omega),List.getElem?_map,List.length_map];rw[show((m.ay.length:Int)+(i:Int)).toNat-m.ay.length=i by omega,hf];rfl
end Go.Hl
namespace Go.Hl
def eI(l:List UInt8):List VP:=[ai 1 an l]
instance:gX 1 eI:=⟨λ_=>rfl,λx q h=>by simp only[eI,List.mem_cons,List.not_mem_nil,or_false] at h;subst h;infer_instance⟩
end Go.Hl
namespace Go.Hl
def rG(x:List UInt8×Int×Int×Int):List VP:=[dV x.1,af .i64 x.2.1,af .i64 x.2.2.1,af .i64 x.2.2.2]
instance:gX 4 rG:=⟨λ_=>rfl,λx q h=>by simp only[rG,List.mem_cons,List.not_mem_nil,or_false] at h;rcases h with h|h|h|h<;>subst h<;>infer_instance⟩
instance (x:List UInt8×Int×Int×Int):bD (rG x):=bD.of x
end Go.Hl
end
section
namespace Go.Hl
open Go.RowKit
structure Yl(m:aT):Prop where
 gv:∀z∈m.aA,0<=z.Value/\z.Value<18446744073709551616
 el:∀z∈m.bN,0<=z.At/\z.At<18446744073709551616
 da:∀z∈m.dA,0<=z.At/\z.At<18446744073709551616
theorem Vh{t:UInt8}(h:(t.toNat:Int)=126\/(t.toNat:Int)=127):fG t=32\/fG t=64:=by
 unfold fG;rcases h with h|h
 · exact .inr (by rw[if_neg (by omega),if_pos h])
 · exact .inl (if_pos h)
variable {m:aT}
theorem aL0(h:dB m)(hb:Yl m)(hs:ny m):rq m where
 gl:=by have:=hs.globals;omega
 gv:=λz hz=>⟨(hb.gv z hz).1,(hb.gv z hz).2,Vh ((x4 h hz).imp id And.left)⟩
 tb:=by have:=(dw h).table;omega
 ms:=λz hz=>RK h hz
 ml:=by have:=hs.eE;omega
 ll:=by have:=hs.elems;omega
 el:=λe he=>by
  obtain⟨h1,h2,h3,h4⟩:=ru h he;refine⟨(hb.el e he).1,(hb.el e he).2,by omega,λf hf=>?_⟩;have h5:=h4 f hf;have h6:=hs.imports;have h7:=hs.funcs;unfold kE dc at h5;omega
 dl:=by have:=hs.cu;omega
 da:=λd hd=>by
  obtain⟨h1,h2,_⟩:=wN h hd;exact⟨h2,(hb.da d hd).1,(hb.da d hd).2,by omega⟩
noncomputable def Hs(m:aT)(a:ep)(ke:Nat):ep:=vl m (a.height+rj m) (MM m a.height (sY a m) m.aA.length) ke
theorem EL{X:oB}{a:ep}(h:dz X a)(hm:rq m)(hf:a.height+(rj m+Cp m)<=X.size)(ke:Nat):dz X (Hs m a ke)/\pE (sY a m) (Hs m a ke):=by
 have h1:=hm.r1;have h2:=hm.r2
 have h3:dz X (sY a m):=mw (mw h (by omega)) (by simp only;omega);have h4:=sZ (m:=m) (g:=a.height) h3 m.aA.length (by omega);have h5:=zI (m:=m) (t:=a.height+rj m) h4 hm (by omega) ke;exact⟨h5.1,(GN _).trans h5.2⟩
instance (m:aT):bD (bp m):=by unfold bp;infer_instance
def TY(n:Nat):ep:=⟨List.replicate n 0,0,0,[]⟩
theorem Ba{X:oB}{n:Nat}(h:X.size=n)(hn:n<=4194304):dz X (TY n):=⟨by rw[h];exact List.length_replicate,Nat.zero_le _,by omega,Nat.le_refl _⟩
abbrev R9:=Nat×List UInt8
def EM(p:R9):List VP:=[af .u64 (p.1:Int),ai 1 an p.2]
instance:gX 2 EM:=⟨λ_=>rfl,λx q h=>by simp only[EM,List.mem_cons,List.not_mem_nil,or_false] at h;rcases h with h|h<;>subst h<;>infer_instance⟩
structure RM where
 pages:Nat
 most:Nat
 Ym:List R9
def Ht(r:RM):List VP:=[af .i64 (r.pages:Int),af .i64 (r.most:Int),ai 2 EM r.Ym]
instance:gX 3 Ht:=⟨λ_=>rfl,λx q h=>by simp only[Ht,List.mem_cons,List.not_mem_nil,or_false] at h;rcases h with h|h|h<;>subst h<;>infer_instance⟩
instance (r:RM):bD (Ht r):=⟨λq h=>gX.flat (enc:=Ht) r q h⟩
def ag1(p:R9)(a:Nat):Prop:=p.1<=a/\a-p.1<p.2.length
instance (p:R9) (a:Nat):Decidable (ag1 p a):=inferInstanceAs (Decidable (_/\_))
def Yn(r:RM)(a:Nat)(ys:List UInt8):RM:={r with Ym:=r.Ym++[(a,ys)]}
structure SdD where
 gl:List Int
 tb:List Int
 ms:List RM
def Sa(s:SdD):List VP:=[ai 1 eo s.gl,ai 1 sQ s.tb,ai 3 Ht s.ms]
instance:gX 3 Sa:=⟨λ_=>rfl,λx q h=>by simp only[Sa,List.mem_cons,List.not_mem_nil,or_false] at h;rcases h with h|h|h<;>subst h<;>infer_instance⟩
instance (s:SdD):bD (Sa s):=bD.of s
instance (p:R9):bD (EM p):=bD.of p
def TZ(tb:List Int)(e:gR):Nat->List Int
 |0=>tb
 |k+1=>(TZ tb e k).set (e.At.toNat+k) ((e.aq[k]?).getD 0+1)
theorem M7(tb:List Int)(e:gR):∀k,(TZ tb e k).length=tb.length
 |0=>rfl
 |k+1=>by show(List.set _ _ _).length=_;rw[List.length_set];exact M7 tb e k
def zn(m:aT):Nat->List Int
 |0=>List.replicate (fH m) 0
 |k+1=>TZ (zn m k) (Ew m k) (Ew m k).aq.length
theorem Hu(m:aT):∀k,(zn m k).length=fH m
 |0=>by simp[zn]
 |k+1=>(M7 _ _ _).trans (Hu m k)
theorem Sb{k:Nat}{e:gR}(h:m.bN[k]?=some e):zn m (k+1)=TZ (zn m k) e e.aq.length:=by show TZ _ (Ew m k) _=_;rw[MO h]
def rm0(l:gG):RM:=⟨l.Min.toNat,af0 l,[]⟩
def mdF(m:aT)(d:oD)(l:List RM):List RM:=if (daW m d).2=(0,0) then l.set d.Mem.toNat (Yn ((l[d.Mem.toNat]?).getD ⟨0,0,[]⟩) d.At.toNat d.Bytes) else l
def ag2(m:aT):Nat->List RM
 |0=>m.cP.map rm0
 |k+1=>mdF m (aK5 m k) (ag2 m k)
def aL1(m:aT)(ke kd:Nat):SdD:=⟨m.aA.map (·.Value),zn m ke,ag2 m kd⟩
structure Yo(a:ep)(g t:Nat)(s:SdD):Prop where
 gl:∀(i:Nat) (v:Int),s.gl[i]?=some v->(nv (a.get (g+8*i) 8):Int)=v
 tb:∀(i:Nat) (f:Int),s.tb[i]?=some f->(nv (a.get (t+4*i) 4):Int)=f
theorem ta(l:List UInt8):nv (l.take 4)<4294967296:=by
 have h1:=Av (l.take 4);have h2:(l.take 4).length<=4:=List.length_take_le _ _;have h3:2^(8*(l.take 4).length)<=2^32:=Nat.pow_le_pow_right (by decide) (by omega);omega
end Go.Hl
end
section
namespace Go.Hl
def ag6(k:dX):List VP:=[fP k.1,fP k.2]
instance:gX 2 ag6:=⟨λ_=>rfl,λx q h=>by simp only[ag6,List.mem_cons,List.not_mem_nil,or_false] at h;rcases h with h|h<;>subst h<;>infer_instance⟩
end Go.Hl
end
section
namespace Go.Hl
open Go.RowKit
theorem M8(v:Nat):∀w,nv (nO v w)=v%2^(8*w)
 |0=>by rw[Nat.mul_zero,Nat.pow_zero,Nat.mod_one];rfl
 |w+1=>by
  have h:nO v (w+1)=nO v w++[UH v w]:=by unfold nO;rw[List.range_succ,List.map_append];rfl
  have e:2^(8*(w+1))=2^(8*w)*256:=by rw[show 8*(w+1)=8*w+8 by omega,Nat.pow_add]
  have hb:(UH v w).toNat=v/2^(8*w)%256:=by unfold UH;rw[UInt8.toNat_ofNat'];omega
  rw[h,Aw,M8 v w,nP,hb,e,Nat.mod_mul,Nat.mul_comm (v/2^(8*w)%256)]
variable {a:ep} {X:oB} {v:Nat}
theorem gS(h:dz X a){x w:Nat}(hx:x+w<=X.size):nv ((a.put x (nO v w)).get x w)=v%2^(8*w):=by
 have h1:=J5 (a:=a) (x:=x) (o:=0) (n:=w) (ys:=nO v w) (by rw[h.len];exact hx) (by rw[nP];omega);rw[Nat.add_zero,List.take_zero,List.nil_append,nP,Nat.zero_add,List.drop_of_length_le,List.append_nil] at h1
 · rw[h1,M8]
 · unfold ep.get;rw[List.length_take];omega
variable {n:Nat}
theorem fI(h:dz X a){x w y:Nat}(hx:x+w<=X.size)(hd:y+n<=x\/x+w<=y):(a.put x (nO v w)).get y n=a.get y n:=
 GH (by rw[nP,h.len];exact hx) (by rw[nP];exact hd)
theorem Vi{t:UInt8}(h:(t.toNat:Int)=126\/(t.toNat:Int)=127/\v<=4294967295)(hv:v<18446744073709551616):qu t v=v:=by
 unfold qu fG;rcases h with h|⟨h,h2⟩
 · rw[if_neg (by omega),if_pos h];exact Nat.mod_eq_of_lt hv
 · rw[if_pos h];exact Nat.mod_eq_of_lt (Nat.lt_succ_of_le h2)
theorem M9{X:oB}{m:aT}{g:Nat}{a:ep}(h:dz X a){y n:Nat}:∀k,g+8*k<=X.size->(y+n<=g\/g+8*k<=y)->(MM m g a k).get y n=a.get y n
 |0,_,_=>rfl
 |k+1,hk,hd=>by
  show((MM m g a k).put (g+8*k) _).get y n=_
  rw[fI (sZ h k (by omega)) (by omega) (by omega)];exact M9 h k (by omega) (by omega)
theorem Hv{X:oB}{m:aT}{g:Nat}{a:ep}(h:dz X a){i:Nat}{z:ju}(hz:m.aA[i]?=some z)(hv:z.Value.toNat<18446744073709551616):∀k,g+8*k<=X.size->i<k->nv ((MM m g a k).get (g+8*i) 8)=qu z.Ty z.Value.toNat
 |0,_,hi=>absurd hi (Nat.not_lt_zero _)
 |k+1,hk,hi=>by
  show nv (((MM m g a k).put (g+8*k) _).get (g+8*i) 8)=_
  by_cases e:i=k
  · subst e
    rw[gS (sZ h i (by omega)) (by omega),Ev hz];exact Nat.mod_eq_of_lt (zH hv)
  · rw[fI (sZ h k (by omega)) (by omega) (by omega)]
    exact Hv h hz hv k (by omega) (by omega)
theorem Na{X:oB}{t:Nat}{e:gR}{a:ep}(h:dz X a){y n:Nat}(hy:y+n<=t):∀k,t+4*(e.At.toNat+k)<=X.size->(Qy t e a k).get y n=a.get y n
 |0,_=>rfl
 |k+1,hk=>by
  show((Qy t e a k).put (t+4*(e.At.toNat+k)) _).get y n=_
  rw[fI (xZ h k (by omega)) (by omega) (by omega)];exact Na h hy k (by omega)
def Sc(a:ep)(t:Nat)(tb:List Int):Prop:=∀(i:Nat) (f:Int),tb[i]?=some f->(nv (a.get (t+4*i) 4):Int)=f
theorem Sd{X:oB}{t:Nat}{e:gR}{a:ep}{tb:List Int}(h:dz X a)(ht:Sc a t tb)(hf:∀f∈e.aq,0<=f/\f<4294967295):∀k,t+4*(e.At.toNat+k)<=X.size->k<=e.aq.length->Sc (Qy t e a k) t (TZ tb e k)
 |0,_,_=>ht
 |k+1,hk,hl=>by
  have ih:=Sd h ht hf k (by omega) (by omega);intro i f hi;have hi':((TZ tb e k).set (e.At.toNat+k) ((e.aq[k]?).getD 0+1))[i]?=some f:=hi;obtain⟨z,hz⟩:=ah (xs:=e.aq) (k:=k) (by omega);have hzf:=hf z (List.mem_of_getElem? hz)
  show(nv (((Qy t e a k).put (t+4*(e.At.toNat+k)) _).get (t+4*i) 4):Int)=f
  rw[hz] at hi' ⊢;simp only[Option.getD_some] at hi' ⊢;rcases zF hi' with⟨e1,e2⟩|⟨e1,e2⟩
  · subst e1
    rw[gS (xZ h k (by omega)) (by omega),e2];omega
  · rw[fI (xZ h k (by omega)) (by omega) (by omega)]
    exact ih i f e2
variable {m:aT}
theorem Yp{t:Nat}{e:gR}{tb:List Int}(h:dz X a)(ht:Sc a t tb)(hf:∀f∈e.aq,0<=f/\f<4294967295)(hx:t+4*fH m<=X.size)(h0:0<=e.At)(hb:¬lP m e):Sc (MN m t e a) t (TZ tb e e.aq.length):=by
 unfold MN;rw[if_neg hb]
 unfold lP at hb;exact Sd h ht hf _ (by omega) (Nat.le_refl _)
theorem Vj{t:Nat}{e:gR}(h:dz X a){y:Nat}(hy:y+n<=t)(hx:t+4*fH m<=X.size)(h0:0<=e.At)(hb:¬lP m e):(MN m t e a).get y n=a.get y n:=by
 unfold MN;rw[if_neg hb]
 unfold lP at hb;exact Na h hy _ (by omega)
theorem Nb{X:oB}{m:aT}{t:Nat}{a:ep}(h:dz X a)(hm:rq m)(hx:t+4*fH m<=X.size)(h0:∀i,i<fH m->nv (a.get (t+4*i) 4)=0):∀k,k<=m.bN.length->nF m k->(∀e∈m.bN,∀f∈e.aq,f<4294967295)->Sc (vl m t a k) t (zn m k)/\∀y n,y+n<=t->(vl m t a k).get y n=a.get y n
 |0,_,_,_=>by
  refine⟨λi f hi=>?_,λ_ _ _=>rfl⟩;have h1:(List.replicate (fH m) (0:Int))[i]?=some f:=hi;rw[List.getElem?_replicate] at h1;by_cases hl:i<fH m
  · rw[if_pos hl] at h1;cases h1;show(nv (a.get (t+4*i) 4):Int)=0;rw[h0 i hl];rfl
  · rw[if_neg hl] at h1;cases h1
 |k+1,hk,he,hF=>by
  obtain⟨e,hz⟩:=ah (xs:=m.bN) (k:=k) (by omega);have hmem:=List.mem_of_getElem? hz;have ih:=Nb h hm hx h0 k (by omega) (λj e hj=>he j e (by omega)) hF;have hok:=zI (m:=m) (t:=t) h hm hx k;have hb:=he k e (by omega) hz;have hel:=hm.el e hmem;rw[RH hz,Sb hz];exact⟨Yp hok.1 ih.1 (λf hf=>⟨(hel.2.2.2 f hf).1,hF e hmem f hf⟩) hx hel.1 hb,λy n hy=>(Vj hok.1 hy hx hel.1 hb).trans (ih.2 y n hy)⟩
theorem Se{c i:Nat}(hh:a.height<=a.bytes.length)(hi:i+n<=c):nv ((uP a c).get (a.height+i) n)=0:=by
 have e:(uP a c).get (a.height+i) n=List.replicate n 0:=by
  unfold ep.get
  show((List.take a.height a.bytes++List.replicate c 0++List.drop (a.height+c) a.bytes).drop (a.height+i)).take n=_
  have hl:(List.take a.height a.bytes).length=a.height:=by rw[List.length_take];omega
  rw[List.append_assoc,List.drop_append,List.drop_of_length_le (by omega),List.nil_append,hl,Nat.add_sub_cancel_left,List.drop_append,List.take_append,List.length_drop,List.length_replicate,show n-(c-i)=0 by omega,List.take_zero,List.append_nil,List.drop_replicate,List.take_replicate,show min n (c-i)=n by omega]
 have z:∀n,nv (List.replicate n 0)=0:=λn=>by
  induction n with
  |zero=>rfl
  |succ n ih=>show(0:UInt8).toNat+256*nv (List.replicate n 0)=0;rw[ih];rfl
 rw[e,z]
structure Sf(m:aT):Prop where
 gv:∀z∈m.aA,(z.Ty.toNat:Int)=126\/(z.Ty.toNat:Int)=127/\z.Value<=4294967295
 ef:∀e∈m.bN,∀f∈e.aq,f<4294967295
theorem Yo.begin(h:dz X a)(hm:rq m)(he:Sf m)(hf:a.height+(rj m+Cp m)<=X.size){ke:Nat}(hk:ke<=m.bN.length)(hel:nF m ke)(kd:Nat):Yo (Hs m a ke) a.height (a.height+rj m) (aL1 m ke kd):=by
 have h1:=hm.r1;have h2:=hm.r2;have hh:=h.hi;have pX:=h.len
 have h3:dz X (uP a (rj m)):=mw h (by omega);have h4:dz X (sY a m):=mw h3 (by simp only;omega);have h5:=sZ (m:=m) (g:=a.height) h4 m.aA.length (by omega)
 have h6:=Nb (m:=m) (t:=a.height+rj m) h5 hm (by omega) (λi hi=>by
  rw[M9 h4 _ (by omega) (by omega)];exact Se (a:=uP a (rj m)) (i:=4*i) (n:=4) (by have h7:=h3.len;have h8:=h3.hi;omega) (by omega)) ke hk hel he.ef
 refine⟨λi v hi=>?_,h6.1⟩;have hi':(m.aA.map (·.Value))[i]?=some v:=hi;rw[List.getElem?_map] at hi';obtain⟨z,hz,rfl⟩:=Option.map_eq_some_iff.1 hi';have hmem:=List.mem_of_getElem? hz;have hlt:=(List.getElem?_eq_some_iff.1 hz).1;have hgv:=hm.gv z hmem;unfold Hs;rw[h6.2 _ _ (by omega),Hv h4 hz (by omega) _ (by omega) hlt,Vi (by have:=he.gv z hmem;omega) (by omega)];omega
theorem Yq(h:dB m)(hs:ny m):Sf m:=⟨λz hz=>x4 h hz,λe he f hf=>by
 have h5:=(ru h he).2.2.2 f hf;have h6:=hs.imports;have h7:=hs.funcs;unfold kE dc at h5;omega⟩
theorem Hw:∀(k c n:Nat),vc k c n<=max c (2*n)
 |0,c,n=>by simp[vc];omega
 |k+1,c,n=>by
  unfold vc;have:=Hw k (c*2) n
  split<;>omega
theorem rH(n:Nat):aJ n<=max 16 (2*n):=by
 unfold aJ
 split
 · exact Nat.zero_le _
 · exact Hw 19 16 n
section
variable {X:oB} {a a':ep} {lo hi g t:Nat} {s:SdD}
structure Bb(X:oB)(a a':ep)(lo hi:Nat):Prop where
 ok:dz X a'
 same:pE a a'
 xM:∀y n,(y+n<=lo\/hi<=y)->a'.get y n=a.get y n
theorem Bb.refl(h:dz X a):Bb X a a lo hi:=⟨h, .refl _,λ_ _ _=>rfl⟩
theorem Bb.put(h:Bb X a a' lo hi){x v w:Nat}(h1:lo<=x)(h2:x+w<=hi)(h3:hi<=X.size):Bb X a (a'.put x (nO v w)) lo hi:=
 ⟨vk h.ok (by omega),h.same.trans ⟨rfl,rfl,rfl⟩,λy n hy=>(fI h.ok (by omega) (by omega)).trans (h.xM y n hy)⟩
end
abbrev dvV(m:aT):VP:=exV (λn:Int=>0<=n/\(n=0↔dK m)) (λn=>af .i64 n)
theorem bu.toP{P:Program}{f:FuncId}{ps:List VP}{γ:Type}{φ:γ->Prop}{q:γ->VP}{q':VP}(h:bu P f ps [] φ (λ_=>[]) q)(hq:∀g,φ g->aa (q g) q'):dF P f ps q':=by
 intro w S F vs h1 h2 h3 h4 h5;have:=h w S F vs h1 h2 h3 h4 h5;refine Calls.mono this λe w' hr=>?_;obtain⟨v,S',F',g,k1,k2,k3,k4,k5⟩:=hr;exact⟨v,S',F',(),k1,k2,trivial,k4,hq g k3 _ _ _ k5⟩
theorem Yr{P:Program}{hs:List HP}{env:Env}{dst:Option Tmp}{ty T T':TypeId}{pos:String}{after:Array Edge}{g:Option (Nat×Bool)}{x y:Operand}(hx:bA env x (dvV m))(hy:bA env y (af .i64 0)):bw P hs env ⟨dst, .binOp .gtr T x y T',ty,pos,after,g⟩ (av (¬dK m)):=
 bw.aM λρ w S F _ he=>by
  obtain⟨n,⟨h0,hn⟩,h1⟩:=he.o _ _ hx;have h2:=he.o _ _ hy;simp only[ag] at h1 h2;refine⟨.bool (decide (n>0)),by simp[execOp,h1,h2,go_sem],_,rfl,?_⟩;rw[<-hn,decide_eq_true_iff];omega
abbrev wV(a:Nat):VP:=af .u64 (a:Int)
abbrev nV(a:Nat):VP:=af .i64 (a:Int)
def ia(a:Nat):List VP:=[wV a]
instance:gX 1 ia:=⟨λ_=>rfl,λx q h=>by simp only[ia,List.mem_cons,List.not_mem_nil,or_false] at h;subst h;infer_instance⟩
section
variable {X:oB} {a a' b:ep} {lo hi at_ i n:Nat} {l:List Nat}
theorem Bb.trans(h:Bb X a b lo hi)(k:Bb X b a' lo hi):Bb X a a' lo hi:=⟨k.ok,h.same.trans k.same,λy n hy=>(k.xM y n hy).trans (h.xM y n hy)⟩
theorem Bb.wide{lo' hi':Nat}(h:Bb X a a' lo hi)(h1:lo'<=lo)(h2:hi<=hi'):Bb X a a' lo' hi':=⟨h.ok,h.same,λy n hy=>h.xM y n (by omega)⟩
theorem Bb.Ys(h:dz X a){x v w:Nat}(h1:lo<=x)(h2:x+w<=hi)(h3:hi<=X.size):Bb X a (a.put x (nO v w)) lo hi:=(Bb.refl h).put h1 h2 h3
def sw(a:ep)(at_:Nat)(l:List Nat):Prop:=∀i v,l[i]?=some v->nv (a.get (at_+8*i) 8)=v
theorem sw.nil:sw a at_ []:=λi v h=>by simp at h
theorem DI(a:ep)(x:Nat):nv (a.get x 8)<18446744073709551616:=by
 have h1:=Av (a.get x 8);have h2:(a.get x 8).length<=8:=List.length_take_le _ _;have h3:2^(8*(a.get x 8).length)<=2^64:=Nat.pow_le_pow_right (by decide) (by omega);omega
theorem sw.lt(h:sw a at_ l){v:Nat}(hv:v∈l):v<18446744073709551616:=by
 obtain⟨i,hi⟩:=List.mem_iff_getElem?.1 hv;rw[<-h i v hi];exact DI _ _
theorem sw.take(h:sw a at_ l)(n:Nat):sw a at_ (l.take n):=λi v hv=>h i v (by
 rw[List.getElem?_take] at hv
 split at hv
 · exact hv
 · cases hv)
theorem sw.xM(h:sw a at_ l)(k:Bb X a a' lo hi)(hd:at_+8*l.length<=lo\/hi<=at_):sw a' at_ l:=λi v hv=>by
 have:=(List.getElem?_eq_some_iff.1 hv).1;rw[k.xM _ _ (by omega)];exact h i v hv
theorem sw.push(h:sw a at_ l)(ha:dz X a){v:Nat}(hx:at_+8*(l.length+1)<=X.size)(hv:v<18446744073709551616):sw (a.put (at_+8*l.length) (nO v 8)) at_ (l++[v]):=λi w hw=>by
 by_cases e:i=l.length
 · subst e
   rw[List.getElem?_concat_length] at hw;cases hw
   rw[gS ha (by omega)];exact Nat.mod_eq_of_lt hv
 · have hl:=(List.getElem?_eq_some_iff.1 hw).1
   rw[List.length_append,List.length_singleton] at hl;rw[List.getElem?_append_left (by omega)] at hw;rw[fI ha (by omega) (by omega)];exact h i w hw
theorem sw.set(h:sw a at_ l)(ha:dz X a){v:Nat}(hi:i<l.length)(hx:at_+8*l.length<=X.size)(hv:v<18446744073709551616):sw (a.put (at_+8*i) (nO v 8)) at_ (l.set i v):=λj w hw=>by
 rcases zF hw with⟨rfl,rfl⟩|⟨e,hw⟩
 · rw[gS ha (by omega)];exact Nat.mod_eq_of_lt hv
 · have:=(List.getElem?_eq_some_iff.1 hw).1
   rw[fI ha (by omega) (by omega)];exact h j w hw
structure l8 where
 fn:Nat
 pl:Nat
 bs:Nat
def m5(f:l8):List VP:=[nV f.fn,nV f.pl,nV f.bs]
instance:gX 3 m5:=⟨λ_=>rfl,λx q h=>by simp only[m5,List.mem_cons,List.not_mem_nil,or_false] at h;rcases h with h|h|h<;>subst h<;>infer_instance⟩
instance (f:l8):bD (m5 f):=bD.of f
structure oK(f:l8):Prop where
 fn:f.fn<4294967296
 pl:f.pl<4294967296
 bs:f.bs<4294967296
structure Cy(a:ep)(x:Nat)(f:l8):Prop where
 fn:nv (a.get x 4)=f.fn
 pl:nv (a.get (x+4) 4)=f.pl
 bs:nv (a.get (x+8) 4)=f.bs
def uD(a:ep)(at_:Nat)(l:List l8):Prop:=∀i f,l[i]?=some f->Cy a (at_+12*i) f
def w8(a:ep)(x:Nat)(f:l8):Nat->ep
 |0=>a
 |1=>a.put x (nO f.fn 4)
 |2=>(a.put x (nO f.fn 4)).put (x+4) (nO f.pl 4)
 |_=>((a.put x (nO f.fn 4)).put (x+4) (nO f.pl 4)).put (x+8) (nO f.bs 4)
def W3(f:l8):Nat->Nat
 |0=>f.fn
 |1=>f.pl
 |_=>f.bs
theorem Sg(a:ep)(x:Nat)(f:l8){k:Nat}(h:k<3):w8 a x f (k+1)=(w8 a x f k).put (x+4*k) (nO (W3 f k) 4):=by
 match k,h with
 |0,_=>rfl
 |1,_=>rfl
 |2,_=>rfl
theorem uq(h:dz X a){x:Nat}{f:l8}(hx:x+12<=X.size):∀k,k<=3->Bb X a (w8 a x f k) x (x+12)
 |0,_=> .refl h
 |k+1,hk=>by
  rw[Sg a x f (by omega)];exact(uq h hx k (by omega)).put (by omega) (by omega) hx
theorem Sh(h:dz X a){x:Nat}{f:l8}(hf:oK f)(hx:x+12<=X.size):Cy (w8 a x f 3) x f:=by
 have h1:dz X (a.put x (nO f.fn 4)):=vk h (by omega);have h2:dz X ((a.put x (nO f.fn 4)).put (x+4) (nO f.pl 4)):=vk h1 (by omega);have e:w8 a x f 3=((a.put x (nO f.fn 4)).put (x+4) (nO f.pl 4)).put (x+8) (nO f.bs 4):=rfl;rw[e];refine⟨?_,?_,?_⟩
 · rw[fI h2 (by omega) (by omega),fI h1 (by omega) (by omega),gS h (by omega)];exact Nat.mod_eq_of_lt hf.fn
 · rw[fI h2 (by omega) (by omega),gS h1 (by omega)];exact Nat.mod_eq_of_lt hf.pl
 · rw[gS h2 (by omega)];exact Nat.mod_eq_of_lt hf.bs
theorem Cy.xM{x:Nat}{f:l8}(h:Cy a x f)(k:Bb X a a' lo hi)(hd:x+12<=lo\/hi<=x):Cy a' x f:=
 ⟨by rw[k.xM _ _ (by omega)];exact h.fn,by rw[k.xM _ _ (by omega)];exact h.pl,by rw[k.xM _ _ (by omega)];exact h.bs⟩
theorem Cy.ok{x:Nat}{f:l8}(h:Cy a x f):oK f:=⟨h.fn▸ta (a.bytes.drop x),h.pl▸ta (a.bytes.drop (x+4)),h.bs▸ta (a.bytes.drop (x+8))⟩
theorem uD.nil:uD a at_ []:=λi v h=>by simp at h
theorem uD.take{l:List l8}(h:uD a at_ l)(n:Nat):uD a at_ (l.take n):=λi v hv=>h i v (by
 rw[List.getElem?_take] at hv
 split at hv
 · exact hv
 · cases hv)
theorem uD.xM{l:List l8}(h:uD a at_ l)(k:Bb X a a' lo hi)(hd:at_+12*l.length<=lo\/hi<=at_):uD a' at_ l:=λi v hv=>by
 have:=(List.getElem?_eq_some_iff.1 hv).1;exact(h i v hv).xM k (by omega)
theorem uD.push{l:List l8}(h:uD a at_ l)(ha:dz X a){f:l8}(hf:oK f)(hx:at_+12*(l.length+1)<=X.size):uD (w8 a (at_+12*l.length) f 3) at_ (l++[f]):=λi w hw=>by
 by_cases e:i=l.length
 · subst e
   rw[List.getElem?_concat_length] at hw;cases hw
   exact Sh ha hf (by omega)
 · have hl:=(List.getElem?_eq_some_iff.1 hw).1
   rw[List.length_append,List.length_singleton] at hl;rw[List.getElem?_append_left (by omega)] at hw;exact(h i w hw).xM (uq ha (by omega) 3 (Nat.le_refl _)) (by omega)
theorem uD.set{l:List l8}(h:uD a at_ l)(ha:dz X a){f:l8}(hf:oK f)(hi:i<l.length)(hx:at_+12*l.length<=X.size):uD (w8 a (at_+12*i) f 3) at_ (l.set i f):=λj w hw=>by
 rcases zF hw with⟨rfl,rfl⟩|⟨e,hw⟩
 · exact Sh ha hf (by omega)
 · have:=(List.getElem?_eq_some_iff.1 hw).1
   exact(h j w hw).xM (uq ha (by omega) 3 (Nat.le_refl _)) (by omega)
end
abbrev kq(kb:Nat)(X:oB)(at_ n h:Nat):HP:=az kb [ax X.ab 0,nV at_,nV n,nV h,av False]
abbrev kV(fb:Nat)(X:oB)(at_ n d:Nat):HP:=az fb [ax X.ab 0,nV at_,nV n,nV d,av False]
end Go.Hl
end
section
namespace Go.Hl
theorem Vk(j y m d e:Nat)(hd:d<2^j)(he:e<2^j):(2^j*y+d) &&& (2^j*m+e)=2^j*(y &&& m)+(d &&& e):=by
 have h:d &&& e<2^j:=Nat.and_lt_two_pow _ he;refine Nat.eq_of_testBit_eq λi=>?_;rw[Nat.testBit_and,Nat.testBit_two_pow_mul_add _ hd,Nat.testBit_two_pow_mul_add _ he,Nat.testBit_two_pow_mul_add _ h]
 split
 · rw[Nat.testBit_and]
 · rw[Nat.testBit_and]
theorem tc(y m d e:Nat)(hd:d<256)(he:e<256):(256*y+d) &&& (256*m+e)=256*(y &&& m)+(d &&& e):=Vk 8 y m d e hd he
def zo(e:Nat):Nat->Nat
 |0=>0
 |k+1=>256*zo e k+e
def b1(d:Nat):Nat:=(d/2 &&& 85)+(d &&& 85)
def b2(d:Nat):Nat:=(d/4 &&& 51)+(d &&& 51)
def b3(d:Nat):Nat:=(d/16+d) &&& 15
def w9(f:Nat->Nat):Nat->Nat->Nat
 |0,_=>0
 |k+1,x=>256*w9 f k (x/256)+f (x%256)
theorem Vl(f:Nat->Nat)(hf:∀d,d<256->f d<256)(k x:Nat):w9 f (k+1) x/256=w9 f k (x/256)/\w9 f (k+1) x%256=f (x%256):=by
 have:=hf (x%256) (Nat.mod_lt _ (by decide));simp only[w9];omega
theorem Bc(f g:Nat->Nat)(hf:∀d,d<256->f d<256):∀(k x:Nat),w9 g k (w9 f k x)=w9 (λd=>g (f d)) k x
 |0,_=>rfl
 |k+1,x=>by
  obtain⟨h1,h2⟩:=Vl f hf k x;have ih:=Bc f g hf k (x/256)
  show 256*w9 g k (w9 f (k+1) x/256)+g (w9 f (k+1) x%256)=_
  rw[h1,h2,ih];rfl
theorem W4:∀d,d<256->b1 d<256:=by decide+kernel
theorem Si:∀d,d<256->b2 (b1 d)<=68/\b2 (b1 d)%16<=4:=by decide+kernel
theorem aL2:∀d,d<256->b3 (b2 (b1 d))=fB 8 d:=by decide+kernel
theorem ag7:∀d,d<256->d &&& 85=d%128 &&& 85:=by decide+kernel
theorem ag8:∀d,d<256->d &&& 51=d%64 &&& 51:=by decide+kernel
theorem W5:∀d,d<256->d &&& 15=d%16:=by decide+kernel
theorem Yt(c e:Nat)(hc:c<2)(he:e<128):128*c+e &&& 85=e &&& 85:=by
 rw[ag7 _ (by omega),Nat.mul_add_mod,Nat.mod_eq_of_lt he]
theorem Yu(c e:Nat)(hc:c<4)(he:e<64):64*c+e &&& 51=e &&& 51:=by
 rw[ag8 _ (by omega),Nat.mul_add_mod,Nat.mod_eq_of_lt he]
theorem W6:∀(k x:Nat),x<256^k->(x/2 &&& zo 85 k)+(x &&& zo 85 k)=w9 b1 k x
 |0,x,h=>by simp at h;subst h;rfl
 |k+1,x,h=>by
  have hy:x/256<256^k:=by rw[Nat.pow_succ] at h;exact Nat.div_lt_of_lt_mul (by omega)
  have ih:=W6 k (x/256) hy;have hx:x=256*(x/256)+x%256:=(Nat.div_add_mod x 256).symm;have hd:=Nat.mod_lt x (show 0<256 by decide);generalize x/256=y at*;generalize x%256=d at*;subst hx;have e1:(256*y+d)/2=256*(y/2)+(128*(y%2)+d/2):=by omega
  rw[e1];simp only[zo];rw[tc _ _ _ _ (by omega) (by decide),tc _ _ _ _ hd (by decide),Yt _ _ (by omega) (by omega)]
  show _=256*w9 b1 k ((256*y+d)/256)+b1 ((256*y+d)%256)
  rw[show(256*y+d)/256=y by omega,show(256*y+d)%256=d by omega,<-ih];unfold b1;omega
theorem W7:∀(k x:Nat),x<256^k->(x/4 &&& zo 51 k)+(x &&& zo 51 k)=w9 b2 k x
 |0,x,h=>by simp at h;subst h;rfl
 |k+1,x,h=>by
  have hy:x/256<256^k:=by rw[Nat.pow_succ] at h;exact Nat.div_lt_of_lt_mul (by omega)
  have ih:=W7 k (x/256) hy;have hx:x=256*(x/256)+x%256:=(Nat.div_add_mod x 256).symm;have hd:=Nat.mod_lt x (show 0<256 by decide);generalize x/256=y at*;generalize x%256=d at*;subst hx;have e1:(256*y+d)/4=256*(y/4)+(64*(y%4)+d/4):=by omega
  rw[e1];simp only[zo];rw[tc _ _ _ _ (by omega) (by decide),tc _ _ _ _ hd (by decide),Yu _ _ (by omega) (by omega)]
  show _=256*w9 b2 k ((256*y+d)/256)+b2 ((256*y+d)%256)
  rw[show(256*y+d)/256=y by omega,show(256*y+d)%256=d by omega,<-ih];unfold b2;omega
def okB:Nat->Nat->Prop
 |0,_=>True
 |k+1,x=>(x%256<=68/\x%16<=4)/\okB k (x/256)
theorem W8:∀(k x:Nat),x<256^k->okB k x->(x/16+x) &&& zo 15 k=w9 b3 k x
 |0,x,h,_=>by simp at h;subst h;rfl
 | k+1,x,h,ho=>by
  have hy:x/256<256^k:=by rw[Nat.pow_succ] at h;exact Nat.div_lt_of_lt_mul (by omega)
  have ih:=W8 k (x/256) hy ho.2;have JC:k=0->x/256=0:=λe=>by subst e;simp at hy;omega
  have JP:x/256%16<=4:=by
   cases k with
   |zero=>rw[JC rfl];decide
   |succ k=>exact ho.2.1.2
  have Dc:=ho.1.1;have hx:x=256*(x/256)+x%256:=(Nat.div_add_mod x 256).symm;have hd:=Nat.mod_lt x (show 0<256 by decide);generalize x/256=y at*;generalize x%256=d at*;subst hx;have e1:(256*y+d)/16+(256*y+d)=256*(y/16+y)+(16*(y%16)+d/16+d):=by omega
  rw[e1];simp only[zo];rw[tc _ _ _ _ (by omega) (by decide),W5 _ (by omega)]
  show _=256*w9 b3 k ((256*y+d)/256)+b3 ((256*y+d)%256)
  rw[show(256*y+d)/256=y by omega,show(256*y+d)%256=d by omega,<-ih];unfold b3;rw[W5 _ (by omega)];omega
theorem Sj:∀(k x:Nat),okB k (w9 (λd=>b2 (b1 d)) k x)
 |0,_=>trivial
 |k+1,x=>by
  have hb:=Si (x%256) (Nat.mod_lt _ (by decide));have ih:=Sj k (x/256);generalize hf:(λd=>b2 (b1 d))=f at*;have hfx:f (x%256)=b2 (b1 (x%256)):=by rw[<-hf]
  have e1:w9 f (k+1) x/256=w9 f k (x/256):=by simp only[w9];omega
  refine⟨by simp only[w9];omega,?_⟩;rw[e1];exact ih
theorem KD(f:Nat->Nat)(hf:∀d,d<256->f d<256):∀(k x:Nat),w9 f k x<256^k
 |0,_=>by simp[w9]
 |k+1,x=>by
  have ih:=KD f hf k (x/256);have:=hf (x%256) (Nat.mod_lt _ (by decide));simp only[w9,Nat.pow_succ];omega
theorem Hx(i j a:Nat):fB (i+j) a=fB i a+fB j (a/2^i):=by
 induction j with
 |zero=>rfl
 |succ j ih=>
  show fB (i+j) a+U9 (a.testBit (i+j))=fB i a+(fB j (a/2^i)+U9 ((a/2^i).testBit j))
  rw[ih,Nat.testBit_div_two_pow,Nat.add_assoc,Nat.add_comm j i]
theorem Sk(i a:Nat):fB i (a%2^i)=fB i a:=by
 have key:∀j,j<=i->fB j (a%2^i)=fB j a:=by
  intro j
  induction j with
  |zero=>intro _;rfl
  |succ j ih=>
   intro h;simp only[fB];rw[ih (by omega),Nat.testBit_mod_two_pow];simp[show j<i by omega]
 exact key i (Nat.le_refl _)
def Yv:Nat->Nat->Nat
 |0,_=>0
 |k+1,x=>fB 8 (x%256)+Yv k (x/256)
theorem Hy:∀(k x:Nat),Yv k x=fB (8*k) x
 |0,_=>rfl
 |k+1,x=>by
  rw[show 8*(k+1)=8+8*k by omega,Hx];simp only[Yv];rw[Hy k,<-Sk 8 x]
theorem pN(d:Nat):fB 8 d<=8:=zO 8 d
theorem vB(s m:Nat)(h:s<256):(s+256*m)/256=m:=by omega
theorem Yw{c0 c1 c2 c3 c4 c5 c6 c7 k1 k2 k3 k4 k5 k6 k7:Nat}(h0:c0<=8)(h1:c1<=8)(h2:c2<=8)(h3:c3<=8)(h4:c4<=8)(h5:c5<=8)(h6:c6<=8)(h7:c7<=8){v v1 v2:Nat}
    (e7:k7=c7) (e6:k6=c6+256*k7) (e5:k5=c5+256*k6) (e4:k4=c4+256*k5) (e3:k3=c3+256*k4) (e2:k2=c2+256*k3) (e1:k1=c1+256*k2) (hv:v=c0+256*k1) (WL:v1=v+v/256) (Gb:v2=v1+v1/65536):
    (v2+v2/4294967296)%128=c0+c1+c2+c3+c4+c5+c6+c7/\v2+v2/4294967296<9223372036854775808/\v<1229782938247303442:=by
  have dv:v/256=k1:=by rw[hv];exact vB _ _ (by omega)
  have w1:v1=(c0+c1)+256*((c1+c2)+256*(k2+k3)):=by rw[WL,dv,hv];clear Gb WL dv;omega
  have d1:v1/65536=k2+k3:=by
    rw[show(65536:Nat)=256*256 from rfl,<-Nat.div_div_eq_div_mul,w1,vB _ _ (by omega),vB _ _ (by omega)]
  have w2:v2=(c0+c1+c2+c3)+256*((c1+c2+c3+c4)+256*((c2+c3+c4+c5)+256*((c3+c4+c5+c6)+256*(k4+k5+k6+k7)))):=by
    rw[Gb,d1,w1];clear Gb WL dv d1 w1 hv;omega
  have d2:v2/4294967296=k4+k5+k6+k7:=by
    rw[show(4294967296:Nat)=256*256*256*256 from rfl,<-Nat.div_div_eq_div_mul,<-Nat.div_div_eq_div_mul,<-Nat.div_div_eq_div_mul,w2,vB _ _ (by omega),vB _ _ (by omega),vB _ _ (by omega),vB _ _ (by omega)]
  rw[d2];clear d2 d1 dv WL Gb w1;refine⟨?_,?_,?_⟩
  · have:v2+(k4+k5+k6+k7)=(c0+c1+c2+c3+c4+c5+c6+c7)+128*(2*(((c1+c2+c3+c4)+256*((c2+c3+c4+c5)+256*((c3+c4+c5+c6)+256*(k4+k5+k6+k7))))+(k5+k6+k7))):=by
      rw[w2];clear w2 hv e1 e2 e3;omega
    rw[this,Nat.add_mul_mod_self_left,Nat.mod_eq_of_lt (by omega)]
  · rw[w2];clear w2 hv;omega
  · clear w2;omega
theorem Yx{x y1 y2 y3 v1 v2:Nat}(hx:x<18446744073709551616)(h1:y1=(x/2 &&& 6148914691236517205)+(x &&& 6148914691236517205))(h2:y2=(y1/4 &&& 3689348814741910323)+(y1 &&& 3689348814741910323))
    (h3:y3=(y2/16+y2) &&& 1085102592571150095) (h4:v1=y3+y3/256) (h5:v2=v1+v1/65536):
    y1<18446744073709551616/\y2<18446744073709551616/\y2/16+y2<18446744073709551616/\y3<1229782938247303442/\(v2+v2/4294967296)%128=fB 64 x/\v2+v2/4294967296<9223372036854775808:=by
  have m1:zo 85 8=6148914691236517205:=by decide
  have m2:zo 51 8=3689348814741910323:=by decide
  have m3:zo 15 8=1085102592571150095:=by decide
  have p8:256^8=18446744073709551616:=by decide
  have g1:y1=w9 b1 8 x:=by rw[h1,<-m1];exact W6 8 x (by omega)
  have l1:y1<256^8:=by rw[g1];exact KD b1 W4 8 x
  have g2:y2=w9 (λd=>b2 (b1 d)) 8 x:=by rw[h2,<-m2,W7 8 y1 l1,g1];exact Bc b1 b2 W4 8 x
  have lf:∀d,d<256->(λd=>b2 (b1 d)) d<256:=λd hd=>by have:=(Si d hd).1;show b2 (b1 d)<256;omega
  have l2:y2<256^8:=by rw[g2];exact KD _ lf 8 x
  have o2:okB 8 y2:=by rw[g2];exact Sj 8 x
  have g3:y3=w9 (λd=>b3 (b2 (b1 d))) 8 x:=by rw[h3,<-m3,W8 8 y2 l2 o2,g2];exact Bc (λd=>b2 (b1 d)) b3 lf 8 x
  have top:y2/72057594037927936<=68:=by
    have o3:y2/256/256/256/256/256/256/256%256<=68:=o2.2.2.2.2.2.2.2.1.1;omega
  have hs:fB 64 x=fB 8 (x%256)+(fB 8 (x/256%256)+(fB 8 (x/256/256%256)+(fB 8 (x/256/256/256%256)+(fB 8 (x/256/256/256/256%256)+(fB 8 (x/256/256/256/256/256%256)+(fB 8 (x/256/256/256/256/256/256%256)+(fB 8 (x/256/256/256/256/256/256/256%256)+0))))))):=(Hy 8 x).symm;have q:∀z,b3 (b2 (b1 (z%256)))=fB 8 (z%256):=λz=>aL2 _ (Nat.mod_lt _ (by decide))
  have hy:y3=256*(256*(256*(256*(256*(256*(256*(256*0+fB 8 (x/256/256/256/256/256/256/256%256))+fB 8 (x/256/256/256/256/256/256%256))+fB 8 (x/256/256/256/256/256%256))+fB 8 (x/256/256/256/256%256))+fB 8 (x/256/256/256%256))+fB 8 (x/256/256%256))+fB 8 (x/256%256))+fB 8 (x%256):=by
    rw[g3];simp only[w9,q]
  have c0:=pN (x%256);have c1:=pN (x/256%256);have c2:=pN (x/256/256%256);have c3:=pN (x/256/256/256%256)
  have c4:=pN (x/256/256/256/256%256);have c5:=pN (x/256/256/256/256/256%256);have c6:=pN (x/256/256/256/256/256/256%256);have c7:=pN (x/256/256/256/256/256/256/256%256)
  clear g1 g2 g3 o2 lf q h1 h2 h3 m1 m2 m3;generalize fB 8 (x%256)=d0 at*;generalize fB 8 (x/256%256)=d1 at*;generalize fB 8 (x/256/256%256)=d2 at*;generalize fB 8 (x/256/256/256%256)=d3 at*;generalize fB 8 (x/256/256/256/256%256)=d4 at*;generalize fB 8 (x/256/256/256/256/256%256)=d5 at*;generalize fB 8 (x/256/256/256/256/256/256%256)=d6 at*;generalize fB 8 (x/256/256/256/256/256/256/256%256)=d7 at*;obtain⟨k1,k2,k3⟩:=Yw c0 c1 c2 c3 c4 c5 c6 c7 (v:=y3) (k7:=d7) (k6:=d6+256*d7) (k5:=d5+256*(d6+256*d7)) (k4:=d4+256*(d5+256*(d6+256*d7))) (k3:=d3+256*(d4+256*(d5+256*(d6+256*d7)))) (k2:=d2+256*(d3+256*(d4+256*(d5+256*(d6+256*d7))))) (k1:=d1+256*(d2+256*(d3+256*(d4+256*(d5+256*(d6+256*d7)))))) rfl rfl rfl rfl rfl rfl rfl (by rw[hy];clear hy;omega) h4 h5;refine⟨by clear hy;omega,by clear hy;omega,?_,k3,?_,k2⟩
  · clear hy hs k1 k2 k3 c0 c1 c2 c3 c4 c5 c6 c7 h4 h5
    rw[p8] at l2;omega
  · rw[k1,hs];clear hy hs k1 k2 k3;omega
open Classical in
noncomputable def W9(p:Prop):Nat:=if p then 1 else 0
variable {p:Prop}
theorem Nc(h:p):W9 p=1:=by unfold W9;rw[if_pos h]
theorem Nd(h:¬p):W9 p=0:=by unfold W9;rw[if_neg h]
variable {n:Nat} {A:Nat} {B:Nat}
theorem dH{op:Int}(h:iP n op A B↔p):A3 n op A B=W9 p:=by
 unfold A3 W9;by_cases hp:p
 · rw[if_pos (h.2 hp),if_pos hp]
 · rw[if_neg (λh'=>hp (h.1 h')),if_neg hp]
theorem Sl{k:Nat}(hA:A<2^n)(hk:k<=n):(A*2^k%2^n)|||(A/2^(n-k))=vv n A k:=by
 have hp:2^n=2^(n-k)*2^k:=by rw[<-Nat.pow_add];congr 1;omega
 have h1:A*2^k%2^n=2^k*(A%2^(n-k)):=by rw[hp,Nat.mul_mod_mul_right,Nat.mul_comm]
 have h2:A/2^(n-k)<2^k:=by
  rw[Nat.div_lt_iff_lt_mul (Nat.two_pow_pos _),Nat.mul_comm,<-hp];exact hA
 unfold vv;rw[h1,Nat.two_pow_add_eq_or_of_lt h2]
theorem ah0(k:Int):(k%18446744073709551616).toNat &&& 31=(k%32).toNat:=by
 rw[show(31:Nat)=2^5-1 from rfl,Nat.and_two_pow_sub_one_eq_mod];omega
theorem ah1(k:Int):(k%18446744073709551616).toNat &&& 63=(k%64).toNat:=by
 rw[show(63:Nat)=2^6-1 from rfl,Nat.and_two_pow_sub_one_eq_mod];omega
theorem Yy(v:Nat):v &&& 127=v%128:=by
 rw[show(127:Nat)=2^7-1 from rfl,Nat.and_two_pow_sub_one_eq_mod]
def Sm:List UInt8:=(List.range 256).map λi=>UInt8.ofNat (xL i)
theorem bl8:∀i,i<256->(UInt8.ofNat (xL i)).toNat=xL i:=by decide+kernel
theorem Vm{x:Nat}(h:x<256):Sm[x]?=some (UInt8.ofNat (xL x)):=by simp[Sm,h]
def vC(f t:Nat)(s:Prop)[Decidable s](a:Nat):Nat:=if s/\2^(f-1)<=a%2^f then a%2^f+2^t-2^f else a%2^f
variable {a:Nat} {f:Nat}
theorem ah2(hf:f=8\/f=16\/f=32):a*2^(64-f)%18446744073709551616/2^(64-f)=a%2^f:=by
 rcases hf with rfl|rfl|rfl<;>omega
variable {t:Nat}
theorem ah3(hf:f=8\/f=16\/f=32)(ht:t=32\/t=64):((IntKind.i64.wrap (((a*2^(64-f)%18446744073709551616:Nat)):Int)/2^(64-f))%18446744073709551616).toNat%2^t=vC f t True a:=by
 rw[IntKind.wrap_i64];unfold vC;rcases hf with rfl|rfl|rfl<;>rcases ht with rfl|rfl<;>simp only[true_and]<;>split<;>omega
theorem Vn(h:B%n<n):vv n A (((B%n:Nat):Int)%(n:Int)).toNat=vv n A (B%n):=by
 rw[Int.emod_eq_of_lt (by omega) (by omega)];rfl
theorem Vo(h:B%n<n):vv n A ((-((B%n:Nat):Int))%(n:Int)).toNat=vv n A ((n-B%n)%n):=by
 congr 1
 generalize B%n=k at*;by_cases h0:k=0
 · rw[h0];simp
 · rw[Nat.mod_eq_of_lt (by omega)]
   have:(-((k:Nat):Int))%(n:Int)=(n:Int)-((k:Nat):Int):=by
    rw[<-Int.add_emod_right,Int.emod_eq_of_lt (by omega) (by omega)];omega
   rw[this];omega
theorem Nf{op:Int}(h0:oJ n op A B=0)(h:3<=op)(h7:op<7):B≠0:=by
 intro hb;unfold oJ at h0;rw[if_neg (by omega),if_pos hb] at h0;exact absurd h0 (by decide)
theorem Yz(h:a<18446744073709551616):Lib.ctz 64 a<=64:=by
 by_cases h0:a=0
 · subst h0;exact Nat.le_refl _
 · exact Nat.le_of_lt (Lib.lowest_bit 64 a h0 h).2
theorem ah4(hn:n<=64)(h:a<2^n):fB 64 a=fB n a:=by
 obtain⟨j,hj⟩:∃j,64=n+j:=⟨64-n,by omega⟩;rw[hj,Hx,Nat.div_eq_of_lt h];have:∀j,fB j 0=0:=λj=>(w5 j 0).2 (Nat.zero_mod _);rw[this];rfl
theorem xb(A:Nat):W9 ((A:Int)=0)=if A=0 then 1 else 0:=by
 by_cases h:A=0
 · rw[Nc (by omega),if_pos h]
 · rw[Nd (by omega),if_neg h]
theorem Vp{s:Prop}[Decidable s](h:s):vC f t s a=vC f t True a:=by simp[vC,h]
theorem Vq{s:Prop}[Decidable s](h:¬s):vC f t s a=a%2^f:=by simp[vC,h]
end Go.Hl
end
section
namespace Go.Hl
open Go.RowKit Classical
noncomputable section
structure Bd where
 kind:Nat
 res:List Nat
 ah5:Nat
 imp:Nat
 err:Nat
def aL3:Bd:=⟨0,[],0,0,0⟩
structure qa where
 to:Int
 keep:Int
 height:Int
structure iK where
 body:j8
 sig:mj
 locals:Nat
 nK:Int
 jumps:List (dX×qa)
 xe:List (Int×Int)
def iK.jump(d:iK)(at_ k:Int):qa:=(er d.jumps (at_,k)).getD ⟨0,0,0⟩
def iK.skip(d:iK)(at_:Int):Int:=(er d.xe at_).getD 0
structure gA where
 m:aT
 cells:Nat
 frames:Nat
 own:List iK
def gA.made(K:gA)(i:Nat):iK:=(K.own[i]?).getD ⟨⟨[],[]⟩,⟨[],[]⟩,0,0,[],[]⟩
def gA.dN(K:gA):Nat:=K.m.ay.length
def gA.sig(K:gA)(f:Nat):mj:=if f<K.dN then((K.m.ay[f]?).map λi=>bJ K.m i.fW).getD ⟨[],[]⟩ else((K.m.aq[f-K.dN]?).map λg=>bJ K.m g.fW).getD ⟨[],[]⟩
structure bM where
 stk:List Nat
 dS:List l8
 gl:List Nat
 tb:List Nat
 ms:List ZN
 co:Cont
 mm:Nat
structure jD where
 fuel:Nat
 bB:Nat
 waits:Bool
 host:Nat
 fault:Nat
 ku:Int×Int
 out:Bd
 over:Bool
abbrev aY:=jD×bM
section
variable (K:gA) (Z:Nat)
def aO(c:bM):Nat×bM:=(c.stk.getLast?.getD 0,{c with stk:=c.stk.dropLast})
def fk(l:List Nat)(c:bM):bM:=if l.length<=K.cells-c.stk.length then{c with stk:=c.stk++l} else c
def jP(n:Nat)(c:bM):List Nat×bM:=if n<=c.stk.length then(c.stk.drop (c.stk.length-n),{c with stk:=c.stk.take (c.stk.length-n)}) else([],c)
def uE(keep height:Int)(c:bM):bM:=if (0<=keep/\0<=height)/\height<=(c.stk.length:Int)/\keep<=(c.stk.length:Int)-height then{c with stk:=c.stk.take height.toNat++c.stk.drop (c.stk.length-keep.toNat)} else c
def bK(c:bM):l8:=c.dS.getLast?.getD ⟨0,0,0⟩
def yf(p:Int)(c:bM):bM:=if c.dS=[]\/p<0\/4294967295<p then c else{c with dS:=c.dS.dropLast++[⟨(bK c).fn,p.toNat,(bK c).bs⟩]}
def zp(i:Nat)(c:bM):Nat:=(c.stk[i]?).getD 0
def Sn(i v:Nat)(c:bM):bM:={c with stk:=c.stk.set i v}
def oL(o:Bd)(s:aY):aY:=
 ({s.1 with out:=o,over:=true,fault:=if o.kind=3 then o.err else s.1.fault},if o.kind=0\/o.kind=1 then{s.2 with stk:=[],dS:=[]} else s.2)
def nL(e:Nat)(s:aY):aY:=oL ⟨3,[],0,0,e⟩ s
def pO(t:Nat)(s:aY):aY:=oL ⟨1,[],t,0,0⟩ s
def Be(t e:Nat)(s:aY):aY:=if e≠0 then nL e s else if t≠0 then pO t s else s
def iL(f:Nat)(s:aY):aY:=
 if f<K.dN then oL ⟨2,(jP (K.sig f).P.length s.2).1,0,f,0⟩ ({s.1 with waits:=true,host:=f},(jP (K.sig f).P.length s.2).2)
 else
  let x:=K.made (f-K.dN)
  let base:Int:=(s.2.stk.length:Int)-((K.sig f).P.length:Int)
  if (K.cells:Int)<base+x.nK\/base<0\/s.2.dS.length=K.frames then nL 11 s
  else({s.1 with ku:=(max s.1.ku.1 (base+x.nK),max s.1.ku.2 ((s.2.dS.length:Int)+1))},fk K (List.replicate (x.locals-(K.sig f).P.length) 0) {s.2 with dS:=s.2.dS++[⟨f-K.dN,0,base.toNat⟩]})
def js(s:aY):aY:=
 let f:=bK s.2
 let n:=(K.made f.fn).sig.R.length
 let c:=uE (n:Int) (f.bs:Int) {s.2 with dS:=s.2.dS.dropLast}
 if c.dS=[] then oL ⟨0,(jP n c).1,0,0,0⟩ (s.1,(jP n c).2) else(s.1,c)
def xg(at_:Nat)(k:Int)(c:bM):bM:=
 let f:=bK c
 let x:=K.made f.fn
 let j:=x.jump (at_:Int) k
 yf j.to (uE j.keep ((f.bs:Int)+(x.locals:Int)+j.height) c)
def Bf(at_:Nat)(c:bM):bM:=yf ((K.made (bK c).fn).skip (at_:Int)) c
def nC(x:aj)(s:aY):aY:=
 let n:=(aO s.2).1
 let c:=(aO s.2).2
 let v:=(c.tb[n]?).getD 0
 if v=0 then pO 5 (s.1,c)
 else if K.sig (v-1)=(K.m.bQ[x.A.toNat]?).getD ⟨[],[]⟩ then iL K (v-1) (s.1,c) else pO 6 (s.1,c)
def bn(x:aj)(at_:Nat)(s:aY):Option aY:=
 if x.Code=0 then some (pO 1 s)
 else if x.Code=4 then some (s.1,if (aO s.2).1=0 then Bf K at_ (aO s.2).2 else(aO s.2).2)
 else if x.Code=5 then some (s.1,Bf K at_ s.2)
 else if x.Code=12 then some (s.1,xg K at_ 0 s.2)
 else if x.Code=13 then some (s.1,if (aO s.2).1≠0 then xg K at_ 0 (aO s.2).2 else(aO s.2).2)
 else if x.Code=14 then some (s.1,xg K at_ ((min (aO s.2).1 x.L.length:Nat):Int) (aO s.2).2)
 else if x.Code=15 then some (js K s)
 else if x.Code=16 then some (iL K x.A.toNat s)
 else if x.Code=17 then some (nC K x s)
 else none
def td(x:aj)(c:bM):Nat:=(bK c).bs+x.A.toNat
def bz(x:aj)(c:bM):Option bM:=
 if x.Code=26 then some (aO c).2
 else if x.Code=27 then
  let c1:=(aO c).2;let c2:=(aO c1).2;let c3:=(aO c2).2
  some (fk K [if (aO c).1=0 then(aO c1).1 else(aO c2).1] c3)
 else if x.Code=32 then some (fk K [zp (td x c) c] c)
 else if x.Code=33 then some (Sn (td x (aO c).2) (aO c).1 (aO c).2)
 else if x.Code=34 then some (fk K [(aO c).1] (Sn (td x (aO c).2) (aO c).1 (aO c).2))
 else if x.Code=35 then some (fk K [(c.gl[x.A.toNat]?).getD 0] c)
 else if x.Code=36 then some {(aO c).2 with gl:=(aO c).2.gl.set x.A.toNat (qu (Eu K.m x.A.toNat).Ty (aO c).1)}
 else none
def dY(c:Int):pF:=(eZ c).getD RL
def kQ(c:Int):Nat:=if (dY c).s4=[126] then 64 else 32
def KE(c:bM)(i:Int):ZN:=(c.ms[i.toNat]?).getD ⟨0,0,0,0,False⟩
def ah6(code:Int)(b:List UInt8):Nat:=if b.length*8=kQ code then nv b else vC (b.length*8) (kQ code) ((dY code).Name.getLast?=some 115) (nv b)
def YA(x:aj)(n:Nat)(s:aY):aY:=
 let a:=(aO s.2).1
 let c:=(aO s.2).2
 let M:=KE c x.A
 let w:=(J6 M.pages a x.B.toNat (n:Int)).2
 if w=(0,0) then(s.1,fk K [ah6 x.Code (ae5 Z c.co M.num (a+x.B.toNat) n)] c) else Be w.1 w.2 (s.1,c)
def Vr(x:aj)(n:Nat)(s:aY):aY:=
 let v:=(aO s.2).1
 let c1:=(aO s.2).2
 let a:=(aO c1).1
 let c:=(aO c1).2
 let M:=KE c x.A
 let w:=(J6 M.pages a x.B.toNat (n:Int)).2
 Be w.1 w.2 (s.1,{c with co:=if w=(0,0) then wrC Z c.co M.num (a+x.B.toNat) (nO v n) else c.co,mm:=c.mm+(n/Z+2)})
def ah7(pages a n:Nat):Nat×Nat:=if wF pages a n then(4,0) else if 1048576<n then(0,15) else(0,0)
def YB(p q t a n:Nat):Nat×Nat:=if wF p t n\/wF q a n then(4,0) else if 1048576<n then(0,15) else(0,0)
def ah8(old:Nat)(ok xM:Prop)[Decidable ok][Decidable xM]:Nat:=if ok then old else if xM then 18446744073709551615 else 4294967295
def ah9(x:aj)(s:aY):aY:=
 let n:=(aO s.2).1
 let c:=(aO s.2).2
 let M:=KE c x.A
 let g:=ae7 M n
 (s.1,fk K [ah8 g.2.1 (g.2.2=true) M.wide] {c with ms:=c.ms.set x.A.toNat g.1})
def Hz(x:aj)(s:aY):aY:=
 let n:=(aO s.2).1
 let c1:=(aO s.2).2
 let v:=(aO c1).1
 let c2:=(aO c1).2
 let a:=(aO c2).1
 let c:=(aO c2).2
 let M:=KE c x.A
 let w:=ah7 M.pages a n
 Be w.1 w.2 (s.1,if w=(0,0) then{c with co:=wrC Z c.co M.num a (List.replicate n (UInt8.ofNat v)),mm:=c.mm+(n/Z+2)} else c)
def HA(x:aj)(s:aY):aY:=
 let n:=(aO s.2).1
 let c1:=(aO s.2).2
 let a:=(aO c1).1
 let c2:=(aO c1).2
 let t:=(aO c2).1
 let c:=(aO c2).2
 let M:=KE c x.A
 let F:=KE c x.B
 let w:=YB M.pages F.pages t a n
 Be w.1 w.2 (s.1,if w=(0,0) then{c with co:=wrC Z c.co M.num t (ae5 Z c.co F.num a n),mm:=c.mm+(n/Z+2)} else c)
def ey(x:aj)(s:aY):Option aY:=
 if (dY x.Code).Form=8\/(dY x.Code).Form=9\/(dY x.Code).Form=10 then
  match jL x.Code with
  |some n=>some (if x.Code<54 then YA K Z x n.toNat s else Vr Z x n.toNat s)
  |none=>some (if x.Code=63 then(s.1,fk K [(KE s.2 x.A).pages] s.2) else if x.Code=64 then ah9 K x s else if x.Code=64523 then Hz Z x s else if x.Code=64522 then HA Z x s else s)
 else none
def aD(c:Int):Nat×Prop:=
 if c=172\/c=173\/c=196 then(32,c≠173) else if c=192\/c=194 then(8,True) else if c=193\/c=195 then(16,True) else(0,False)
def cG(x:aj)(s:aY):Option aY:=
 match mz x.Code with
 |none=>none
 | some (g,n,bits)=>
  let b:=(aO s.2).1
  let c:=(aO s.2).2
  let w:=bits.toNat
  if g=2 then some (s.1,fk K [unF w n (b%2^w)] c)
  else
   let a:=(aO c).1
   let c2:=(aO c).2
   if g=1 then some (s.1,fk K [A3 w n (a%2^w) (b%2^w)] c2)
   else if oJ w n (a%2^w) (b%2^w)≠0 then some (pO (oJ w n (a%2^w) (b%2^w)).toNat (s.1,c2))
   else some (s.1,fk K [Hf w n (a%2^w) (b%2^w)] c2)
def cH(x:aj)(s:aY):Option aY:=
 if (dY x.Code).Form=11 then some (s.1,fk K [x.A.toNat] s.2)
 else if x.Code=167 then some (s.1,fk K [(aO s.2).1%4294967296] (aO s.2).2)
 else if 0<(aD x.Code).1 then some (s.1,fk K [vC (aD x.Code).1 (kQ x.Code) (aD x.Code).2 (aO s.2).1] (aO s.2).2)
 else cG K x s
def cS(x:aj)(c:bM):Nat:=if x.Code=64523\/x.Code=64522 then 1+zp (c.stk.length-1) c/64 else 1
def yg(x:aj)(at_:Nat)(s:aY):aY:=
 match bn K x at_ s with
 |some s'=>s'
 | none=>match bz K x s.2 with
  |some c=>(s.1,c)
  |none=>match ey K Z x s with
   |some s'=>s'
   |none=>(cH K x s).getD s
def eR(s:aY):aY:=
 let f:=bK s.2
 match (K.made f.fn).body.L[f.pl]? with
 |none=>js K s
 |some x=>
  if s.1.fuel<cS x s.2 then nL 10 s
  else yg K Z x f.pl ({s.1 with fuel:=s.1.fuel-cS x s.2,bB:=s.1.bB+cS x s.2},yf ((f.pl:Int)+1) s.2)
def bl:Nat->aY->aY
 |0,s=>s
 |n+1,s=>if s.1.over then s else bl n (eR K Z s)
end
def ej:List UInt8->List Nat->List Nat
 |t::ts,v::vs=>qu t v::ej ts vs
 |_,_=>[]
def bx(K:gA)(fuel:Nat)(f:Nat)(args:List Nat)(s:aY):aY:=
 let vs:=ej (K.sig f).P args
 let s0:aY:=({s.1 with fuel:=fuel,over:=false},s.2)
 if K.cells-s.2.stk.length<vs.length then nL 11 s0 else iL K f (s0.1,{s.2 with stk:=s.2.stk++vs})
end
end Go.Hl
end
section
namespace Go.Hl
open Go.RowKit
section
variable {P:Program} {f:FuncId} {ps:List VP} {hs l6 r:List HP} {γ:Type} {φ:γ->Prop} {hs':γ->List HP} {q:γ->VP}
theorem bu.frame(h:bu P f ps hs φ hs' q)(r:List HP):bu P f ps (hs++r) φ (λg=>hs' g++r) q:=by
 intro w S F vs hS hF hSF hown hall;obtain⟨F1,F2,h1,h2,h3,h4⟩:=dR.append.1 hown;refine Calls.mono (h w S F1 vs hS (λk hk=>hF k (h1 k hk).1) (λk hk hf=>hSF k hk (h1 k hf).1) h3 hall) λe w' hr=>?_;obtain⟨v,S',F',g,k1,k2,k3,k4,k5⟩:=hr;have aI:j6 ⟨w,S,F,0,none,[]⟩ w S F:=⟨rfl,rfl,rfl,Nat.le_refl _,λ_ _ _=>rfl,hSF,hS,hF,λk hk=> .inl hk,λk hk=> .inl hk,λ_ hk=>hk⟩;have:=j6.over aI h1 h2 h4 k2 k4;exact⟨v,S',_,g,k1,this.1,k3,this.2.2.2,k5⟩
theorem bu.pre(h:bu P f ps l6 φ hs' q)(hl:aF hs l6):bu P f ps hs φ hs' q:=λw S F vs h1 h2 h3 h4 h5=>h w S F vs h1 h2 h3 (hl _ _ _ h4) h5
theorem bu.opens{α:Type}{g:α->HP}(h:∀a,bu P f ps (g a::r) φ hs' q):bu P f ps (XI g::r) φ hs' q:=λw S F vs h1 h2 h3 ⟨F1,F2,f1,f2,⟨a,ha⟩,f4⟩ h5=>h a w S F vs h1 h2 h3 ⟨F1,F2,f1,f2,ha,f4⟩ h5
theorem bu.lK{p:Prop}(h:p->bu P f ps r φ hs' q):bu P f ps (Go.Hl.lK p::r) φ hs' q:=λw S F vs h1 h2 h3 ⟨F1,F2,f1,f2,hp,f4⟩ h5=>h hp w S F vs h1 h2 h3 (f4.mono f2 (λ_ h=>h) (λ_ _=>rfl) (λ_ _=>rfl)) h5
theorem bu.unpack{l:List HP}(h:bu P f ps (l++r) φ hs' q):bu P f ps (sM l::r) φ hs' q:=h.pre aF.unpack
theorem bu.post{δ:Type}{ψ:δ->Prop}{ks:δ->List HP}{p:δ->VP}(h:bu P f ps hs φ hs' q)(d:γ->δ)(hψ:∀g,φ g->ψ (d g))(ho:∀g,φ g->aF (hs' g) (ks (d g)))(hq:∀g,φ g->aa (q g) (p (d g))):bu P f ps hs ψ ks p:=λw S F vs h1 h2 h3 h4 h5=>
 Calls.mono (h w S F vs h1 h2 h3 h4 h5) λe w' ⟨v,S',F',g,k1,k2,k3,k4,k5⟩=>⟨v,S',F',d g,k1,k2,hψ g k3,ho g k3 _ _ _ k4,hq g k3 _ _ _ k5⟩
end
structure qE where
 X:oB
 pb:Nat
 a0:ep
 sb:Nat
 kb:Nat
 fb:Nat
 bs:List Nat
 num:Int
 g0:Nat
 t0:Nat
 k0:Nat
 f0:Nat
 Z:Nat
 ex:List ZN->Cont->Nat->HP
structure oe(A:qE)(K:gA):Prop where
 gt:A.g0+8*K.m.aA.length<=A.t0
 tk:A.t0+4*fH K.m<=A.k0
 kf:A.k0+8*K.cells<=A.f0
 fx:A.f0+12*K.frames<=A.X.size
 gl:K.m.aA.length<=60000
 cells:K.cells<=65536
 frames:K.frames<=10000
 z:0<A.Z/\A.Z<=1024
 bits:∀z∈K.m.aA,fG z.Ty=32\/fG z.Ty=64
def So(a:ep)(at_ w:Nat)(l:List Nat):Prop:=∀i v,l[i]?=some v->nv (a.get (at_+w*i) w)=v
theorem So.xM{X:oB}{a a':ep}{at_ w lo hi:Nat}{l:List Nat}(h:So a at_ w l)(k:Bb X a a' lo hi)(hd:at_+w*l.length<=lo\/hi<=at_):So a' at_ w l:=λi v hv=>by
 have h1:=(List.getElem?_eq_some_iff.1 hv).1;have h2:w*i+w<=w*l.length:=by rw[<-Nat.mul_succ];exact Nat.mul_le_mul_left _ h1
 have h3:0<=w*i:=Nat.zero_le _;rw[k.xM _ _ (by omega)];exact h i v hv
structure gV(A:qE)(K:gA)(a:ep)(c:bM):Prop where
 ok:dz A.X a
 same:pE A.a0 a
 stk:sw a A.k0 c.stk
 dS:uD a A.f0 c.dS
 gl:So a A.g0 8 c.gl
 tb:So a A.t0 4 c.tb
 sl:c.stk.length<=K.cells
 fl:c.dS.length<=K.frames
 gn:c.gl.length=K.m.aA.length
 tn:c.tb.length=fH K.m
def qF(A:qE)(K:gA)(a:ep)(c:bM):List HP:=
 [kq A.kb A.X A.k0 K.cells c.stk.length,kV A.fb A.X A.f0 K.frames c.dS.length,p5 A.sb A.X A.pb K.m A.num (A.g0:Int) (A.t0:Int) (ai 1 wM A.bs),Et A.X a,qV A.X.db a.bytes,A.ex c.ms c.co c.mm]
def aX(A:qE)(K:gA)(c:bM):HP:=XI λa=>sM (lK (gV A K a c)::qF A K a c)
variable {c:bM} {K:gA} {r:List HP} {A:qE} {a:ep}
theorem Bg(h:gV A K a c):aF (qF A K a c++r) (aX A K c::r):=
 (aF.pure h).trans ((aF.pack (l:=lK (gV A K a c)::qF A K a c)).trans (aF.ex (f:=λa=>sM (lK (gV A K a c)::qF A K a c)) a))
variable {P:Program} {f:FuncId} {ps:List VP}
theorem bu.core{c':bM}{q':VP}
    (h:∀a,gV A K a c->bu P f ps (qF A K a c) (γ:=ep) (λa'=>gV A K a' c') (λa'=>qF A K a' c') (λ_=>q')):bu P f ps [aX A K c] (γ:=Unit) (λ_=>True) (λ_=>[aX A K c']) (λ_=>q'):=
  bu.opens λa=>bu.unpack (bu.lK λhV=>((h a hV).pre (aF.of_eq (List.append_nil _))).post (λ_=>()) (λ_ _=>trivial) (λa' ha=>(aF.of_eq (List.append_nil _).symm).trans (Bg ha)) (λ_ _=>aa.refl _))
variable {γ:Type} {hs:List HP} {rest:List HP} {φ:γ->Prop} {hs':γ->List HP} {q:γ->VP}
theorem bu.Ng{c':bM}{q':VP}(h:bu P f ps hs φ hs' q)(hp:(qF A K a c).Perm (hs++rest))(d:γ->ep)
    (hV:∀g,φ g->gV A K (d g) c') (ho:∀g,φ g->aF (hs' g++rest) (qF A K (d g) c')) (hq:∀g,φ g->aa (q g) q'):bu P f ps (qF A K a c) (γ:=ep) (λa'=>gV A K a' c') (λa'=>qF A K a' c') (λ_=>q'):=
  (((h.frame rest).pre (aF.perm hp)).post d hV ho hq)
structure pP(X:oB)(a:ep)(at_ n:Nat)(l:List Nat):Prop where
 ok:dz X a
 v:sw a at_ l
 le:l.length<=n
 fit:at_+8*n<=X.size
 most:n<=65536
structure oM(X:oB)(a:ep)(at_ n:Nat)(l:List l8):Prop where
 ok:dz X a
 v:uD a at_ l
 le:l.length<=n
 fit:at_+12*n<=X.size
 most:n<=10000
def nD(X:oB)(a b:ep)(at_ n:Nat)(l:List Nat):Prop:=pP X b at_ n l/\Bb X a b at_ (at_+8*n)
def lU(X:oB)(a b:ep)(at_ n:Nat)(l:List l8):Prop:=oM X b at_ n l/\Bb X a b at_ (at_+12*n)
section
variable {X:oB} {a b:ep} {at_ n k v:Nat} {l l2:List Nat} {f:l8} {m:List l8}
theorem pP.self(h:pP X a at_ n l):nD X a a at_ n l:=⟨h, .refl h.ok⟩
theorem pP.lt(h:pP X a at_ n l){v:Nat}(hv:v∈l):v<18446744073709551616:=h.v.lt hv
theorem nD.trans{c:ep}(h:nD X a b at_ n l)(k:nD X b c at_ n l2):nD X a c at_ n l2:=⟨k.1,h.2.trans k.2⟩
theorem nD.HB(h:nD X a b at_ n l)(k:Nat):nD X a b at_ n (l.take k):=⟨⟨h.1.ok,h.1.v.take k,by have:=h.1.le;rw[List.length_take];omega,h.1.fit,h.1.most⟩,h.2⟩
theorem nD.push(h:nD X a b at_ n l)(hl:l.length<n)(hv:v<18446744073709551616):nD X a (b.put (at_+8*l.length) (nO v 8)) at_ n (l++[v]):=
 have hf:=h.1.fit
 ⟨⟨vk h.1.ok (by omega),h.1.v.push h.1.ok (by omega) hv,by rw[List.length_append,List.length_singleton];omega,hf,h.1.most⟩,h.2.trans (.Ys h.1.ok (by omega) (by omega) hf)⟩
theorem nD.set(h:nD X a b at_ n l)(hl:k<l.length)(hv:v<18446744073709551616):nD X a (b.put (at_+8*k) (nO v 8)) at_ n (l.set k v):=
 have hf:=h.1.fit;have hle:=h.1.le
 ⟨⟨vk h.1.ok (by omega),h.1.v.set h.1.ok hl (by omega) hv,by rw[List.length_set];exact hle,hf,h.1.most⟩,h.2.trans (.Ys h.1.ok (by omega) (by omega) hf)⟩
theorem oM.self(h:oM X a at_ n m):lU X a a at_ n m:=⟨h, .refl h.ok⟩
theorem lU.HB(h:lU X a b at_ n m)(k:Nat):lU X a b at_ n (m.take k):=⟨⟨h.1.ok,h.1.v.take k,by have:=h.1.le;rw[List.length_take];omega,h.1.fit,h.1.most⟩,h.2⟩
theorem lU.push(h:lU X a b at_ n m)(hl:m.length<n)(hf:oK f):lU X a (w8 b (at_+12*m.length) f 3) at_ n (m++[f]):=
 have hx:=h.1.fit;have hp:=uq (f:=f) h.1.ok (x:=at_+12*m.length) (by omega) 3 (Nat.le_refl _)
 ⟨⟨hp.ok,h.1.v.push h.1.ok hf (by omega),by rw[List.length_append,List.length_singleton];omega,hx,h.1.most⟩,h.2.trans (hp.wide (by omega) (by omega))⟩
theorem lU.set(h:lU X a b at_ n m)(hl:k<m.length)(hf:oK f):lU X a (w8 b (at_+12*k) f 3) at_ n (m.set k f):=
 have hx:=h.1.fit;have hle:=h.1.le;have hp:=uq (f:=f) h.1.ok (x:=at_+12*k) (by omega) 3 (Nat.le_refl _)
 ⟨⟨hp.ok,h.1.v.set h.1.ok hf hl (by omega),by rw[List.length_set];exact hle,hx,h.1.most⟩,h.2.trans (hp.wide (by omega) (by omega))⟩
end
def Bh(n:Nat)(l l2:List Nat):List Nat:=if l2.length<=n-l.length then l++l2 else l
def tg(k:Nat)(l:List Nat):List Nat×List Nat:=if k<=l.length then(l.drop (l.length-k),l.take (l.length-k)) else([],l)
def OV(keep height:Int)(l:List Nat):List Nat:=if (0<=keep/\0<=height)/\height<=(l.length:Int)/\keep<=(l.length:Int)-height then l.take height.toNat++l.drop (l.length-keep.toNat) else l
def mD(l:List l8):l8:=l.getLast?.getD ⟨0,0,0⟩
def YC(i:Int)(l:List l8):l8:=if 0<=i then(l[i.toNat]?).getD ⟨0,0,0⟩ else⟨0,0,0⟩
theorem Sp(l:List l8):YC ((l.length:Int)-1) l=mD l:=by
 unfold YC mD;cases l with
 |nil=>rfl
 |cons x r=>
  have e:(((x::r).length:Int)-1).toNat=(x::r).length-1:=by simp only[List.length_cons];omega
  rw[if_pos (by simp only[List.length_cons];omega),e,List.getLast?_eq_getElem?]
def T0(p:Int)(l:List l8):List l8:=if l=[]\/p<0\/4294967295<p then l else l.dropLast++[⟨(mD l).fn,p.toNat,(mD l).bs⟩]
def vD(n:Nat)(l:List l8)(f:l8):List l8:=if l.length=n then l else l++[f]
def rvL(f:l8)(k:Nat):List VP:=[nV (if 0<k then f.fn else 0),nV (if 1<k then f.pl else 0),nV (if 2<k then f.bs else 0)]
variable {k:Nat}
theorem Vs(f:l8)(h:k<3):(rvL f k).set (0+k*1) (nV (W3 f k))=rvL f (k+1):=by
 match k,h with
 |0,_=>rfl
 |1,_=>rfl
 |2,_=>rfl
theorem Vt(f:l8)(h:k<3):([nV f.fn,nV f.pl,nV f.bs]:List VP)[k]?=some (nV (W3 f k)):=by
 match k,h with
 |0,_=>rfl
 |1,_=>rfl
 |2,_=>rfl
theorem Cy.part{x:Nat}{f:l8}(h:Cy a x f)(hk:k<3):nv (a.get (x+4*k) 4)=W3 f k:=by
 match k,hk with
 |0,_=>exact h.fn
 |1,_=>exact h.pl
 |2,_=>exact h.bs
theorem Sq{f:l8}(h:oK f)(hk:k<3):W3 f k<4294967296:=by
 match k,hk with
 |0,_=>exact h.fn
 |1,_=>exact h.pl
 |2,_=>exact h.bs
variable {l:List l8}
theorem Vu(h:l≠[])(g:l8):l.dropLast++[g]=l.set (l.length-1) g:=by
 obtain⟨l0,v,rfl⟩:=nS h;simp
theorem YD(h:l≠[]):l[l.length-1]?=some (mD l):=by
 obtain⟨l0,v,rfl⟩:=nS h;simp[mD]
theorem Sr(h:l≠[]){p:Int}(hp:p=((mD l).pl:Int)):T0 p l=l:=by
 unfold T0
 split
 · rfl
 · have e:(⟨(mD l).fn,p.toNat,(mD l).bs⟩:l8)=mD l:=by subst hp;rfl
   rw[e];obtain⟨l0,v,rfl⟩:=nS h;simp[mD]
theorem Vv(h:l≠[]){p:Int}(hp:¬(p<0\/4294967295<p)):T0 p l=l.set (l.length-1) ⟨(mD l).fn,p.toNat,(mD l).bs⟩:=by
 unfold T0;rw[if_neg (λe=>e.elim h hp),Vu h]
section
variable {A:qE} {K:gA} {a a':ep} {c c':bM}
theorem gV.toS(h:gV A K a c)(hA:oe A K):pP A.X a A.k0 K.cells c.stk:=⟨h.ok,h.stk,h.sl,(by have:=hA.kf;have:=hA.fx;omega),hA.cells⟩
theorem gV.toF(h:gV A K a c)(hA:oe A K):oM A.X a A.f0 K.frames c.dS:=⟨h.ok,h.dS,h.fl,hA.fx,hA.frames⟩
theorem gV.aL4(h:gV A K a c)(hA:oe A K){l:List Nat}(k:nD A.X a a' A.k0 K.cells l):gV A K a' {c with stk:=l}:=
 have h1:=hA.kf;have h2:=hA.tk;have h3:=hA.gt;have h4:=h.gn;have h5:=h.tn
 ⟨k.1.ok,h.same.trans k.2.same,k.1.v,h.dS.xM k.2 (by omega),h.gl.xM k.2 (by omega),h.tb.xM k.2 (by omega),k.1.le,h.fl,h.gn,h.tn⟩
theorem gV.iN(h:gV A K a c)(hA:oe A K){l:List l8}(k:lU A.X a a' A.f0 K.frames l):gV A K a' {c with dS:=l}:=
 have h1:=hA.kf;have h2:=hA.tk;have h3:=hA.gt;have h4:=h.gn;have h5:=h.tn;have h6:=h.sl
 ⟨k.1.ok,h.same.trans k.2.same,h.stk.xM k.2 (by omega),k.1.v,h.gl.xM k.2 (by omega),h.tb.xM k.2 (by omega),h.sl,k.1.le,h.gn,h.tn⟩
variable {P:Program} {f:FuncId} {ps:List VP} {q':VP}
theorem qG(hA:oe A K)(l:List Nat)(h:∀a,pP A.X a A.k0 K.cells c.stk->bu P f ps (kq A.kb A.X A.k0 K.cells c.stk.length::jx A.X a) (γ:=ep) (λb=>nD A.X a b A.k0 K.cells l) (λb=>kq A.kb A.X A.k0 K.cells l.length::jx A.X b) (λ_=>q'))(hc:c'={c with stk:=l}:=by rfl):bu P f ps [aX A K c] (γ:=Unit) (λ_=>True) (λ_=>[aX A K c']) (λ_=>q'):=by
 subst hc;exact .core λa hV=> .Ng (d:=id) (h a (hV.toS hA)) (Perm.idx [0,3,4,1,2,5] rfl rfl) (λg hg=>hV.aL4 hA hg) (λg hg=>aF.perm (Perm.idx [0,3,4,1,2,5] rfl rfl)) (λ_ _=>aa.refl _)
theorem th(hA:oe A K)(l:List l8)(h:∀a,oM A.X a A.f0 K.frames c.dS->bu P f ps (kV A.fb A.X A.f0 K.frames c.dS.length::jx A.X a) (γ:=ep) (λb=>lU A.X a b A.f0 K.frames l) (λb=>kV A.fb A.X A.f0 K.frames l.length::jx A.X b) (λ_=>q'))(hc:c'={c with dS:=l}:=by rfl):bu P f ps [aX A K c] (γ:=Unit) (λ_=>True) (λ_=>[aX A K c']) (λ_=>q'):=by
 subst hc;exact .core λa hV=> .Ng (d:=id) (h a (hV.toF hA)) (Perm.idx [1,3,4,0,2,5] rfl rfl) (λg hg=>hV.iN hA hg) (λg hg=>aF.perm (Perm.idx [3,0,4,1,2,5] rfl rfl)) (λ_ _=>aa.refl _)
end
structure tj(K:gA)(c:bM):Prop where
 fo:∀f∈c.dS,oK f
 sv:∀v∈c.stk,v<18446744073709551616
 sl:c.stk.length<=K.cells
 fl:c.dS.length<=K.frames
 gv:∀v∈c.gl,v<18446744073709551616
 gn:c.gl.length=K.m.aA.length
 tn:c.tb.length=fH K.m
 tv:∀v∈c.tb,v<4294967296
theorem gV.fact(h:gV A K a c):tj K c:=by
 refine⟨λf hf=>?_,λv hv=>h.stk.lt hv,h.sl,h.fl,λv hv=>?_,h.gn,h.tn,λv hv=>?_⟩
 · obtain⟨i,hi⟩:=List.mem_iff_getElem?.1 hf
   exact(h.dS i f hi).ok
 · obtain⟨i,hi⟩:=List.mem_iff_getElem?.1 hv
   rw[<-h.gl i v hi];exact DI _ _
 · obtain⟨i,hi⟩:=List.mem_iff_getElem?.1 hv
   rw[<-h.tb i v hi];exact ta (a.bytes.drop _)
variable {env:Env} {Q:Exit->Act->World->Prop}
theorem aU.r9{x:Ctx}{s:Code}{h0:HP}(k:tj K c->aU P Q x s (h0::aX A K c::r) env):aU P Q x s (h0::aX A K c::r) env:=
 fun a w ⟨h1,h2,S,F,h3,h4,h5⟩=>k (by
  obtain⟨_,_,_,_,_,F1,F2,_,_,⟨b,G1,G2,_,_,hp,_⟩,_⟩:=h4;exact gV.fact hp) a w ⟨h1,h2,S,F,h3,h4,h5⟩
theorem tj.pop(h:tj K c):(aO c).1<18446744073709551616:=by
 show c.stk.getLast?.getD 0<_
 cases hl:c.stk.getLast? with
 |none=>decide
 |some v=>exact h.sv v (List.mem_of_getLast? hl)
theorem bS.r9{x:Ctx}{e:Exit}{h0:HP}(k:tj K c->bS Q e x (h0::aX A K c::r) env):bS Q e x (h0::aX A K c::r) env:=
 fun a w ⟨h1,h2,S,F,h3,h4,h5⟩=>k (by
  obtain⟨_,_,_,_,_,F1,F2,_,_,⟨b,G1,G2,_,_,hp,_⟩,_⟩:=h4;exact gV.fact hp) a w ⟨h1,h2,S,F,h3,h4,h5⟩
theorem Nh{l:List Nat}(h:∀v∈l,v<18446744073709551616):l.getLast?.getD 0<18446744073709551616:=by
 cases hl:l.getLast? with
 |none=>decide
 |some v=>exact h v (List.mem_of_getLast? hl)
theorem tj.ai0(h:tj K c):(aO (aO c).2).1<18446744073709551616:=Nh λv hv=>h.sv v (List.dropLast_subset _ hv)
theorem tj.aL5(h:tj K c):(aO (aO (aO c).2).2).1<18446744073709551616:=Nh λv hv=>h.sv v (List.dropLast_subset _ (List.dropLast_subset _ hv))
theorem tj.top(h:tj K c):oK (bK c):=by
 unfold bK;cases hl:c.dS.getLast? with
 |none=>exact⟨by decide,by decide,by decide⟩
 |some f=>exact h.fo f (List.mem_of_getLast? hl)
section
variable {P:Program} {ops:Array Oper} {Q:Exit->Act->World->Prop} {c:Ctx} {l:List Oper} {hs:List HP} {env:Env} {d:Tmp} {op:Op} {ty:TypeId} {pos:String} {after:Array Edge} {γ:Type} {φ:γ->Prop} {hs':γ->List HP} {q:γ->VP} {j t:Nat} {p:Prop}
theorem cv.nG{want:Bool}(hl:look env t=some (av p))(hj:(ops[j]?).bind (·.dst)=some t)(ht:Nat.blt t c.n=true)(hw:if want=true then p else ¬p)(h:gW P hs env ⟨some d,op,ty,pos,after,some (j,want)⟩ φ hs' q)(hd:Nat.blt d c.n=true)
    (k:∀g,φ g->cv P ops Q c l (hs' g) ((d,q g)::env)):cv P ops Q c (⟨some d,op,ty,pos,after,some (j,want)⟩::l) hs env:=by
  intro a w hst;obtain⟨h1,h2,S,F,h3,h4,h5⟩:=hst;refine wpListIn_step λK hK=>?_;obtain⟨b,hy,hb⟩:=Ar (ops:=ops) hl hj ht h2 h5
  have hbw:b=want:=by
    cases want
    · simp only[Bool.false_eq_true,if_false] at hw
      cases b
      · rfl
      · exact absurd (hb.1 rfl) hw
    · simp only[if_true] at hw;exact hb.2 hw
  rw[if_pos (by simp[Region.wanted,hy,hbw])];exact Oper.rX (h.jV h3 h4 h5) (h c a w S F h3 h4 h5 K Q λg v w' S' F' hg k1 k2 k3 k4 k5=>hK _ _ (k g hg _ _ ⟨by rw[Act.ek];exact h1,by rw[Act.iw];exact h2,S',F',k1,k4,(h5.mono k2 k3).put k5 (by rw[h2];simpa using hd)⟩))
theorem cv.nGF(hl:look env t=some (av p))(uG:(some (j,false):Option (Nat×Bool))=some (j,false))(hj:(ops[j]?).bind (·.dst)=some t)(ht:Nat.blt t c.n=true)(hp:¬p)(h:¬p->gW P hs env ⟨some d,op,ty,pos,after,some (j,false)⟩ φ hs' q)(hd:Nat.blt d c.n=true)
    (k:∀g,φ g->cv P ops Q c l (hs' g) ((d,q g)::env)):cv P ops Q c (⟨some d,op,ty,pos,after,some (j,false)⟩::l) hs env:= .nG hl hj ht (by simpa using hp) (h hp) hd k
end
def YE(P:Program)(f:FuncId)(ps:List VP)(hs:List HP)(φ:γ->Prop)(hs':γ->List HP)(q:γ->VP):Prop:=
 ∀(u:FrameMode) (w:World) (S F:BS) (vs:Array Value),(∀k,S k->k<w.heap.size)->(∀k,F k->k<w.heap.size)->(∀k,S k->¬F k)->dR hs F S w->hU ps S w vs.toList->
  CallsD P f vs u w λe u' w'=>u'=u/\∃v S' F' g,e= .returned v/\j6 ⟨w,S,F,0,none,[]⟩ w' S' F'/\φ g/\dR (hs' g) F' S' w'/\(q g).p S' w' v
theorem YE.intro{P:Program}{f:FuncId}{fn:Func}{x:Code}{ps:List VP}{hs:List HP}{γ:Type}{φ:γ->Prop}{hs':γ->List HP}{q:γ->VP}
    (n:Nat) (hf:P.funcs[f]?=some fn) (hb:fn.body=some x) (hnt:fn.ntmps=n) (hn:Nat.ble ps.length n=true)
    (h:∀(w0:World) (S0 M:BS),aU P (Post P fn ⟨w0,S0,M,n,none,[]⟩ φ hs' q) ⟨w0,S0,M,n,none,[]⟩ x hs (args ps)):YE P f ps hs φ hs' q:=by
  intro u w S F vs hS hF hSF hown hall;have hlen:ps.length=vs.size:=by simpa using hall.1
  have hn':ps.length<=n:=by simpa using hn
  refine callsD_of_wp hf hb (wpIn_wide.1 (h w S F _ _ ⟨rfl,?_,S,F,?_,hown,?_⟩))
  · simp;omega
  · exact⟨rfl,rfl,rfl,Nat.le_refl _,λ_ _ _=>rfl,hSF,hS,hF,λk hk=> .inl hk,λk hk=> .inl hk,λ_ hk=>hk⟩
  · intro t q' hl
    obtain⟨j,hj,hq⟩:=nX ps 0 t q' hl;have xO:t=j:=by omega
    subst xO;have hjl:t<ps.length:=(List.getElem?_eq_some_iff.1 hq).1;have Mi:t<vs.size:=by omega
    have:(vs++Array.replicate (fn.ntmps-vs.size) undef).getD t undef=vs[t]:=by simp[Array.getElem?_append,Mi]
    rw[this];exact hall.2 t q' _ hq (by simp[Mi])
variable {S:BS} {w:World}
theorem Ss:(aZ []).p S w (.tuple #[]):=⟨#[],rfl,rfl,λj p v hj=>by simp at hj⟩
variable {vs:List Value}
theorem KF{l:List Value}(h:hU (vs.map ag) S w l):l=vs:=by
 have hl:vs.length=l.length:=by simpa using h.1
 refine List.ext_getElem hl.symm λj h1 h2=>?_;have:=h.2 j (ag vs[j]) l[j] (by simp[h2]) (by simp[h1]);exact this
theorem EN(vs:List Value):hU (vs.map ag) S w vs:=
 ⟨by simp,λj q v h1 h2=>by
  rw[List.getElem?_map,h2] at h1;cases h1;rfl⟩
theorem HC{qs:List VP}{a b:List Value}(h:hU ps S w a)(k:hU qs S w b):hU (ps++qs) S w (a++b):=
 ⟨by simp[h.1,k.1],λj q v h1 h2=>by
  have hl:=h.1;by_cases hj:j<ps.length
  · rw[List.getElem?_append_left hj] at h1
    rw[List.getElem?_append_left (by omega)] at h2;exact h.2 j q v h1 h2
  · rw[List.getElem?_append_right (by omega)] at h1
    rw[List.getElem?_append_right (by omega),<-hl] at h2;exact k.2 _ q v h1 h2⟩
theorem cv.Su{ops:Array Oper}{c:Ctx}{l:List Oper}{xs:List Operand}{ats:Array TypeId}{ty:TypeId}{pos:String}{after:Array Edge}
    (hro:c.ro=none) (hx:kU env xs (vs.map ag)) (k:cv P ops Q {c with df:=⟨.fn (.func f) #[],vs.toArray⟩::c.df} l hs env):
    cv P ops Q c (⟨none, .defer ⟨.value (.func f),xs.toArray,ats⟩,ty,pos,after,none⟩::l) hs env:=by
  intro a w hst;obtain⟨h1,h2,S,F,h3,h4,h5⟩:=hst;refine wpListIn_plain rfl λK hK=>⟨λ_ _=>trivial,?_⟩;have hv:xs.map a.eval=vs:=KF (hx S w a h5);have GA:a.eval (.func f)= .func (.func f) #[] #[]:=rfl
  have hr:(execOp a.eval (⟨none, .defer ⟨.value (.func f),xs.toArray,ats⟩,ty,pos,after,none⟩:Oper)).run P w= .ok (.defer ⟨.fn (.func f) #[],vs.toArray⟩) w:=by
    simp[execOp,resolve,GA,hv,Deferred.ofValue]
  have hs0:(WF c.ro).round=none:=by rw[hro];rfl
  rw[hs0,Oper.semAt_none,hr,Oper.uponIn_defer];refine hK _ _ ?_;have:=k {a with defers:=⟨.fn (.func f) #[],vs.toArray⟩::a.defers} w ⟨by simp[h1],h2,S,F,⟨h3.os,h3.tape,h3.output,h3.size,h3.kept,h3.eg,h3.bZ,h3.cK,h3.own,h3.shr,h3.base⟩,h4,h5⟩;exact this
def Ni(P:Program)(fn:Func)(c:Ctx)(φ:γ->Prop)(hs':γ->List HP)(q:γ->VP):Exit->Act->World->Prop:=
 bodyPostD P fn λe w'=>∃v S' F' g,e= .returned v/\j6 ⟨c.w0,c.S0,c.M,0,none,[]⟩ w' S' F'/\φ g/\dR (hs' g) F' S' w'/\(q g).p S' w' v
variable {fn:Func}
theorem bu.YF{x:Code}
    (n:Nat) (hf:P.funcs[f]?=some fn) (hb:fn.body=some x) (hnt:fn.ntmps=n) (hn:Nat.ble ps.length n=true)
    (h:∀(w0:World) (S0 M:BS),aU P (Ni P fn ⟨w0,S0,M,n,none,[]⟩ φ hs' q) ⟨w0,S0,M,n,none,[]⟩ x hs (args ps)):bu P f ps hs φ hs' q:=
  bu.Mz n hf hb hnt hn h
variable {n:Nat}
theorem bS.EO{hs0:List HP}{l6:List HP}{q1:VP}{c0:Ctx}{w0:World}{S0 M:BS}{ro:Option Nat}{ds:List Deferred}
    (hd:YE P f ps hs0 (γ:=Unit) (λ_=>True) (λ_=>l6) (λ_=>q1)) (hb:j7 P f=true) (hv:∀S w,hU ps S w vs) (hp:hs.Perm (hs0++rest))
    (h:bS (Ni P fn c0 φ hs' q) .normal ⟨w0,S0,M,n,ro,ds⟩ (l6++rest) env):bS (Ni P fn c0 φ hs' q) .normal ⟨w0,S0,M,n,ro,⟨.fn (.func f) #[],vs.toArray⟩::ds⟩ hs env:=by
  intro a w hst;obtain⟨h1,h2,S,F,h3,h4,h5⟩:=hst;have h3':j6 ⟨w0,S0,M,n,ro,ds⟩ w S F:=⟨h3.os,h3.tape,h3.output,h3.size,h3.kept,h3.eg,h3.bZ,h3.cK,h3.own,h3.shr,h3.base⟩;obtain⟨F1,F2,oU,v7,Dc,JP⟩:=dR.append.1 (h4.perm hp);have N0:∀k,F1 k->k<w.heap.size:=λk hk=>h3.cK k (oU k hk).1;have hSF:∀k,S k->¬F1 k:=λk hk hf=>h3.eg k hk (oU k hf).1
  show Leaves P fn a.tmps _ a.defers .returning w
  have h1':a.defers=⟨.fn (.func f) #[],vs.toArray⟩::ds:=h1;rw[h1'];refine leaves_cons (f:=f) (args:=vs.toArray) (by simp) (by have h9:=fX hb vs.toArray w;simpa[invoke] using h9) ?_;refine(hd .returning w S F1 vs.toArray h3.bZ N0 hSF Dc (by simpa using hv S w)).mono ?_;rintro e u' w'' ⟨rfl,v,S',F1',g,rfl,qR,_,oy,_⟩;obtain⟨k1,k2,k3,k4⟩:=j6.over h3' oU v7 JP qR oy;exact h {a with defers:=ds} w'' ⟨rfl,h2,S',_,k1,k4,h5.mono k2 k3⟩
theorem bS.aL6{c:Ctx}(h:bS (Post P fn c φ hs' q) .normal c hs env):bS (Ni P fn c φ hs' q) .normal c hs env:=by
 intro a w hst;obtain⟨h9,v,hr,hR⟩:=h a w hst
 show Leaves P fn a.tmps _ a.defers .returning w
 rw[h9];exact⟨v,hr,hR⟩
section
variable {P:Program} {hs:List HP} {env:Env} {dst:Option Tmp} {ty:TypeId} {pos:String} {after:Array Edge} {gd:Option (Nat×Bool)} {x y z:Operand} {ats:Array TypeId}
theorem cell_of{F S:BS}{w:World}{b off:Nat}{cs:List VP}{u:Value}(h:(az b cs).p F S w)(hc:cs[off]?=some (ag u)):w.cell? ⟨b,off,none⟩=some u/\w.frozen? ⟨b,off,none⟩=false:=by
 obtain⟨hF0,arr,E',WH,hsz,WI⟩:=h;obtain⟨u0,ZM,JA⟩:=WI _ _ hc;simp only[ag] at JA;subst JA
 exact⟨by simp[World.cell?,WH,ZM],by simp[World.frozen?,WH]⟩
theorem yh{cs:List VP}{b off i:Nat}{o:Op}{u v r:Value}{qv:VP}(hqv:∀S w,qv.p S w r)(hi:hs[i]?=some (az b cs))(hc:cs[off]?=some (ag u))[ZP:Flat (ag v)]
    (hr:∀(a:Act) (w:World) (S:BS),dI env S w a.tmps->w.cell? ⟨b,off,none⟩=some u->w.frozen? ⟨b,off,none⟩=false->(execOp a.eval ⟨dst,o,ty,pos,after,gd⟩).run P w= .ok (.value r) (w.setCell ⟨b,off,none⟩ v)):
    gW P hs env ⟨dst,o,ty,pos,after,gd⟩ (γ:=Unit) (λ_=>True) (λ_=>hs.set i (az b (cs.set off (ag v)))) (λ_=>qv):=by
  intro c a w S F aI hown oT Kp Q hk;obtain⟨F0,_,ak⟩:=hown.get hi;obtain⟨hcell,hfr⟩:=cell_of ak hc;obtain⟨hF0,arr,E',WH,hsz,WI⟩:=ak;have ho:off<cs.length:=(List.getElem?_eq_some_iff.1 hc).1;have hrr:=hr a w S oT hcell hfr;refine gW.Mw (m:=b) (h1:=az b (cs.set off (ag v))) aI hown hi (λF1 S w h=>h.1) hrr rfl rfl rfl (by simp[World.setCell]) (λk hk=>eN w _ _ k hk) (λF1 h=>?_) (λhS hag hO=>hk () _ _ S F trivial hS (λ_ h=>h) hag hO (hqv _ _))
  have hag:∀k,S k->(w.setCell ⟨b,off,none⟩ v).heap[k]?=w.heap[k]?:=λk hk=>eN w _ _ k (λe=>by
    obtain⟨F1',F2',f1,_,f3,_⟩:=hown.zj hi;exact aI.eg k hk (e▸(f1 b f3.1).1))
  refine⟨h.1,arr.setIfInBounds off v,E',by simp[World.setCell,Array.getElem?_modify,WH],by simp[hsz],λj q' hj=>?_⟩;rw[List.getElem?_set] at hj;by_cases e:off=j
  · subst e
    rw[if_pos rfl,if_pos ho] at hj;cases hj
    have h9:off<arr.size:=by omega
    exact⟨_,by simp[h9],rfl⟩
  · rw[if_neg e] at hj
    obtain⟨u',F6,hq⟩:=WI j q' hj;exact⟨u',by simp[Array.getElem?_setIfInBounds_ne e,F6],q'.mono (λ_ h=>h) hag hq⟩
theorem Bi{f:FuncId}{fn:Func}{cs:List VP}{b off i:Nat}{k:IntKind}{n:Int}(hf:P.funcs[f]?=some fn)(hname:(fn.name=="runtime.NumGoroutine")=false)(hb:fn.body.isNone=true)(hn:Extern.findNext fn=none)
    (he:Extern.find fn=some (Extern.Atomic.loadT (.int k))) (hx:bA env x (ax b off)) (hi:hs[i]?=some (az b cs)) (hc:cs[off]?=some (af k n)):
    bw P hs env ⟨dst, .call ⟨.value (.func f), #[x],ats⟩,ty,pos,after,gd⟩ (af k n):=by
  intro a w S F h1 h2 h3 h4 oT K Q hk;have hv:=hx S w a oT;simp only[ag] at hv
  obtain⟨F0,_,ak⟩:=h4.get hi;obtain⟨hcell,hfr⟩:=cell_of ak hc;have hrun:=run_call_load hf hname hb hn k he hcell;have GA:a.eval (.func f)= .func (.func f) #[] #[]:=rfl
  have hr:(execOp a.eval ⟨dst, .call ⟨.value (.func f), #[x],ats⟩,ty,pos,after,gd⟩).run P w= .ok (.value (.int k n)) w:=by
    simp[execOp,resolve,Deferred.ofValue,invoke,hv,GA,hrun]
  unfold Oper.wp;rw[hr];exact hk _ w S (gq.refl _ _) rfl
theorem OW{f:FuncId}{fn:Func}{cs:List VP}{b off i:Nat}{k:IntKind}{n m:Int}(hf:P.funcs[f]?=some fn)(hname:(fn.name=="runtime.NumGoroutine")=false)(hb:fn.body.isNone=true)(hn:Extern.findNext fn=none)
    (he:Extern.find fn=some (Extern.Atomic.casT (.int k))) (hx:bA env x (ax b off)) (hy:bA env y (af k n)) (hz:bA env z (af k m)) (hi:hs[i]?=some (az b cs)) (hc:cs[off]?=some (af k n)):
    gW P hs env ⟨dst, .call ⟨.value (.func f), #[x,y,z],ats⟩,ty,pos,after,gd⟩ (γ:=Unit) (λ_=>True) (λ_=>hs.set i (az b (cs.set off (af k m)))) (λ_=>av True):=
  yh (λ_ _=>⟨true,rfl,by simp⟩) hi hc λa w S oT hcell hfr=>by
    have hv:=hx S w a oT;simp only[ag] at hv
    have Gb:=hy S w a oT;simp only[ag] at Gb
    have hv3:=hz S w a oT;simp only[ag] at hv3
    have GA:a.eval (.func f)= .func (.func f) #[] #[]:=rfl;have hrun:=run_call_cas_hit (y:=m) hf hname hb hn k he hcell hfr;simp[execOp,resolve,Deferred.ofValue,invoke,hv,Gb,hv3,GA,hrun]
theorem HD{f:FuncId}{fn:Func}{cs:List VP}{b off i:Nat}{k:IntKind}{m:Int}{u:Value}(hf:P.funcs[f]?=some fn)(hname:(fn.name=="runtime.NumGoroutine")=false)(hb:fn.body.isNone=true)(hn:Extern.findNext fn=none)
    (he:Extern.find fn=some Extern.Atomic.storeT) (hx:bA env x (ax b off)) (hy:bA env y (af k m)) (hi:hs[i]?=some (az b cs)) (hc:cs[off]?=some (ag u)):
    gW P hs env ⟨dst, .call ⟨.value (.func f), #[x,y],ats⟩,ty,pos,after,gd⟩ (γ:=Unit) (λ_=>True) (λ_=>hs.set i (az b (cs.set off (af k m)))) (λ_=>aZ []):=
  yh (λ_ _=>Ss) hi hc λa w S oT hcell hfr=>by
    have hv:=hx S w a oT;simp only[ag] at hv
    have Gb:=hy S w a oT;simp only[ag] at Gb
    have GA:a.eval (.func f)= .func (.func f) #[] #[]:=rfl;have hrun:=run_call_store (y:=m) (k:=k) hf hname hb hn he hcell hfr;simp[execOp,resolve,Deferred.ofValue,invoke,hv,Gb,GA,hrun]
theorem OX{f:FuncId}{fn:Func}{cs:List VP}{b off i:Nat}{k:IntKind}{n m s:Int}(hf:P.funcs[f]?=some fn)(hname:(fn.name=="runtime.NumGoroutine")=false)(hb:fn.body.isNone=true)(hn:Extern.findNext fn=none)
    (he:Extern.find fn=some (Extern.Atomic.update (Op.intArith .add) k true)) (hx:bA env x (ax b off)) (hy:bA env y (af k m)) (hi:hs[i]?=some (az b cs)) (hc:cs[off]?=some (af k n)) (hs0:k.wrap (n+m)=s):
    gW P hs env ⟨dst, .call ⟨.value (.func f), #[x,y],ats⟩,ty,pos,after,gd⟩ (γ:=Unit) (λ_=>True) (λ_=>hs.set i (az b (cs.set off (af k s)))) (λ_=>af k s):=
  yh (λ_ _=>rfl) hi hc λa w S oT hcell hfr=>by
    have hv:=hx S w a oT;simp only[ag] at hv
    have Gb:=hy S w a oT;simp only[ag] at Gb
    have GA:a.eval (.func f)= .func (.func f) #[] #[]:=rfl;have oo:(Op.intArith .add k n m).run P w= .ok (.int k s) w:=by simp[Op.intArith,hs0]
    have hrun:=run_call_add hf hname hb hn k he hcell hfr oo;simp[execOp,resolve,Deferred.ofValue,invoke,hv,Gb,GA,hrun]
theorem zR{f:FuncId}(h:∀w:World,(callFunc f #[]).run P w= .ok (.value (.tuple #[])) w):bw P hs env ⟨dst, .call ⟨.value (.func f), #[],ats⟩,ty,pos,after,gd⟩ (aZ []):=by
 intro a w S F h1 h2 h3 h4 oT K Q hk;have GA:a.eval (.func f)= .func (.func f) #[] #[]:=rfl
 have hr:(execOp a.eval ⟨dst, .call ⟨.value (.func f), #[],ats⟩,ty,pos,after,gd⟩).run P w= .ok (.value (.tuple #[])) w:=by
  have:=h w;simp[execOp,resolve,Deferred.ofValue,invoke,GA,this]
 unfold Oper.wp;rw[hr];exact hk _ w S (gq.refl _ _) Ss
theorem Nj{f:FuncId}{b off:Nat}(h:∀(a:Addr) (w:World),(callFunc f #[.pointer (some a)]).run P w= .ok (.value (.tuple #[])) w)(hx:bA env x (ax b off)):bw P hs env ⟨dst, .call ⟨.value (.func f), #[x],ats⟩,ty,pos,after,gd⟩ (aZ []):=by
 intro a w S F h1 h2 h3 h4 oT K Q hk;have hv:=hx S w a oT;simp only[ag] at hv
 have GA:a.eval (.func f)= .func (.func f) #[] #[]:=rfl
 have hr:(execOp a.eval ⟨dst, .call ⟨.value (.func f), #[x],ats⟩,ty,pos,after,gd⟩).run P w= .ok (.value (.tuple #[])) w:=by
  have:=h ⟨b,off,none⟩ w;simp[execOp,resolve,Deferred.ofValue,invoke,GA,hv,this]
 unfold Oper.wp;rw[hr];exact hk _ w S (gq.refl _ _) Ss
theorem HE{src d t:TypeId}{cs:List VP}{b off i:Nat}{u:Value}(h1:P.underlying src=some (.pointer t))(h2:P.underlying d=some .unsafePointer)(h3:(P.info? t).map (λi=>decide (i.size=0))=some false)(hx:bA env x (ax b off))(hi:hs[i]?=some (az b cs))(hc:cs[off]?=some (ag u)):
    bw P hs env ⟨dst, .convert src d x,ty,pos,after,gd⟩ (ax b off):=by
  intro a w S F k1 k2 k3 k4 oT K Q hk;have hv:=hx S w a oT;simp only[ag] at hv
  obtain⟨F0,_,ak⟩:=k4.get hi;obtain⟨hcell,_⟩:=cell_of ak hc;have hcv:=run_convert_to_unsafe h1 h2 h3 hcell
  have hr:(execOp a.eval ⟨dst, .convert src d x,ty,pos,after,gd⟩).run P w= .ok (.value (.pointer (some ⟨b,off,none⟩))) w:=by
    simp[execOp,hv,hcv]
  unfold Oper.wp;rw[hr];exact hk _ w S (gq.refl _ _) rfl
theorem KG{f:FuncId}{xs:List Operand}{ps cs:List VP}{hs0 rest:List HP}{γ:Type}{φ:γ->Prop}{hs':γ->List HP}{q:γ->VP}(hf:bu P f (ps++cs) hs0 φ hs' q)(hb:j7 P f=true)(hx:bA env x (yM f cs))(hxs:kU env xs ps)(hp:hs.Perm (hs0++rest)):
    gW P hs env ⟨dst, .call ⟨.value x,xs.toArray,ats⟩,ty,pos,after,gd⟩ φ (λg=>hs' g++rest) q:=by
  intro c a w S F aI hown he K Q hk;obtain⟨F1,F2,oU,v7,Dc,JP⟩:=dR.append.1 (hown.perm hp);have N0:∀k,F1 k->k<w.heap.size:=λk hk=>aI.cK k (oU k hk).1;have hSF:∀k,S k->¬F1 k:=λk hk hf=>aI.eg k hk (oU k hf).1;obtain⟨lb,hv,hlb⟩:=hx S w a he
  have hr:(execOp a.eval ⟨dst, .call ⟨.value x,xs.toArray,ats⟩,ty,pos,after,gd⟩).run P w= .ok (.enter f ((xs.map a.eval).toArray++lb.toArray)) w:=by
    have h:=fX hb ((xs.map a.eval).toArray++lb.toArray) w;simp[execOp,resolve,hv,Deferred.ofValue,invoke] at h ⊢;exact h
  unfold Oper.wp;rw[hr];refine(hf w S F1 _ aI.bZ N0 hSF Dc (by simpa using HC (hxs S w a he) hlb)).mono ?_;rintro e w' ⟨v,S',F1',g,rfl,h2,hφ,oy,hq⟩;obtain⟨k1,k2,k3,k4⟩:=j6.over aI oU v7 JP h2 oy;exact hk g v w' S' _ hφ k1 k2 k3 k4 hq
end
def lV(j:qa):List VP:=[af .i64 j.to,af .i64 j.keep,af .i64 j.height]
instance:gX 3 lV:=⟨λ_=>rfl,λx q h=>by simp only[lV,List.mem_cons,List.not_mem_nil,or_false] at h;rcases h with h|h|h<;>subst h<;>infer_instance⟩
instance (f:qa):bD (lV f):=bD.of f
structure tq where
 b:Nat
 jm:Nat
 cm:Nat
 sm:Nat
abbrev tu(I:tq)(J:List (dX×qa))(C S:List (Int×Int))(ov:VP):List HP:=
 [az I.b [ag (.map (some I.jm)),ag (.map (some I.cm)),ag (.map (some I.sm)),ov],oW I.jm (JT .i64 .i64) (λj=>aC (lV j)) J,oW I.cm (Value.int .i64) fP C,oW I.sm (Value.int .i64) fP S]
def m6(b:Nat)(d:iK):HP:=XI λx:tq×List (Int×Int)×VP=>sM (lK (x.1.b=b)::tu x.1 d.jumps x.2.1 d.xe x.2.2)
def pQ(x:iK×Nat):List VP:=[ai 1 an x.1.body.aV,ai 5 aB x.1.body.L,ax x.2 0,ai 1 an x.1.sig.P,ai 1 an x.1.sig.R,nV x.1.locals,af .i64 x.1.nK]
instance:gX 7 pQ:=⟨λ_=>rfl,λx q h=>by simp only[pQ,List.mem_cons,List.not_mem_nil,or_false] at h;rcases h with h|h|h|h|h|h|h<;>subst h<;>infer_instance⟩
instance (x:iK×Nat):bD (pQ x):=bD.of x
def gY:List (iK×Nat)->List HP
 |[]=>[]
 |x::r=>m6 x.2 x.1::gY r
def eU(l:List (iK×Nat)):HP:=sM (gY l)
theorem rI:∀(a b:List (iK×Nat)),gY (a++b)=gY a++gY b
 |[],_=>rfl
 |x::r,b=>by show _::gY (r++b)=_::(gY r++gY b);rw[rI r b]
variable {i:Nat}
theorem Sv{α:Type}{l:List α}{x:α}(h:l[i]?=some x):l=l.take i++x::l.drop (i+1):=by
 obtain⟨hi,e⟩:=List.getElem?_eq_some_iff.1 h;rw[<-e,List.getElem_cons_drop,List.take_append_drop]
variable {x:iK×Nat}
theorem Bj{l:List (iK×Nat)}(h:l[i]?=some x):(gY l).Perm (m6 x.2 x.1::gY (l.take i++l.drop (i+1))):=by
 have e:gY l=gY (l.take i)++m6 x.2 x.1::gY (l.drop (i+1)):=by
  conv=>lhs;rw[Sv h,rI]
  rfl
 rw[e,rI];exact List.perm_middle
theorem DJ{l:List (iK×Nat)}(h:l[i]?=some x):aF (eU l::r) (m6 x.2 x.1::eU (l.take i++l.drop (i+1))::r):=
 (aF.unpack (l:=gY l)).trans ((aF.perm ((Bj h).append_right r)).trans (aF.cons _ (aF.pack (l:=gY (l.take i++l.drop (i+1))))))
theorem HF{l:List (iK×Nat)}(h:l[i]?=some x):aF (m6 x.2 x.1::eU (l.take i++l.drop (i+1))::r) (eU l::r):=
 (aF.cons _ (aF.unpack (l:=gY (l.take i++l.drop (i+1))))).trans ((aF.perm ((Bj h).append_right r).symm).trans (aF.pack (l:=gY l)))
theorem OY{l:List (iK×Nat)}:aF (m6 x.2 x.1::eU l::r) (eU (l++[x])::r):=by
 refine(aF.cons _ (aF.unpack (l:=gY l))).trans (aF.trans (aF.perm ?_) (aF.pack (l:=gY (l++[x]))));rw[rI]
 show(m6 x.2 x.1::(gY l++r)).Perm ((gY l++[m6 x.2 x.1])++r)
 rw[List.append_assoc];exact List.perm_middle.symm
theorem OZ:aF r (eU []::r):=aF.pack (l:=[])
def kr(o:Bd):List VP:=[nV o.kind,ai 1 ia o.res,nV o.ah5,nV o.imp,nV o.err]
instance:gX 5 kr:=⟨λ_=>rfl,λx q h=>by simp only[kr,List.mem_cons,List.not_mem_nil,or_false] at h;rcases h with h|h|h|h|h<;>subst h<;>infer_instance⟩
instance (o:Bd):bD (kr o):=bD.of o
structure Sw where
 b:Nat
 F:Nat
 od:Option (List Nat)
 cl:Prop
def cc4(K:gA):Option (List Nat)->List (iK×Nat)
 |none=>[]
 |some bs=>K.own.zip bs
def ai1(K:gA):Option (List Nat)->VP
 |none=>ag (.slice none 0 0)
 |some bs=>ai 7 pQ (K.own.zip bs)
def ai2:Option (List Nat)->Int
 |none=>0
 |some _=>1
def tP:Bool->Prop
 |true=>True
 |false=>False
theorem Bk{b:Bool}:tP b↔b=true:=by cases b<;>simp[tP]
def KH(A:qE)(K:gA)(E:Sw)(s:jD):List VP:=
 [ax A.sb 0,nV K.cells,nV K.frames,nV E.F,ax A.kb 0,ax A.fb 0,af .u32 (ai2 E.od),af .i32 0,af .u32 0,ai1 K E.od,nV s.fuel,nV s.bB,av (tP s.waits),nV s.host,nV s.fault,av E.cl,af .i64 s.ku.1,af .i64 s.ku.2,nV s.out.kind,ai 1 ia s.out.res,nV s.out.ah5,nV s.out.imp,nV s.out.err,av (tP s.over)]
abbrev dZ(A:qE)(K:gA)(E:Sw)(s:jD):HP:=az E.b (KH A K E s)
abbrev mE(b F:Nat)(bs:List Nat):Sw:=⟨b,F,some bs,False⟩
structure EP(d:iK):Prop where
 loc:d.locals<=2000
 need: -100000<=d.nK/\d.nK<=100000
 len:d.body.L.length<=5000
 res:d.sig.R.length<=1000
 jmp:∀p j,er d.jumps p=some j-> -100000<=j.height/\j.height<=100000
structure T3(K:gA):Prop where
 sg:∀f:Nat,(eY K.m (f:Int)).getD ⟨[],[]⟩=K.sig f
 si:∀f:Int,(eY K.m f).isSome↔0<=f/\f<(K.dN:Int)+(K.own.length:Int)
 sl:∀f:Nat,(K.sig f).P.length<=1000/\(K.sig f).R.length<=1000
 st:∀f:Nat,(∀t∈(K.sig f).P,fG t=32\/fG t=64)/\∀t∈(K.sig f).R,fG t=32\/fG t=64
 ni:K.dN<=1000
 no:K.own.length<=1000
 tn:fH K.m<=1000000
 ow:∀i,i<K.own.length->EP (K.made i)/\(K.sig (K.dN+i)).P.length<=(K.made i).locals
theorem Bl{bs:List Nat}(h:bs.length=K.own.length)(hi:i<K.own.length):∃b,(K.own.zip bs)[i]?=some (K.made i,b):=by
 obtain⟨d,hd⟩:=ah (xs:=K.own) (k:=i) hi;obtain⟨b,hb⟩:=ah (xs:=bs) (k:=i) (by omega);exact⟨b,by rw[List.getElem?_zip_eq_some];exact⟨by rw[hd];unfold gA.made;rw[hd];rfl,hb⟩⟩
variable {L:List UInt8}
theorem DK:∀{vs:List Nat} {t:UInt8} {v:Nat} {k:Nat},L[k]?=some t->vs[k]?=some v->ej L (vs.take (k+1))=ej L (vs.take k)++[qu t v]:=by
 induction L with
 |nil=>intro vs t v k h;simp at h
 | cons u L ih=>
  intro vs t v k h1 h2;cases vs with
  |nil=>simp at h2
  | cons w vs=>
   cases k with
   |zero=>simp at h1 h2;subst h1;subst h2;simp[ej]
   |succ k=>
    simp only[List.getElem?_cons_succ] at h1 h2;simp only[List.take_succ_cons,ej,ih h1 h2,List.cons_append]
theorem Nk:∀{vs:List Nat},(∀v∈vs,v<18446744073709551616)->∀v∈ej L vs,v<18446744073709551616:=by
 induction L with
 |nil=>intro vs _ v hv;cases vs<;>simp[ej] at hv
 | cons u L ih=>
  intro vs h v hv;cases vs with
  |nil=>simp[ej] at hv
  |cons w vs=>
   rcases List.mem_cons.1 hv with rfl|hv
   · exact zH (h w (by simp))
   · exact ih (λv hv=>h v (by simp[hv])) v hv
theorem HG:∀{vs:List Nat},vs.length<=L.length->(ej L vs).length=vs.length:=by
 induction L with
 |nil=>intro vs h;cases vs with
  |nil=>rfl
  |cons=>simp at h
 |cons u L ih=>
  intro vs h;cases vs with
  |nil=>rfl
  |cons w vs=>simp only[ej,List.length_cons];rw[ih (by simpa using h)]
variable {d:iK}
theorem Bm{I:tq}{b:Nat}{C:List (Int×Int)}{ov:VP}(h:I.b=b):aF (tu I d.jumps C d.xe ov++r) (m6 b d::r):=
 (aF.pure h).trans ((aF.pack (l:=lK (I.b=b)::tu I d.jumps C d.xe ov)).trans (aF.ex (f:=λx:tq×List (Int×Int)×VP=>sM (lK (x.1.b=b)::tu x.1 d.jumps x.2.1 d.xe x.2.2)) (I,C,ov)))
theorem bu.side{b:Nat}{q:VP}(h:∀(I:tq) C ov,I.b=b->bu P f ps (tu I d.jumps C d.xe ov) (γ:=Unit) (λ_=>True) (λ_=>tu I d.jumps C d.xe ov) (λ_=>q)):bu P f ps [m6 b d] (γ:=Unit) (λ_=>True) (λ_=>[m6 b d]) (λ_=>q):=
 bu.opens λx=>bu.unpack (bu.lK λhb=>((h x.1 x.2.1 x.2.2 hb).pre (aF.of_eq (List.append_nil _))).post (λ_=>()) (λ_ _=>trivial) (λ_ _=>(aF.of_eq (List.append_nil _).symm).trans (Bm hb)) (λ_ _=>aa.refl _))
theorem Sx:aa (ag (.agg #[.int .i64 0, .int .i64 0, .int .i64 0])) (aC (lV ⟨0,0,0⟩)):=λS w v h=>⟨_,h,rfl,λi p hp=>by
 match i,hp with
 |0,hp=>cases hp;exact⟨_,rfl,rfl⟩
 |1,hp=>cases hp;exact⟨_,rfl,rfl⟩
 |2,hp=>cases hp;exact⟨_,rfl,rfl⟩
 |i+3,hp=>cases hp⟩
theorem Vw{o:Option qa}:aa (N1 (λj=>aC (lV j)) (ag (.agg #[.int .i64 0, .int .i64 0, .int .i64 0])) o) (aC (lV (o.getD ⟨0,0,0⟩))):=by
 cases o with
 |none=>exact Sx
 |some j=>exact aa.refl _
theorem Sy{o:Option Int}:aa (N1 fP (ag (.int .i64 0)) o) (af .i64 (o.getD 0)):=by cases o<;>exact aa.refl _
theorem EP.jh(h:EP d)(i k:Int): -100000<=(d.jump i k).height/\(d.jump i k).height<=100000:=by
 unfold iK.jump;cases hl:er d.jumps (i,k) with
 |none=>exact⟨by decide,by decide⟩
 |some j=>exact h.jmp _ _ hl
structure Sz(K:gA)(x:aj):Prop where
 w:p9 x
 call:x.Code=16->x.A<(K.dN:Int)+(K.own.length:Int)
 sig:x.Code=17->x.A<(K.m.bQ.length:Int)
 Vx:x.Code=35\/x.Code=36->x.A<(K.m.aA.length:Int)
 loc:x.Code=32\/x.Code=33\/x.Code=34->x.A<=4294967295
 Xa:(dY x.Code).Form≠8/\(dY x.Code).Form≠9/\(dY x.Code).Form≠10
theorem N0{l:List UInt8}(h:(l.length:Int)=1):l[0]?=some (l.headD 0):=by
 cases l with
 |nil=>simp at h
 |cons a r=>rfl
theorem SA{l:List UInt8}:l=[126]↔(l.length:Int)=1/\((l.headD 0).toNat:Int)=126:=by
 cases l with
 |nil=>simp
 | cons a r=>
  cases r with
  |nil=>
   simp only[List.headD_cons,List.cons.injEq,and_true,List.length_cons,List.length_nil];constructor
   · rintro rfl;exact⟨rfl,rfl⟩
   · intro h;exact UInt8.toNat_inj.1 (by have:=h.2;show a.toNat=126;omega)
  |cons b r=>simp;omega
theorem SC(h:c.tb.length=fH K.m)(hn:¬n<fH K.m):(c.tb[n]?).getD 0=0:=by
 rw[List.getElem?_eq_none (by omega)];rfl
theorem SD(h:∀v∈c.gl,v<18446744073709551616)(i:Nat):(c.gl[i]?).getD 0<18446744073709551616:=by
 cases hl:c.gl[i]? with
 |none=>decide
 |some v=>exact h v (List.mem_of_getElem? hl)
theorem Nl(h:∀v∈c.stk,v<18446744073709551616)(i:Nat):zp i c<18446744073709551616:=by
 unfold zp;cases hl:c.stk[i]? with
 |none=>decide
 |some v=>exact h v (List.mem_of_getElem? hl)
theorem oN{v:Nat}(h:v<18446744073709551616):∀w∈[v],w<18446744073709551616:=λw hw=>by rw[List.mem_singleton.1 hw];exact h
theorem SE{t:Nat}{s:aY}(h:¬tP (Be t 0 s).1.over):t=0/\Be t 0 s=s:=by
 by_cases ht:t=0
 · subst ht;exact⟨rfl,rfl⟩
 · have e:Be t 0 s=pO t s:=(if_neg (λh=>h rfl)).trans (if_pos ht)
   rw[e] at h;exact absurd trivial h
theorem KI{t:Nat}{s:aY}(ho:s.1.over=false)(h:tP (Be t 0 s).1.over):t≠0/\Be t 0 s=pO t s:=by
 by_cases ht:t=0
 · subst ht
   have e:Be 0 0 s=s:=rfl;rw[e,ho] at h;exact h.elim
 · exact⟨ht,(if_neg (λh=>h rfl)).trans (if_pos ht)⟩
theorem SF{op:Int}{A B:Nat}:0<=oJ n op A B:=by
 unfold oJ;split
 · decide
 · split
   · decide
   · split<;>decide
theorem HH{c:Int}(h:(0:Int)<((aD c).1:Int)):(aD c).1=8\/(aD c).1=16\/(aD c).1=32:=by
 unfold aD at h ⊢
 split
 · exact .inr (.inr rfl)
 · split
   · exact .inl rfl
   · split
     · exact .inr (.inl rfl)
     · rename_i h1 h2 h3;rw[if_neg h1,if_neg h2,if_neg h3] at h;exact absurd h (by decide)
theorem HI(c:Int):kQ c=32\/kQ c=64:=by unfold kQ;split<;>simp
theorem YG(p:Int)(c:bM):(bK (yf p c)).fn=(bK c).fn:=by
 unfold yf
 split
 · rfl
 · simp[bK]
theorem ai3(p:Int)(c:bM):(yf p c).tb=c.tb:=by unfold yf;split<;>rfl
theorem xh{dst:Option Tmp}{ty:TypeId}{pos:String}{after:Array Edge}{gd:Option (Nat×Bool)}{x:Operand}{v:Value}{xs:List Operand}{ats:Array TypeId}{hs0:List HP}(hf:bu P f (ag v::ps) hs0 φ hs' q)(hb:j7 P f=true)(hx:bA env x (ag (.func (.func f) #[v] #[])))(hxs:kU env xs ps)(hp:hs.Perm (hs0++rest)):
    gW P hs env ⟨dst, .call ⟨.value x,xs.toArray,ats⟩,ty,pos,after,gd⟩ φ (λg=>hs' g++rest) q:=by
  intro c a w S F aI hown he K Q hk;obtain⟨F1,F2,oU,v7,Dc,JP⟩:=dR.append.1 (hown.perm hp);have N0:∀k,F1 k->k<w.heap.size:=λk hk=>aI.cK k (oU k hk).1;have hSF:∀k,S k->¬F1 k:=λk hk hf=>aI.eg k hk (oU k hf).1;have hv:=hx S w a he;simp only[ag] at hv
  have hr:(execOp a.eval ⟨dst, .call ⟨.value x,xs.toArray,ats⟩,ty,pos,after,gd⟩).run P w= .ok (.enter f (#[v]++(xs.map a.eval).toArray)) w:=by
    have h:=fX hb (#[v]++(xs.map a.eval).toArray) w;simp[execOp,resolve,hv,Deferred.ofValue,invoke] at h ⊢;exact h
  unfold Oper.wp;rw[hr];refine(hf w S F1 _ aI.bZ N0 hSF Dc (by simpa using HC (EN (S:=S) (w:=w) [v]) (hxs S w a he))).mono ?_;rintro e w' ⟨u,S',F1',g,rfl,h2,hφ,oy,hq⟩;obtain⟨k1,k2,k3,k4⟩:=j6.over aI oU v7 JP h2 oy;exact hk g u w' S' _ hφ k1 k2 k3 k4 hq
end Go.Hl
end
section
namespace Go.Proofs.YtppekopemdoclaaGreatDoor
open Go.Hl Go.RowKit
theorem HJ{n:Nat}:dF Wo 126 [fP (n:Int)] (fP (aJ n:Int)):=by
 refine In 12 Tryz.func126 λ_ _ _=>?_;refine eB ?_;refine Cd (λc0=>?_) λc0=>?_
 ·
  refine Z7 ?_;refine br ?_;exact aa.int (by unfold aJ;rw[if_pos (by omega)];rfl)
 refine Z9 ?_;refine .bk (σ:=Nat×Nat) (λ_=>[]) (λs=>[(3,fP (s.1:Int))]) (λs=>s.1*2^s.2=16*2^19/\16<=s.1/\vc s.2 s.1 n=aJ n) (λs=>s.2) (16,19) ⟨rfl,by decide,by unfold aJ;rw[if_neg (by omega)]⟩ rfl ?_ ?_
 · exact(.get rfl (aa.refl _) (.refl _ _))
 rintro⟨c,k⟩ ⟨hk,Vy,hd⟩;simp only at hk Vy hd ⊢;have hcm:c<=8388608:=by(have h2:0<2^k:=Nat.two_pow_pos k;have h3:c<=c*2^k:=Nat.le_mul_of_pos_right _ h2;omega)
 refine Z8 ?_;refine Cd (λc1=>?_) λc1=>?_
 ·
  refine Z9 ?_;refine .round (c*2,k-1) (by obtain⟨k,rfl⟩:∃j,k=j+1:=⟨k-1,by(cases k with|zero=>simp at hk;omega|succ k=>omega)⟩;simp only[Nat.add_sub_cancel];exact⟨by rw[<-hk,Nat.pow_succ];simp only[Nat.mul_assoc,Nat.mul_comm,Nat.mul_left_comm],by omega,by(unfold vc at hd;rw[if_pos (by omega)] at hd;exact hd)⟩) (by cases k with|zero=>simp at hk;omega|succ k=>simp) rfl ?_;exact(.get rfl (aa.int (by simp)) (.keep 7 rfl rfl))
 refine eB ?_;refine br ?_;exact aa.int (by rw[<-hd,Od (by omega)])
theorem HK{X:oB}{a:ep}{c:Nat}(ak:dz X a)(aR:c<=8388608):bu Wo 127 [ax X.ab 0,fP (c:Int)] (iR X a) (γ:=ep×Nat×Bool) (λg=>g=qX X.size a c) (λg=>iR X g.1) (λg=>aZ [fP (g.2.1:Int),av (g.2.2=true)]):=by
 refine In 58 Tryz.func127 λ_ _ _=>?_;have u5:=ak.hi;have hk2:=ak.most
 refine ij ?_;refine .p (XG (i:=3) Tryz.ae0 Tryz.underlying144 (λw=>JU Tryz.aJ7 w) (.t rfl) (.t rfl) rfl) rfl ?_;refine Z6 ?_;refine .p (Mk rfl Tryz.underlying70 (.le (.t rfl) (aE 1 (λn:Int=>[fP n])))) rfl ?_;refine Z3 ?_;refine Cd (λc0=>?_) λc0=>?_
 · simp at c0
 refine Z4 ?_;refine .bL 11 1 FM.out (by kernel_rfl) (k:= ?_);refine Z5 ?_;refine .p (sL rfl Tryz.underlying58 (.t rfl)) ?_;refine Z9 ?_;refine Cd (λc1=>?_) λc1=>?_
 ·
  refine Z8 ?_;refine Post.bh rfl rfl ((a,0,false)) (by unfold qX;rw[if_pos (by omega)]) (λ_ _ _ h=>h) rfl (.cons (.rt rfl) ?_ (.cons (.rt rfl) ?_ .nil))
  · exact aa.refl _
  exact aa.prop (by simp)
 refine Z32 ?_;refine Post.bh rfl rfl (({a with height:=a.height+c},a.height,true)) (by unfold qX;rw[if_neg (by omega)]) (λ_ _ _ h=>h) rfl (.cons (.rt rfl) ?_ (.cons (.rt rfl) ?_ .nil))
 · exact aa.refl _
 exact aa.prop (by simp)
theorem oO{X:oB}{a:ep}{n:Nat}(ak:dz X a):bu Wo 81 [ax X.ab 0,fP (n:Int)] (iR X a) (γ:=ep×Nat×Nat) (λg=>g=yK X.size a n) (λg=>iR X g.1) (λg=>aZ [fP (g.2.1:Int),fP (g.2.2:Int)]):=by
 refine In 53 Tryz.func81 λ_ _ _=>?_;have u5:=ak.hi;have hk2:=ak.most;have DL:=ak.len;have v5:=ak.live;have hk5:=o9 n
 refine dh ?_;refine .p (dy FU.out (.t rfl)) rfl ?_;refine Z3 ?_;refine CT λc0=>?_;refine dh ?_;refine Cd (λc1=>?_) λc1=>?_
 ·
  refine Z9 ?_;refine Post.bh rfl rfl ((a,0,1)) (by unfold yK;rw[if_pos (by omega)]) (λ_ _ _ h=>h) rfl (.cons (.rt rfl) ?_ (.cons (.rt rfl) ?_ .nil))
  · exact .z
  exact .z
 have hk6:¬4194304<n:=by omega
 refine Z6 ?_;refine .p (cA (h:=HJ)) rfl ?_;refine Z7 ?_;refine .n (cE (h:=HK (by assumption) (by first|assumption|exact o9 _))) rfl λQC Nm=>?_;refine ij ?_;refine Cd (λc2=>?_) λc2=>?_
 ·
  obtain⟨e24,YH⟩:=Oe (by rw[<-Nm];exact c2);rw[e24] at Nm;subst Nm;dsimp only
  refine Z8 ?_;refine Post.bh rfl rfl ((a,0,8)) (by unfold yK;rw[if_neg hk6,if_pos YH]) (λ_ _ _ h=>h) rfl (.cons (.rt rfl) ?_ (.cons (.rt rfl) ?_ .nil))
  · exact .z
  exact .z
 obtain⟨e24,YH⟩:=J4 (by rw[<-Nm];exact Classical.not_not.1 c2);rw[e24] at Nm;subst Nm;dsimp only
 refine eB ?_;refine .p ((Am (l:=a.height) (h:=a.height+aJ n) FU.out FC.out (.t rfl) (.t rfl) (.t rfl) rfl rfl (by omega) (by omega)).le (aa.of_eq (show sK _ _ _=sK X.db a.height (aJ n) by rw[Nat.zero_add,Nat.add_sub_cancel_left]))) rfl ?_;refine .s (JS (i:=1) rfl Tryz.underlying58 FC.out FZ.out (.t rfl) rfl (by dsimp only;omega)) ?_;refine cC ?_;refine .s (Al (i:=2) _ Tryz.Dj Tryz.underlying143 (.t rfl) (.t rfl) (.t rfl) rfl) ?_;refine Z9 ?_;refine .p (ez (.t rfl) (.t rfl) (cM (by dsimp only;omega) (by dsimp only;omega))) rfl ?_;refine kL ?_;refine Post.bh rfl rfl (({bytes:=a.bytes.take a.height++List.replicate (aJ n) 0++a.bytes.drop (a.height+aJ n),height:=a.height+aJ n,live:=a.live+aJ n,taken:=ki a.taken (a.height:Int) (aJ n:Int)},a.height,0)) (by unfold yK;rw[if_neg hk6,if_neg YH]) (λ_ _ _ h=>h) rfl (.cons (.rt rfl) ?_ (.cons (.rt rfl) ?_ .nil))
 · exact .z
 exact .z
end Go.Proofs.YtppekopemdoclaaGreatDoor
end
section
namespace Go.Proofs.YtppekopemdoclaaGreatDoor
open Go.Hl
def zS(p:List UInt8×Int):List VP:=[dV p.1,pV Tryz.prog (λ_:Unit=>True) (λ_=>[]) (λ_=>af .i64 p.2)]
instance:gX 2 zS:=⟨λ_=>rfl,λx q h=>by simp only[zS,List.mem_cons,List.not_mem_nil,or_false] at h;rcases h with h|h<;>rw[h]<;>infer_instance⟩
instance (x:List UInt8×Int):bD (zS x):=bD.of x
noncomputable def nE(m:aT):List (List UInt8×Int):=[([115,105,103,115],Dn m),([105,109,112,111,114,116,115],qp m),([102,117,110,99,115],lO m),([116,97,98,108,101],nx m),([109,101,109,115],Dp m),([103,108,111,98,97,108,115],qq m),([101,120,112,111,114,116,115],oF m),([115,116,97,114,116],ko m),([101,108,101,109,115],xV m),([100,97,116,97],xW m)]
noncomputable def vE(m:aT):List UInt8×Int:=((nE m).find? λp=>p.2 !=0).getD ([],0)
variable {m:aT}
theorem SG{k:Nat}{p:List UInt8×Int}(h:dJ (λp:List UInt8×Int=>p.2≠0) (nE m) k)(hp:(nE m)[k]?=some p)(hn:p.2≠0):vE m=p:=by
 unfold vE
 have key:∀(l:List (List UInt8×Int)) (k:Nat),dJ (λp:List UInt8×Int=>p.2≠0) l k->l[k]?=some p->l.find? (λp=>p.2 !=0)=some p:=by
  intro l
  induction l with
  |nil=>intro k _ h;simp at h
  | cons x l ih=>
   intro k h hk;cases k with
   |zero=>simp at hk;subst hk;simp[hn]
   |succ k=>
    have h0:=h 0 x (by omega) rfl;simp only[ne_eq,Classical.not_not] at h0;rw[List.find?_cons_of_neg (by simp[h0])];exact ih k (λj y hj hy=>h (j+1) y (by omega) (by simpa using hy)) (by simpa using hk)
 rw[key _ k h hp];rfl
theorem Bn(h:∀p∈nE m,¬p.2≠0):vE m=([],0):=by
 unfold vE;rw[List.find?_eq_none.2 (λp hp=>by have:=h p hp;simpa using this)];rfl
theorem SH:(vE m).2=0↔∀p∈nE m,p.2=0:=by
 constructor
 · intro h p hp
   unfold vE at h;cases hf:(nE m).find? (λp=>p.2 !=0) with
   |none=>have:=List.find?_eq_none.1 hf p hp;simpa using this
   |some x=>rw[hf] at h;have:=List.find?_some hf;simp at this h;exact absurd h this
 · intro h;rw[Bn (λp hp=>by simpa using h p hp)]
theorem yj:(nE m).length=10:=rfl
end Go.Proofs.YtppekopemdoclaaGreatDoor
end
section
namespace Go.Proofs.YtppekopemdoclaaGreatDoor
open Go.Hl Go.RowKit
theorem oP{n m:Int}:dF Wo 56 [af .i64 n,af .i64 m] (av (kE n m)):=by
 refine In 12 Tryz.func56 λ_ _ _=>?_;refine zE ?_;refine br ?_;exact .z
theorem m7{n m:Int}:dF Wo 37 [af .i64 n,af .i64 m] (av (kE n m)):=by
 refine In 12 Tryz.func37 λ_ _ _=>?_;refine zE ?_;refine br ?_;exact .z
theorem jo{p:Prop}{e:Int}:dF Wo 306 [av p,af .i64 e] (af .i64 (lp p e)):=by
 refine In 7 Tryz.func306 λ_ _ _=>?_;refine dh ?_;refine Cd (λc0=>?_) λc0=>?_
 ·
  refine Z8 ?_;refine br ?_;exact aa.int (by simp[lp, *])
 refine Z8 ?_;refine br ?_;exact aa.int (by simp[lp, *])
theorem qH{t:UInt8}:dF Wo 66 [af .u8 (t.toNat:Int)] (af .i64 (fG t)):=by
 refine In 8 Tryz.func66 λ_ _ _=>?_;refine zE ?_;refine Cd (λc0=>?_) λc0=>?_
 ·
  refine Z8 ?_;refine br ?_;exact aa.int (by simp[fG, *])
 refine Z6 ?_;refine Cd (λc1=>?_) λc1=>?_
 ·
  refine Z8 ?_;refine br ?_;exact aa.int (by simp[fG, *])
 refine Z9 ?_;refine br ?_;exact aa.int (by simp[fG, *])
theorem O0{t:UInt8}:dF Wo 415 [af .u8 (t.toNat:Int)] (av (fG t=0)):=by
 refine In 6 Tryz.func415 λ_ _ _=>?_;refine Z8 ?_;refine .p (cA (h:=qH)) rfl ?_;refine Z5 ?_;refine br ?_;exact .z
variable {l:List UInt8}
theorem ER{p:UInt8->Prop}:dF Wo 392 [ai 1 an l,pV Wo (λ_:UInt8=>True) (λx=>[af .u8 (x.toNat:Int)]) (λx=>av (p x))] (af .i64 (sr p l)):=by
 refine In 19 Tryz.func392 λ_ _ _=>?_;refine .fact (t:=0) rfl (λS w v h=>cw h) λhlen=>?_;refine ij ?_;refine .bk (σ:=Nat) (λ_=>[]) (λk=>[(8,af .i64 (k:Int))]) (λk=>k<=l.length/\dJ p l k) (λk=>l.length-k) 0 ⟨by omega,dJ.zero p l⟩ rfl ?_ ?_
 · exact(.get rfl (aa.refl _) (.refl _ _))
 rintro k ⟨hk,hnot⟩;refine Z6 ?_;refine Cd (λc0=>?_) λc0=>?_
 ·
  obtain⟨x,hx⟩:=ah (xs:=l) (k:=k) (by omega);refine oA ?_;refine .p (cI _) rfl ?_;refine Z1 ?_;refine .p (cV x) rfl ?_;refine Z2 ?_;refine Cd (λc1=>?_) λc1=>?_
  ·
   refine eB ?_;refine br ?_;exact aa.int (ud hx (by assumption) hnot).symm
  refine Z7 ?_;refine .round (k+1) ⟨by omega,hnot.succ hx (by assumption)⟩ (by omega) rfl ?_;exact(.get rfl (aa.int (by omega)) (.keep 12 rfl rfl))
 refine dh ?_;refine br ?_;exact aa.int (qn (hnot.all (by omega))).symm
theorem xj{p:UInt8->Prop}:dF Wo 341 [ai 1 an l,pV Wo (λ_:UInt8=>True) (λx=>[af .u8 (x.toNat:Int)]) (λx=>av (p x))] (av (∃x∈l,p x)):=by
 refine In 9 Tryz.func341 λ_ _ _=>?_;refine Z9 ?_;refine .p (cA (h:=ER)) rfl ?_;refine Z5 ?_;refine br ?_;exact aa.prop jI
theorem HL{l:List Int}{p:Int->Prop}:dF Wo 367 [ai 1 sQ l,pV Wo (λ_:Int=>True) (λx=>[af .i64 x]) (λx=>av (p x))] (af .i64 (sr p l)):=by
 refine In 19 Tryz.func367 λ_ _ _=>?_;refine .fact (t:=0) rfl (λS w v h=>cw h) λhlen=>?_;refine ij ?_;refine .bk (σ:=Nat) (λ_=>[]) (λk=>[(8,af .i64 (k:Int))]) (λk=>k<=l.length/\dJ p l k) (λk=>l.length-k) 0 ⟨by omega,dJ.zero p l⟩ rfl ?_ ?_
 · exact(.get rfl (aa.refl _) (.refl _ _))
 rintro k ⟨hk,hnot⟩;refine Z6 ?_;refine Cd (λc0=>?_) λc0=>?_
 ·
  obtain⟨x,hx⟩:=ah (xs:=l) (k:=k) (by omega);refine oA ?_;refine .p (cI _) rfl ?_;refine Z1 ?_;refine .p (cV x) rfl ?_;refine Z2 ?_;refine Cd (λc1=>?_) λc1=>?_
  ·
   refine eB ?_;refine br ?_;exact aa.int (ud hx (by assumption) hnot).symm
  refine Z7 ?_;refine .round (k+1) ⟨by omega,hnot.succ hx (by assumption)⟩ (by omega) rfl ?_;exact(.get rfl (aa.int (by omega)) (.keep 12 rfl rfl))
 refine dh ?_;refine br ?_;exact aa.int (qn (hnot.all (by omega))).symm
theorem HM{l:List Int}{p:Int->Prop}:dF Wo 320 [ai 1 sQ l,pV Wo (λ_:Int=>True) (λx=>[af .i64 x]) (λx=>av (p x))] (av (∃x∈l,p x)):=by
 refine In 9 Tryz.func320 λ_ _ _=>?_;refine Z9 ?_;refine .p (cA (h:=HL)) rfl ?_;refine Z5 ?_;refine br ?_;exact aa.prop jI
theorem Bo{l:List eW}{p:eW->Prop}:dF Wo 366 [ai 3 fz l,pV Wo (λ_:eW=>True) (λx=>[aC (fz x)]) (λx=>av (p x))] (af .i64 (sr p l)):=by
 refine In 19 Tryz.func366 λ_ _ _=>?_;refine .fact (t:=0) rfl (λS w v h=>cw h) λhlen=>?_;refine ij ?_;refine .bk (σ:=Nat) (λ_=>[]) (λk=>[(8,af .i64 (k:Int))]) (λk=>k<=l.length/\dJ p l k) (λk=>l.length-k) 0 ⟨by omega,dJ.zero p l⟩ rfl ?_ ?_
 · exact(.get rfl (aa.refl _) (.refl _ _))
 rintro k ⟨hk,hnot⟩;refine Z6 ?_;refine Cd (λc0=>?_) λc0=>?_
 ·
  obtain⟨x,hx⟩:=ah (xs:=l) (k:=k) (by omega);refine oA ?_;refine .p (cI _) rfl ?_;refine Z1 ?_;refine .p (cV x) rfl ?_;refine Z2 ?_;refine Cd (λc1=>?_) λc1=>?_
  ·
   refine eB ?_;refine br ?_;exact aa.int (ud hx (by assumption) hnot).symm
  refine Z7 ?_;refine .round (k+1) ⟨by omega,hnot.succ hx (by assumption)⟩ (by omega) rfl ?_;exact(.get rfl (aa.int (by omega)) (.keep 12 rfl rfl))
 refine dh ?_;refine br ?_;exact aa.int (qn (hnot.all (by omega))).symm
theorem Bp{l:List eW}{p:eW->Prop}:dF Wo 317 [ai 3 fz l,pV Wo (λ_:eW=>True) (λx=>[aC (fz x)]) (λx=>av (p x))] (av (∃x∈l,p x)):=by
 refine In 9 Tryz.func317 λ_ _ _=>?_;refine Z9 ?_;refine .p (cA (h:=Bo)) rfl ?_;refine Z5 ?_;refine br ?_;exact aa.prop jI
theorem HN:dF Wo 365 [ai 1 an l] (av (jJ l)):=by
 refine In 11 Tryz.func365 λ_ _ _=>?_;refine eB ?_;refine .g (de.gT rfl rfl rfl rfl (λhg=>cg (xj) FB.out (.cons (.when (.t rfl) hg) (.cons (.le (.f _) (tU FB.out (λ(b:UInt8) (_:True)=>O0 (t:=b)))) .nil)))) rfl rfl ?_;refine Z6 ?_;refine br ?_;exact aa.prop Oi
theorem KJ{s:mj}:dF Wo 307 [aC (bW s)] (av (Em s)):=by
 refine In 11 Tryz.func307 λ_ _ _=>?_;refine cC ?_;refine .p (cA (h:=HN)) rfl ?_;refine Z3 ?_;refine .g (de.gT rfl rfl rfl rfl (λhg=>cg (HN) FB.out (.cons (.when (.t rfl) hg) .nil))) rfl rfl ?_;refine Z5 ?_;refine br ?_;exact .z
theorem HO{l:gG}{most:Int}:dF Wo 313 [aC (iA l),af .i64 most] (av (El l most)):=by
 refine In 32 Tryz.func313 λ_ _ _=>?_;refine Z39 ?_;refine br ?_;exact aa.prop (by unfold El;constructor<;>(intro h;omega))
theorem vF:dF Wo 309 [dV l] (av (jK l)):=by
 refine In 27 Tryz.func309 λ_ _ _=>?_;refine .fact (t:=0) rfl (λS w v h=>je h) λhlen=>?_;refine ij ?_;refine .bk (σ:=Nat) (λ_=>[]) (λk=>[(6,af .i64 (k:Int))]) (λk=>k<=l.length/\dJ (λb:UInt8=>(b.toNat:Int)<33\/126<(b.toNat:Int)) l k) (λk=>l.length-k) 0 ⟨by omega,dJ.zero _ l⟩ rfl ?_ ?_
 · exact(.get rfl (aa.refl _) (.refl _ _))
 rintro k ⟨hk,hnot⟩;refine Z6 ?_;refine Cd (λc0=>?_) λc0=>?_
 ·
  obtain⟨x,hx⟩:=ah (xs:=l) (k:=k) (by omega);refine ij ?_;refine .p (qk FU.out (.t rfl) (.t rfl) rfl (by assumption)) rfl ?_;refine Z4 ?_;refine .g (de.gF rfl rfl rfl rfl (λhg=>qk FU.out (.when (.t rfl) hg) (.when (.t rfl) hg) rfl (by assumption))) rfl rfl ?_;refine Z4 ?_;refine Cd (λc1=>?_) λc1=>?_
  ·
   refine dh ?_;refine br ?_;exact aa.prop (Dq hx (by assumption)).symm
  refine Z7 ?_;refine .round (k+1) ⟨by omega,hnot.succ hx (by assumption)⟩ (by omega) rfl ?_;exact(.get rfl (aa.int (by omega)) (.keep 16 rfl rfl))
 refine Z8 ?_;refine .p (QX (.t rfl) (.s [] rfl rfl)) rfl ?_;refine Z9 ?_;refine br ?_;exact aa.prop (Dr (hnot.all (by omega)))
theorem tw:dF Wo 36 [dV l] (av (jK l)):=by
 refine In 28 Tryz.func36 λ_ _ _=>?_;refine .fact (t:=0) rfl (λS w v h=>je h) λhlen=>?_;refine eB ?_;refine .bk (σ:=Nat) (λ_=>[]) (λk=>[(3,af .i64 (k:Int))]) (λk=>k<=l.length/\dJ (λb:UInt8=>(b.toNat:Int)<33\/126<(b.toNat:Int)) l k) (λk=>l.length-k) 0 ⟨by omega,dJ.zero _ l⟩ rfl ?_ ?_
 · exact(.get rfl (aa.refl _) (.refl _ _))
 rintro k ⟨hk,hnot⟩;refine Z9 ?_;refine Cd (λc0=>?_) λc0=>?_
 ·
  obtain⟨x,hx⟩:=ah (xs:=l) (k:=k) (by omega);refine Z8 ?_;refine .p (qk FU.out (.t rfl) (.t rfl) rfl (by assumption)) rfl ?_;refine Z4 ?_;refine .g (de.gF rfl rfl rfl rfl (λhg=>qk FU.out (.when (.t rfl) hg) (.when (.t rfl) hg) rfl (by assumption))) rfl rfl ?_;refine Z4 ?_;refine Cd (λc1=>?_) λc1=>?_
  ·
   refine dh ?_;refine br ?_;exact aa.prop (Dq hx (by assumption)).symm
  refine Z8 ?_;refine .round (k+1) ⟨by omega,hnot.succ hx (by assumption)⟩ (by omega) rfl ?_;exact(.get rfl (aa.int (by omega)) (.keep 18 rfl rfl))
 refine Cn ?_;refine br ?_;exact aa.prop (J8 (hnot.all (by omega)))
theorem Bq:dF Wo 35 [ai 1 an l] (av (jJ l)):=by
 refine In 25 Tryz.func35 λ_ _ _=>?_;refine .fact (t:=0) rfl (λS w v h=>cw h) λhlen=>?_;refine eB ?_;refine .bk (σ:=Nat) (λ_=>[]) (λk=>[(3,af .i64 (k:Int))]) (λk=>k<=l.length/\dJ (λb:UInt8=>(b.toNat:Int)≠126/\(b.toNat:Int)≠127) l k) (λk=>l.length-k) 0 ⟨by omega,dJ.zero _ l⟩ rfl ?_ ?_
 · exact(.get rfl (aa.refl _) (.refl _ _))
 rintro k ⟨hk,hnot⟩;refine Z9 ?_;refine Cd (λc0=>?_) λc0=>?_
 ·
  obtain⟨x,hx⟩:=ah (xs:=l) (k:=k) (by omega);refine Z8 ?_;refine .p (cI _) rfl ?_;refine Z5 ?_;refine .g (de.gT rfl rfl rfl rfl (λhg=>aW FU.out FC.out rfl (.when (.t rfl) hg) (.when (.t rfl) hg) rfl (by assumption))) rfl rfl ?_;refine Z5 ?_;refine Cd (λc1=>?_) λc1=>?_
  ·
   refine dh ?_;refine br ?_;exact aa.prop (Ok hx (by assumption)).symm
  refine Z8 ?_;refine .round (k+1) ⟨by omega,hnot.succ hx (by assumption)⟩ (by omega) rfl ?_;exact(.get rfl (aa.int (by omega)) (.keep 20 rfl rfl))
 refine ij ?_;refine br ?_;exact aa.prop (J9 (hnot.all (by omega)))
theorem Br{n:Nat}{g:Nat->Int}(ak:n<=281474976710656):dF Wo 310 [af .i64 (n:Int),pV Wo (λi:Nat=>i<n) (λi=>[af .i64 (i:Int)]) (λi=>af .i64 (g i))] (af .i64 (iS g n)):=by
 refine In 18 Tryz.func310 λ_ _ _=>?_;refine kL ?_;refine .bk (σ:=Nat) (λ_=>[]) (λk=>[(8,af .i64 (k:Int))]) (λk=>k<=n/\iS g k=0) (λk=>n-k) 0 ⟨by omega,rfl⟩ rfl ?_ ?_
 · exact(.get rfl (aa.refl _) (.refl _ _))
 rintro k ⟨hk,hg⟩;refine Z6 ?_;refine Cd (λc0=>?_) λc0=>?_
 ·
  refine ij ?_;refine .p (cV k (h:=by show k<n;omega)) rfl ?_;refine Z9 ?_;refine Cd (λc1=>?_) λc1=>?_
  ·
   refine eB ?_;refine br ?_;exact aa.int (Og hg c1 (by omega)).symm
  refine Z7 ?_;refine .round (k+1) ⟨by omega,by simp only[iS,hg];simpa using c1⟩ (by omega) rfl ?_;exact(.get rfl (aa.int (by omega)) (.keep 12 rfl rfl))
 refine dh ?_;refine br ?_;exact aa.int (by rw[show n=k by omega];exact hg.symm)
theorem mF{n:Nat}{most:Int}{g:Nat->Int}(ak:n<=281474976710656):dF Wo 304 [af .i64 (n:Int),af .i64 most,pV Wo (λi:Nat=>i<n) (λi=>[af .i64 (i:Int)]) (λi=>af .i64 (g i))] (af .i64 (pn n most g)):=by
 refine In 13 Tryz.func304 λ_ _ _=>?_;refine kL ?_;refine Cd (λc0=>?_) λc0=>?_
 ·
  refine Z7 ?_;refine br ?_;exact aa.int (by simp[pn, *])
 refine Z6 ?_;refine .p (cA (h:=Br (by first|assumption|omega))) rfl ?_;refine Z4 ?_;refine br ?_;exact aa.int (by simp[pn, *])
variable {m:aT}
theorem rJ:dF Wo 92 [ck (bp m)] (af .i64 (dc m)):=by
 refine In 16 Tryz.func92 λ_ _ _=>?_;refine .fact (t:=0) rfl (λS w v h=>jv h) λhl=>?_;have kR:=hl.sigs;have lD:=hl.imports;have m8:=hl.funcs;have m9:=hl.eE;have nc:=hl.globals;have nk:=hl.bg;have nq:=hl.elems;have oQ:=hl.cu
 refine eB ?_;refine CT λc0=>?_;refine Z3 ?_;refine .bL 10 2 FM.out (by kernel_rfl) (k:= ?_);refine Cm ?_;refine br ?_;exact .z
variable {i:Nat}
theorem KK(ak:i<m.bQ.length):dF Wo 305 [af .i64 (i:Int),ck [ck (bp m)]] (af .i64 (pg m.bQ J7 i)):=by
 refine In 14 Tryz.func305 λ_ _ _=>?_;refine .fact (t:=1) rfl (λS w v h=>mW h) λhl=>?_;have kR:=hl.sigs;have lD:=hl.imports;have m8:=hl.funcs;have m9:=hl.eE;have nc:=hl.globals;have nk:=hl.bg;have nq:=hl.elems;have oQ:=hl.cu
 obtain⟨x,hx⟩:=ah ak;refine eB ?_;refine .p (cI _) rfl ?_;refine Z1 ?_;refine .p (cA (h:=KJ)) rfl ?_;refine Z1 ?_;refine .p (cA (h:=jo)) rfl ?_;refine Z4 ?_;refine br ?_;exact aa.int (by rw[lN hx];rfl)
theorem Cz(ak:i<m.ay.length):dF Wo 308 [af .i64 (i:Int),ck [ck (bp m)]] (af .i64 (pg m.ay (iq m) i)):=by
 refine In 32 Tryz.func308 λ_ _ _=>?_;refine .fact (t:=1) rfl (λS w v h=>mW h) λhl=>?_;have kR:=hl.sigs;have lD:=hl.imports;have m8:=hl.funcs;have m9:=hl.eE;have nc:=hl.globals;have nk:=hl.bg;have nq:=hl.elems;have oQ:=hl.cu
 obtain⟨x,hx⟩:=ah ak;refine eB ?_;refine .p (cI _) rfl ?_;refine Z1 ?_;refine .n (au FZ.out) rfl λb4 _=>?_;refine Z3 ?_;refine .share (t:=4) (i:=0) rfl rfl ?_;refine Z5 ?_;refine .p (cA (h:=vF)) rfl ?_;refine Z4 ?_;refine .g (de.gF rfl rfl rfl rfl (λhg=>cg (vF) FB.out (.cons (.when (.t rfl) hg) .nil))) rfl rfl ?_;refine Z4 ?_;refine Cd (λc0=>?_) λc0=>?_
 ·
  refine Z7 ?_;refine br ?_;exact aa.int (by rw[lN hx];simp only[iq];first|rw[if_pos (by assumption)]|rw[if_neg (by assumption)])
 refine Z3 ?_;refine .bL 7 4 FM.out (by kernel_rfl) (k:= ?_);refine Z8 ?_;refine .p (cA (h:=oP)) rfl ?_;refine Z1 ?_;refine .p (cA (h:=jo)) rfl ?_;refine Z4 ?_;refine br ?_;exact aa.int (by rw[lN hx];simp only[iq];first|rw[if_pos (by assumption)]|rw[if_neg (by assumption)])
theorem HQ(ak:i<m.aq.length):dF Wo 311 [af .i64 (i:Int),ck [ck (bp m)]] (af .i64 (pg m.aq (sR m) i)):=by
 refine In 20 Tryz.func311 λ_ _ _=>?_;refine .fact (t:=1) rfl (λS w v h=>mW h) λhl=>?_;have kR:=hl.sigs;have lD:=hl.imports;have m8:=hl.funcs;have m9:=hl.eE;have nc:=hl.globals;have nk:=hl.bg;have nq:=hl.elems;have oQ:=hl.cu
 obtain⟨x,hx⟩:=ah ak;refine Z6 ?_;refine .bL 13 4 FM.out (by kernel_rfl) (k:= ?_);refine Z5 ?_;refine .p (cI _) ?_;refine Z8 ?_;refine .p (cA (h:=oP)) rfl ?_;refine Z1 ?_;refine .p (cA (h:=jo)) rfl ?_;refine Z4 ?_;refine br ?_;exact aa.int (by rw[lN hx];rfl)
theorem KL(ak:i<m.cP.length):dF Wo 312 [af .i64 (i:Int),ck [ck (bp m)]] (af .i64 (pg m.cP Rw i)):=by
 refine In 14 Tryz.func312 λ_ _ _=>?_;refine .fact (t:=1) rfl (λS w v h=>mW h) λhl=>?_;have kR:=hl.sigs;have lD:=hl.imports;have m8:=hl.funcs;have m9:=hl.eE;have nc:=hl.globals;have nk:=hl.bg;have nq:=hl.elems;have oQ:=hl.cu
 obtain⟨x,hx⟩:=ah ak;refine eB ?_;refine .p (cI _) rfl ?_;refine Z1 ?_;refine .p (cA (h:=HO)) rfl ?_;refine Z1 ?_;refine .p (cA (h:=jo)) rfl ?_;refine Z4 ?_;refine br ?_;exact aa.int (by rw[lN hx];rfl)
theorem CA(ak:i<m.aA.length):dF Wo 314 [af .i64 (i:Int),ck [ck (bp m)]] (af .i64 (pg m.aA wG i)):=by
 refine In 27 Tryz.func314 λ_ _ _=>?_;refine .fact (t:=1) rfl (λS w v h=>mW h) λhl=>?_;have kR:=hl.sigs;have lD:=hl.imports;have m8:=hl.funcs;have m9:=hl.eE;have nc:=hl.globals;have nk:=hl.bg;have nq:=hl.elems;have oQ:=hl.cu
 obtain⟨x,hx⟩:=ah ak;refine eB ?_;refine .p (cI _) rfl ?_;refine Z1 ?_;refine .n (au FZ.out) rfl λb4 _=>?_;refine Z3 ?_;refine .share (t:=4) (i:=0) rfl rfl ?_;refine Z4 ?_;refine .p (cA (h:=qH)) rfl ?_;refine dh ?_;refine .p (cA (h:=jo)) rfl ?_;refine Z4 ?_;refine br ?_;exact aa.int (by rw[lN hx];rfl)
theorem O1:dF Wo 243 [ck (bp m)] (af .i64 (Dn m)):=by
 refine In 10 Tryz.func243 λ_ _ _=>?_;refine .fact (t:=0) rfl (λS w v h=>jv h) λhl=>?_;have kR:=hl.sigs;have lD:=hl.imports;have m8:=hl.funcs;have m9:=hl.eE;have nc:=hl.globals;have nk:=hl.bg;have nq:=hl.elems;have oQ:=hl.cu
 refine kL ?_;refine .p (cU (A:=Nat) (ok:=λi=>i<m.bQ.length) (arg:=λi=>[af .i64 (i:Int)]) (res:=λi=>af .i64 (pg m.bQ J7 i)) FB.out .nil (.cons (.t rfl) .nil) (λi hi=>KK hi)) rfl ?_;refine .p (cA (h:=mF (by first|assumption|omega))) rfl ?_;refine Z4 ?_;refine br ?_;exact aa.refl _
theorem ES:dF Wo 244 [ck (bp m)] (af .i64 (qp m)):=by
 refine In 10 Tryz.func244 λ_ _ _=>?_;refine .fact (t:=0) rfl (λS w v h=>jv h) λhl=>?_;have kR:=hl.sigs;have lD:=hl.imports;have m8:=hl.funcs;have m9:=hl.eE;have nc:=hl.globals;have nk:=hl.bg;have nq:=hl.elems;have oQ:=hl.cu
 refine kL ?_;refine .p (cU (A:=Nat) (ok:=λi=>i<m.ay.length) (arg:=λi=>[af .i64 (i:Int)]) (res:=λi=>af .i64 (pg m.ay (iq m) i)) FB.out .nil (.cons (.t rfl) .nil) (λi hi=>Cz hi)) rfl ?_;refine .p (cA (h:=mF (by first|assumption|omega))) rfl ?_;refine Z4 ?_;refine br ?_;exact aa.refl _
theorem O2:dF Wo 247 [ck (bp m)] (af .i64 (Dp m)):=by
 refine In 10 Tryz.func247 λ_ _ _=>?_;refine .fact (t:=0) rfl (λS w v h=>jv h) λhl=>?_;have kR:=hl.sigs;have lD:=hl.imports;have m8:=hl.funcs;have m9:=hl.eE;have nc:=hl.globals;have nk:=hl.bg;have nq:=hl.elems;have oQ:=hl.cu
 refine kL ?_;refine .p (cU (A:=Nat) (ok:=λi=>i<m.cP.length) (arg:=λi=>[af .i64 (i:Int)]) (res:=λi=>af .i64 (pg m.cP Rw i)) FB.out .nil (.cons (.t rfl) .nil) (λi hi=>KL hi)) rfl ?_;refine .p (cA (h:=mF (by first|assumption|omega))) rfl ?_;refine Z4 ?_;refine br ?_;exact aa.refl _
theorem ET:dF Wo 248 [ck (bp m)] (af .i64 (qq m)):=by
 refine In 10 Tryz.func248 λ_ _ _=>?_;refine .fact (t:=0) rfl (λS w v h=>jv h) λhl=>?_;have kR:=hl.sigs;have lD:=hl.imports;have m8:=hl.funcs;have m9:=hl.eE;have nc:=hl.globals;have nk:=hl.bg;have nq:=hl.elems;have oQ:=hl.cu
 refine kL ?_;refine .p (cU (A:=Nat) (ok:=λi=>i<m.aA.length) (arg:=λi=>[af .i64 (i:Int)]) (res:=λi=>af .i64 (pg m.aA wG i)) FB.out .nil (.cons (.t rfl) .nil) (λi hi=>CA hi)) rfl ?_;refine .p (cA (h:=mF (by first|assumption|omega))) rfl ?_;refine Z4 ?_;refine br ?_;exact aa.refl _
theorem KM:dF Wo 245 [ck (bp m)] (af .i64 (lO m)):=by
 refine In 13 Tryz.func245 λ_ _ _=>?_;refine .fact (t:=0) rfl (λS w v h=>jv h) λhl=>?_;have kR:=hl.sigs;have lD:=hl.imports;have m8:=hl.funcs;have m9:=hl.eE;have nc:=hl.globals;have nk:=hl.bg;have nq:=hl.elems;have oQ:=hl.cu
 refine cC ?_;refine .p (cA (h:=rJ)) rfl ?_;refine Z3 ?_;refine Cd (λc0=>?_) λc0=>?_
 ·
  refine Z7 ?_;refine br ?_;exact aa.int (by simp[lO, *])
 refine Z9 ?_;refine .p (cU (A:=Nat) (ok:=λi=>i<m.aq.length) (arg:=λi=>[af .i64 (i:Int)]) (res:=λi=>af .i64 (pg m.aq (sR m) i)) FB.out .nil (.cons (.t rfl) .nil) (λi hi=>HQ hi)) rfl ?_;refine .p (cA (h:=Br (by first|assumption|omega))) rfl ?_;refine Z4 ?_;refine br ?_;exact aa.int (by simp[lO, *])
theorem KN:dF Wo 246 [ck (bp m)] (af .i64 (nx m)):=by
 refine In 14 Tryz.func246 λ_ _ _=>?_;refine oA ?_;refine Cd (λc0=>?_) λc0=>?_
 ·
  refine Z7 ?_;refine br ?_;exact aa.int (by simp[nx, *])
 refine Z9 ?_;refine .p (cA (h:=jo)) rfl ?_;refine Z4 ?_;refine br ?_;exact aa.int (by simp[nx, *])
variable {f:Int}
theorem HR:dF Wo 55 [ck (bp m),af .i64 f] (aZ [af .i64 ((gH m f).getD 0),av (gH m f).isSome]):=by
 refine In 43 Tryz.func55 λ_ _ _=>?_;refine .fact (t:=0) rfl (λS w v h=>jv h) λhl=>?_;have kR:=hl.sigs;have lD:=hl.imports;have m8:=hl.funcs;have m9:=hl.eE;have nc:=hl.globals;have nk:=hl.bg;have nq:=hl.elems;have oQ:=hl.cu
 refine Z24 ?_;refine .g (de.gF rfl rfl rfl rfl (λhg=>cg (rJ) FB.out (.cons (.when (.t rfl) hg) .nil))) rfl rfl ?_;refine Z5 ?_;refine Cd (λc0=>?_) λc0=>?_
 ·
  refine Z8 ?_;refine eA ?_ ?_
  · exact aa.int (by simp[gH, *])
  exact aa.prop (by simp[gH, *])
 refine Z8 ?_;refine Cd (λc1=>?_) λc1=>?_
 ·
  refine Z1 ?_;obtain⟨j,rfl⟩:∃j:Nat,f=(j:Int):=⟨f.toNat,by omega⟩;obtain⟨x,hx⟩:=ah (xs:=m.ay) (k:=j) (by omega);refine Z6 ?_;refine .p (cI _) rfl ?_;refine Z8 ?_;refine eA ?_ ?_
  · exact aa.int (by rw[sS (by omega) hx];rfl)
  exact aa.prop (by rw[sS (by omega) hx];simp)
 refine Z1 ?_;obtain⟨j,rfl⟩:∃j:Nat,f=(m.ay.length:Int)+(j:Int):=⟨(f-m.ay.length).toNat,by omega⟩;have hcm:dc m=(m.ay.length:Int)+(m.aq.length:Int):=rfl;obtain⟨x,hx⟩:=ah (xs:=m.aq) (k:=j) (by omega);refine Z8 ?_;refine .p (cI j) rfl ?_;refine Z8 ?_;refine eA ?_ ?_
 · exact aa.int (by rw[wI hx];rfl)
 exact aa.prop (by rw[wI hx];simp)
theorem gM:dF Wo 24 [ck (bp m),af .i64 f] (aZ [aC (bW ((eY m f).getD ⟨[],[]⟩)),av (eY m f).isSome]):=by
 refine In 37 Tryz.func24 λ_ _ _=>?_;refine .fact (t:=0) rfl (λS w v h=>jv h) λhl=>?_;have kR:=hl.sigs;have lD:=hl.imports;have m8:=hl.funcs;have m9:=hl.eE;have nc:=hl.globals;have nk:=hl.bg;have nq:=hl.elems;have oQ:=hl.cu
 refine Z2 ?_;refine .n (au FZ.out) rfl λb4 _=>?_;refine cC ?_;refine CT λc0=>?_;refine Z6 ?_;refine .p (cA (h:=HR)) rfl ?_;refine Cn ?_;refine .g (de.gF rfl rfl rfl rfl (λhg=>cg (oP) FB.out (.cons (.when (.t rfl) hg) (.cons (.when (.t rfl) hg) .nil)))) rfl rfl ?_;refine Z4 ?_;refine Cd (λc1=>?_) λc1=>?_
 ·
  refine Z9 ?_;refine Post.bh rfl rfl () trivial (λ_ _ _ _=>trivial) rfl (.cons (.ra (i:=0) FA.out FC.out rfl rfl rfl rfl) ?_ (.cons (.rt rfl) ?_ .nil))
  · rw[Ds c1];exact aa.aK3 (aE _ _) (aE _ _)
  exact aa.prop (by rw[Ds c1];simp)
 refine Z3 ?_;obtain⟨n,hn⟩:∃n,gH m f=some n:=Option.isSome_iff_exists.1 (Classical.byContradiction λh=>c1 (.inl h));have hin:kE n m.bQ.length:=Classical.byContradiction λh=>c1 (.inr (by rw[hn];exact h));obtain⟨j,hj⟩:∃j:Nat,n=(j:Int):=⟨n.toNat,by have:=hin.1;omega⟩;obtain⟨x,hx⟩:=ah (xs:=m.bQ) (k:=j) (by have:=hin.2;omega);refine Z6 ?_;refine .p (cI j (h:=by assumption) (hi:=by rw[hn,hj];rfl)) rfl ?_;refine Z6 ?_;refine Post.bh rfl rfl () trivial (λ_ _ _ _=>trivial) rfl (.cons (.ra (i:=0) FA.out FC.out rfl rfl rfl rfl) ?_ (.cons (.rt rfl) ?_ .nil))
 · rw[Dt hn hj hx];exact aa.refl _
 exact aa.prop (by rw[Dt hn hj hx];simp)
theorem KO:dF Wo 250 [ck (bp m)] (af .i64 (ko m)):=by
 refine In 30 Tryz.func250 λ_ _ _=>?_;refine .fact (t:=0) rfl (λS w v h=>jv h) λhl=>?_;have kR:=hl.sigs;have lD:=hl.imports;have m8:=hl.funcs;have m9:=hl.eE;have nc:=hl.globals;have nk:=hl.bg;have nq:=hl.elems;have oQ:=hl.cu
 refine oA ?_;refine Cd (λc0=>?_) λc0=>?_
 ·
  refine Z7 ?_;refine br ?_;exact aa.int (by simp[ko, *])
 refine Z9 ?_;refine .p (cA (h:=gM)) rfl ?_;refine Z3 ?_;refine .n (au FZ.out) rfl λb3 _=>?_;refine Z4 ?_;refine .share (t:=3) (i:=0) rfl rfl ?_;refine .fact (t:=17) rfl (λS w v h=>And.intro (ji h 0 rfl) (ji h 1 rfl)) λqR=>?_;obtain⟨WX,hs4⟩:=qR;refine Z7 ?_;refine Cd (λc1=>?_) λc1=>?_
 ·
  refine Z7 ?_;refine br ?_;exact aa.int (GJ c0 c1).symm
 refine eB ?_;refine .p (cA (h:=jo)) rfl ?_;refine Z4 ?_;refine br ?_;exact aa.int (GK c0 c1).symm
theorem HS:dF Wo 315 [ck (bp m)] (aC [af .i64 (cnt m 0),af .i64 (cnt m 1),af .i64 (cnt m 2),af .i64 (cnt m 3)]):=by
 refine In 22 Tryz.func315 λ_ _ _=>?_;refine .fact (t:=0) rfl (λS w v h=>jv h) λhl=>?_;have kR:=hl.sigs;have lD:=hl.imports;have m8:=hl.funcs;have m9:=hl.eE;have nc:=hl.globals;have nk:=hl.bg;have nq:=hl.elems;have oQ:=hl.cu
 refine Z2 ?_;refine .n (au FZ.out) rfl λb2 _=>?_;refine Z3 ?_;refine .bL 18 2 FM.out (by kernel_rfl) (k:= ?_);refine Z1 ?_;refine .p (cA (h:=rJ)) ?_;refine Z4 ?_;refine .p (QN (.t rfl) (.c _)) ?_;refine .p (C4 (.t rfl) (.c _)) ?_;refine dh ?_;refine .p (fy FR.out FZ.out (.cons (.t rfl) (.cons (.t rfl) (.cons (.t rfl) (.cons (.t rfl) .nil)))) rfl) rfl ?_;refine Z4 ?_;refine Post.aS rfl () trivial (λ_ _ _ _=>trivial) (.ra (i:=0) FA.out FC.out rfl rfl rfl rfl) ?_;exact aa.refl _
theorem Bs{x y:eW}:dF Wo 318 [aC (fz y),ck (fz x)] (av (y.Name=x.Name)):=by
 refine In 9 Tryz.func318 λ_ _ _=>?_;refine Dh ?_;refine br ?_;exact .z
theorem CB(ak:i<m.bV.length):dF Wo 316 [af .i64 (i:Int),ck [ck (bp m)],ck [af .i64 (cnt m 0),af .i64 (cnt m 1),af .i64 (cnt m 2),af .i64 (cnt m 3)]] (af .i64 (kN m i)):=by
 refine In 46 Tryz.func316 λ_ _ _=>?_;refine .fact (t:=1) rfl (λS w v h=>mW h) λhl=>?_;have kR:=hl.sigs;have lD:=hl.imports;have m8:=hl.funcs;have m9:=hl.eE;have nc:=hl.globals;have nk:=hl.bg;have nq:=hl.elems;have oQ:=hl.cu
 obtain⟨x,hx⟩:=ah ak;refine eB ?_;refine .p (cI _) rfl ?_;refine Z1 ?_;refine .n (au FZ.out) rfl λb5 _=>?_;refine Z3 ?_;refine .share (t:=5) (i:=0) rfl rfl ?_;refine Z7 ?_;refine .p (Da FU.out FC.out rfl (.t rfl) (.t rfl) rfl (by omega)) rfl ?_;refine .p (cU (A:=eW) (ok:=λ_=>True) (arg:=λy=>[aC (fz y)]) (res:=λy=>av (y.Name=x.Name)) FB.out .nil (.cons (.t rfl) .nil) (λy _=>Bs)) rfl ?_;refine .p (cA (h:=Bp)) rfl ?_;refine Z8 ?_;refine .p (cA (h:=vF)) rfl ?_;refine Z6 ?_;refine Cd (λc0=>?_) λc0=>?_
 ·
  refine Z7 ?_;refine br ?_;exact aa.int (En hx c0).symm
 refine Z3 ?_;refine .bL 13 5 FM.out (by kernel_rfl) (k:= ?_);refine Z2 ?_;refine .p (cA (h:=oP)) ?_;refine Z6 ?_;refine .cons (de.gF rfl rfl rfl rfl (λhg=>C4 (.when (.t rfl) hg) (.c _))) ?_;refine Z1 ?_;refine .cons (de.gF rfl rfl rfl rfl (λhg=>Ea (oE x.Kind) FU.out FC.out rfl (.t rfl) (.when (.t rfl) hg) (by unfold oE;omega) (by unfold oE;omega))) ?_;refine .cons (de.gF rfl rfl rfl rfl (λhg=>pU FA.out (.le (.when (.t rfl) hg) (UI (X3 m (oE x.Kind) (by unfold oE;omega)))))) ?_;refine Z1 ?_;refine .g (de.gF rfl rfl rfl rfl (λhg=>cg (oP) FB.out (.cons (.when (.t rfl) hg) (.cons (.when (.t rfl) hg) .nil)))) rfl rfl ?_;refine Z2 ?_;refine .p (cA (h:=jo)) rfl ?_;refine Z4 ?_;refine br ?_;exact aa.int (wJ hx c0).symm
theorem EU:dF Wo 249 [ck (bp m)] (af .i64 (oF m)):=by
 refine In 13 Tryz.func249 λ_ _ _=>?_;refine .fact (t:=0) rfl (λS w v h=>jv h) λhl=>?_;have kR:=hl.sigs;have lD:=hl.imports;have m8:=hl.funcs;have m9:=hl.eE;have nc:=hl.globals;have nk:=hl.bg;have nq:=hl.elems;have oQ:=hl.cu
 refine Z9 ?_;refine .p (cA (h:=HS)) rfl ?_;refine .n (au FZ.out) rfl λb3 _=>?_;refine Z3 ?_;refine .share (t:=3) (i:=0) rfl rfl ?_;refine Z7 ?_;refine .p (cU (A:=Nat) (ok:=λi=>i<m.bV.length) (arg:=λi=>[af .i64 (i:Int)]) (res:=λi=>af .i64 (kN m i)) FB.out .nil (.cons (.t rfl) (.cons (.t rfl) .nil)) (λi hi=>CB hi)) rfl ?_;refine .p (cA (h:=mF (by first|assumption|omega))) rfl ?_;refine Z4 ?_;refine br ?_;exact aa.refl _
theorem EV:dF Wo 321 [af .i64 f,ck [ck (bp m)]] (av (¬kE f (dc m))):=by
 refine In 9 Tryz.func321 λ_ _ _=>?_;refine Z9 ?_;refine .p (cA (h:=rJ)) rfl ?_;refine .p (cA (h:=oP)) rfl ?_;refine Z5 ?_;refine br ?_;exact .z
theorem HT(ak:i<m.bN.length):dF Wo 319 [af .i64 (i:Int),ck [ck (bp m)]] (af .i64 (pg m.bN (uN m) i)):=by
 refine In 35 Tryz.func319 λ_ _ _=>?_;refine .fact (t:=1) rfl (λS w v h=>mW h) λhl=>?_;have kR:=hl.sigs;have lD:=hl.imports;have m8:=hl.funcs;have m9:=hl.eE;have nc:=hl.globals;have nk:=hl.bg;have nq:=hl.elems;have oQ:=hl.cu
 obtain⟨x,hx⟩:=ah ak;refine eB ?_;refine .p (cI _) rfl ?_;refine Z1 ?_;refine .n (au FZ.out) rfl λb4 _=>?_;refine Z3 ?_;refine .share (t:=4) (i:=0) rfl rfl ?_;refine Z9 ?_;refine Cd (λc0=>?_) λc0=>?_
 ·
  refine Z7 ?_;refine br ?_;exact aa.int (by rw[lN hx];simp[uN, *])
 refine Z6 ?_;refine .p (cU (A:=Int) (ok:=λ_=>True) (arg:=λf=>[af .i64 f]) (res:=λf=>av (¬kE f (dc m))) FB.out .nil (.cons (.t rfl) .nil) (λf _=>EV)) rfl ?_;refine .p (cA (h:=HM)) rfl ?_;refine zE ?_;refine .p (cA (h:=jo)) rfl ?_;refine Z4 ?_;refine br ?_;exact aa.int (by rw[lN hx];exact(Ka c0).symm)
theorem KP:dF Wo 251 [ck (bp m)] (af .i64 (xV m)):=by
 refine In 10 Tryz.func251 λ_ _ _=>?_;refine .fact (t:=0) rfl (λS w v h=>jv h) λhl=>?_;have kR:=hl.sigs;have lD:=hl.imports;have m8:=hl.funcs;have m9:=hl.eE;have nc:=hl.globals;have nk:=hl.bg;have nq:=hl.elems;have oQ:=hl.cu
 refine kL ?_;refine .p (cU (A:=Nat) (ok:=λi=>i<m.bN.length) (arg:=λi=>[af .i64 (i:Int)]) (res:=λi=>af .i64 (pg m.bN (uN m) i)) FB.out .nil (.cons (.t rfl) .nil) (λi hi=>HT hi)) rfl ?_;refine .p (cA (h:=mF (by first|assumption|omega))) rfl ?_;refine Z4 ?_;refine br ?_;exact aa.refl _
theorem HU(ak:i<m.dA.length):dF Wo 322 [af .i64 (i:Int),ck [ck (bp m)]] (af .i64 (pg m.dA (uO m) i)):=by
 refine In 51 Tryz.func322 λ_ _ _=>?_;refine .fact (t:=1) rfl (λS w v h=>mW h) λhl=>?_;have kR:=hl.sigs;have lD:=hl.imports;have m8:=hl.funcs;have m9:=hl.eE;have nc:=hl.globals;have nk:=hl.bg;have nq:=hl.elems;have oQ:=hl.cu
 obtain⟨x,hx⟩:=ah ak;refine eB ?_;refine .p (cI _) rfl ?_;refine Z1 ?_;refine .n (au FZ.out) rfl λb4 _=>?_;refine Z3 ?_;refine .share (t:=4) (i:=0) rfl rfl ?_;refine Z9 ?_;refine Cd (λc0=>?_) λc0=>?_
 ·
  refine Z7 ?_;refine br ?_;exact aa.int (by rw[lN hx];simp[uO, *])
 refine Z3 ?_;refine .bL 24 12 FM.out (by kernel_rfl) (k:= ?_);refine Z7 ?_;refine .p (cA (h:=oP)) ?_;refine ij ?_;refine .cons (de.gF rfl rfl rfl rfl (λhg=>C4 (.when (.t rfl) hg) (.when (.t rfl) hg))) ?_;refine Z2 ?_;refine .g (de.gF rfl rfl rfl rfl (λhg=>aW (j:=x.Mem.toNat) FU.out FC.out rfl (.when (.t rfl) hg) (.when (.t rfl) hg) (UM (Classical.not_not.1 hg)) (GL (Classical.not_not.1 hg)))) rfl rfl ?_;refine Z9 ?_;refine .p (cA (h:=jo)) rfl ?_;refine Z4 ?_;refine br ?_;exact aa.int (by rw[lN hx];exact(Kb c0).symm)
theorem KQ:dF Wo 252 [ck (bp m)] (af .i64 (xW m)):=by
 refine In 10 Tryz.func252 λ_ _ _=>?_;refine .fact (t:=0) rfl (λS w v h=>jv h) λhl=>?_;have kR:=hl.sigs;have lD:=hl.imports;have m8:=hl.funcs;have m9:=hl.eE;have nc:=hl.globals;have nk:=hl.bg;have nq:=hl.elems;have oQ:=hl.cu
 refine kL ?_;refine .p (cU (A:=Nat) (ok:=λi=>i<m.dA.length) (arg:=λi=>[af .i64 (i:Int)]) (res:=λi=>af .i64 (pg m.dA (uO m) i)) FB.out .nil (.cons (.t rfl) .nil) (λi hi=>HU hi)) rfl ?_;refine .p (cA (h:=mF (by first|assumption|omega))) rfl ?_;refine Z4 ?_;refine br ?_;exact aa.refl _
theorem HV:dF Wo 189 [ck (bp m)] (aZ [dV (vE m).1,af .i64 (vE m).2]):=by
 refine In 52 Tryz.func189 λ_ _ _=>?_;refine Z2 ?_;refine .p (bf (.s [] rfl rfl)) rfl ?_;refine cC ?_;refine CT λc0=>?_;refine Z6 ?_;refine .p (cU (A:=Unit) (ok:=λ_=>True) (arg:=λ_=>[]) (res:=λ_=>af .i64 (Dn m)) FB.out (.cons (.t rfl) .nil) .nil (λ_ _=>O1)) rfl ?_;refine .p (aL FP.out FZ.out (.cons (.s [115,105,103,115] rfl rfl) (.cons (.t rfl) .nil)) rfl) rfl ?_;refine Z1 ?_;refine .p (cU (A:=Unit) (ok:=λ_=>True) (arg:=λ_=>[]) (res:=λ_=>af .i64 (qp m)) FB.out (.cons (.t rfl) .nil) .nil (λ_ _=>ES)) rfl ?_;refine .p (aL FP.out FZ.out (.cons (.s [105,109,112,111,114,116,115] rfl rfl) (.cons (.t rfl) .nil)) rfl) rfl ?_;refine Z1 ?_;refine .p (cU (A:=Unit) (ok:=λ_=>True) (arg:=λ_=>[]) (res:=λ_=>af .i64 (lO m)) FB.out (.cons (.t rfl) .nil) .nil (λ_ _=>KM)) rfl ?_;refine .p (aL FP.out FZ.out (.cons (.s [102,117,110,99,115] rfl rfl) (.cons (.t rfl) .nil)) rfl) rfl ?_;refine Z1 ?_;refine .p (cU (A:=Unit) (ok:=λ_=>True) (arg:=λ_=>[]) (res:=λ_=>af .i64 (nx m)) FB.out (.cons (.t rfl) .nil) .nil (λ_ _=>KN)) rfl ?_;refine .p (aL FP.out FZ.out (.cons (.s [116,97,98,108,101] rfl rfl) (.cons (.t rfl) .nil)) rfl) rfl ?_;refine Z1 ?_;refine .p (cU (A:=Unit) (ok:=λ_=>True) (arg:=λ_=>[]) (res:=λ_=>af .i64 (Dp m)) FB.out (.cons (.t rfl) .nil) .nil (λ_ _=>O2)) rfl ?_;refine .p (aL FP.out FZ.out (.cons (.s [109,101,109,115] rfl rfl) (.cons (.t rfl) .nil)) rfl) rfl ?_;refine Z1 ?_;refine .p (cU (A:=Unit) (ok:=λ_=>True) (arg:=λ_=>[]) (res:=λ_=>af .i64 (qq m)) FB.out (.cons (.t rfl) .nil) .nil (λ_ _=>ET)) rfl ?_;refine .p (aL FP.out FZ.out (.cons (.s [103,108,111,98,97,108,115] rfl rfl) (.cons (.t rfl) .nil)) rfl) rfl ?_;refine Z1 ?_;refine .p (cU (A:=Unit) (ok:=λ_=>True) (arg:=λ_=>[]) (res:=λ_=>af .i64 (oF m)) FB.out (.cons (.t rfl) .nil) .nil (λ_ _=>EU)) rfl ?_;refine .p (aL FP.out FZ.out (.cons (.s [101,120,112,111,114,116,115] rfl rfl) (.cons (.t rfl) .nil)) rfl) rfl ?_;refine Z1 ?_;refine .p (cU (A:=Unit) (ok:=λ_=>True) (arg:=λ_=>[]) (res:=λ_=>af .i64 (ko m)) FB.out (.cons (.t rfl) .nil) .nil (λ_ _=>KO)) rfl ?_;refine .p (aL FP.out FZ.out (.cons (.s [115,116,97,114,116] rfl rfl) (.cons (.t rfl) .nil)) rfl) rfl ?_;refine Z1 ?_;refine .p (cU (A:=Unit) (ok:=λ_=>True) (arg:=λ_=>[]) (res:=λ_=>af .i64 (xV m)) FB.out (.cons (.t rfl) .nil) .nil (λ_ _=>KP)) rfl ?_;refine .p (aL FP.out FZ.out (.cons (.s [101,108,101,109,115] rfl rfl) (.cons (.t rfl) .nil)) rfl) rfl ?_;refine Z1 ?_;refine .p (cU (A:=Unit) (ok:=λ_=>True) (arg:=λ_=>[]) (res:=λ_=>af .i64 (xW m)) FB.out (.cons (.t rfl) .nil) .nil (λ_ _=>KQ)) rfl ?_;refine .p (aL FP.out FZ.out (.cons (.s [100,97,116,97] rfl rfl) (.cons (.t rfl) .nil)) rfl) rfl ?_;refine .p (fy FR.out FZ.out (.cons (.t rfl) (.cons (.t rfl) (.cons (.t rfl) (.cons (.t rfl) (.cons (.t rfl) (.cons (.t rfl) (.cons (.t rfl) (.cons (.t rfl) (.cons (.t rfl) (.cons (.t rfl) .nil)))))))))) rfl) rfl ?_;refine Z4 ?_;refine .bk (σ:=Nat) (λ_=>[]) (λk=>[(40,af .i64 (k:Int))]) (λk=>k<=10/\dJ (λp:List UInt8×Int=>p.2≠0) (nE m) k) (λk=>10-k) 0 ⟨by omega,dJ.zero _ _⟩ rfl ?_ ?_
 · exact(.get rfl (aa.refl _) (.refl _ _))
 rintro k ⟨hk,hnot⟩;refine Z6 ?_;refine Cd (λc1=>?_) λc1=>?_
 ·
  obtain⟨p,hp⟩:=ah (xs:=nE m) (k:=k) (by rw[yj];omega);refine Z6 ?_;refine .p (wq (enc:=zS) (nE m) FU.out FC.out rfl FA.out (.t rfl) rfl rfl (.t rfl) rfl (by assumption)) rfl ?_;refine .n (au FZ.out) rfl λb5 _=>?_;refine Z3 ?_;refine .share (t:=5) (i:=0) rfl rfl ?_;refine Z4 ?_;refine .p (cV ()) rfl ?_;refine Z9 ?_;refine Cd (λc2=>?_) λc2=>?_
  ·
   refine oA ?_;refine eA ?_ ?_
   · exact aa.of_eq (by rw[SG hnot hp c2])
   exact aa.of_eq (by rw[SG hnot hp c2])
  refine Z7 ?_;refine .round (k+1) ⟨by omega,hnot.succ hp (by assumption)⟩ (by omega) rfl ?_;exact(.get rfl (aa.int (by omega)) (.keep 13 rfl rfl))
 refine Z7 ?_;refine .p (bf (.s [] rfl rfl)) rfl ?_;refine Z4 ?_;refine eA ?_ ?_
 · exact aa.of_eq (by rw[Bn (hnot.all (by rw[yj];omega))])
 exact aa.of_eq (by rw[Bn (hnot.all (by rw[yj];omega))])
theorem tA{a b:List UInt8}:dF Wo 281 [ai 1 an a,ai 1 an b] (av (a=b)):=by
 refine In 26 Tryz.func281 λ_ _ _=>?_;refine .fact (t:=0) rfl (λS w v h=>cw h) λhlen=>?_;refine oA ?_;refine Cd (λc0=>?_) λc0=>?_
 ·
  refine Z7 ?_;refine br ?_;exact aa.prop (X4 c0).symm
 refine dh ?_;refine .bk (σ:=Nat) (λ_=>[]) (λk=>[(13,af .i64 (k:Int))]) (λk=>k<=a.length/\UN a b k) (λk=>a.length-k) 0 ⟨by omega,UN.zero _ _⟩ rfl ?_ ?_
 · exact(.get rfl (aa.refl _) (.refl _ _))
 rintro k ⟨hk,heq⟩;refine Z6 ?_;refine Cd (λc1=>?_) λc1=>?_
 ·
  obtain⟨x,hx⟩:=ah (xs:=a) (k:=k) (by omega);obtain⟨y,hy⟩:=ah (xs:=b) (k:=k) (by omega);refine dh ?_;refine .bL 8 1 FM.out (by kernel_rfl) (k:= ?_);refine Z2 ?_;refine .p (cI _) ?_;refine Z3 ?_;refine .p (cI _) ?_;refine Z5 ?_;refine .cond (.le (.t rfl) (aa.prop (not_congr Du))) (λc2=>?_) (λc2=>?_)
  ·
   refine dh ?_;refine br ?_;exact aa.prop (ae8 hx hy c2).symm
  refine Z7 ?_;refine .round (k+1) ⟨by omega,heq.succ hx hy (Classical.not_not.1 c2)⟩ (by omega) rfl ?_;exact(.get rfl (aa.int (by omega)) (.keep 15 rfl rfl))
 refine dh ?_;refine br ?_;exact aa.prop (by simp[heq.all (by omega) (by omega)])
theorem KR{a b:mj}:dF Wo 224 [aC (bW a),aC (bW b)] (av (a=b)):=by
 refine In 17 Tryz.func224 λ_ _ _=>?_;refine kL ?_;refine .p (cA (h:=tA)) rfl ?_;refine Z5 ?_;refine .g (de.gT rfl rfl rfl rfl (λhg=>cg (tA) FB.out (.cons (.when (.t rfl) hg) (.cons (.when (.t rfl) hg) .nil)))) rfl rfl ?_;refine Z5 ?_;refine br ?_;exact aa.prop X5
end Go.Proofs.YtppekopemdoclaaGreatDoor
end
