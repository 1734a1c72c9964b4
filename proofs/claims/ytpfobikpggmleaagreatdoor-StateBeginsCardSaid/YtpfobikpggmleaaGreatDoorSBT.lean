/-
  What the statement's proof leans on, several texts in one (packed by a program).
-/
import Derived.Test.YtpfobikpggmleaaGreatDoorSBS
set_option linter.all false
set_option maxRecDepth 1000000
set_option maxHeartbeats 4000000
section
namespace Go.Proofs.YtpfobikpggmleaaGreatDoor
open Go.Hl Go.RowKit
variable {g:SB} {xs:List UInt8}
theorem tn{n:Nat}(az:n<18446744073709551616)(hp1:xs.length≤100000):cv Tryz.prog 230 [aa (bt g xs.length),ag .u64 ((n:Int))] [av g 1 aj xs] (γ:=SB×List UInt8) (fun z=>z.2.length=xs.length+fO n) (fun z=>[av z.1 1 aj z.2]) (fun z=>aa (bt z.1 z.2.length)):=by
 refine In 21 Tryz.func230 fun _ _ _=>?_;have Ng:=dI az;refine Z7 ?_;refine .aS (σ:=SB×List UInt8×Nat) (fun z=>[av z.1 1 aj z.2.1]) (fun z=>[(0,aa (bt z.1 z.2.1.length)),(1,ag .u64 (z.2.2:Int))]) (fun z=>z.2.1.length+fO z.2.2=xs.length+fO n∧z.2.2≤n) (fun z=>z.2.2) (g,xs,n) ⟨rfl,Nat.le_refl _⟩ rfl ?_ ?_
 · exact(.get rfl (af.refl _) (.get rfl (af.refl _) (.refl _ _)))
 rintro⟨g1,ys,j⟩ ⟨hl,hk⟩;simp only at hl hk ⊢;refine Z7 ?_;refine Cd (fun c0=>?_) fun c0=>?_
 ·
  refine Z7 ?_;refine .p ((fk FU.out FU.out (.t rfl)).le (af.int (show _=((j%256:Nat):Int) by rw[oM];omega))) rfl ?_;refine .p (Aw (b:=127) (by omega) (by decide) (.t rfl) (.c _)) rfl ?_;refine .p ((K0 (b:=128) (Gm _) (by decide) (.t rfl) (.c _)).le (oN (PV (Gm _)))) rfl ?_;refine .p (cB aj [(UInt8.ofNat ((j%256 &&& 127)|||128))]) rfl ?_;refine .n (aF (i:=0) FU.out FU.out FC.out rfl FZ.out rfl FY.out (.t rfl) (.t rfl) rfl (by simp only[List.length_cons,List.length_nil];omega) (by simp only[List.length_cons,List.length_nil];omega)) rfl fun g13 _=>?_;refine Z5 ?_;refine .p ((zl (s:=7) (.t rfl) (.c _) (by decide)).le (af.int (show((j/2^7:Nat):Int)=((j/128:Nat):Int) from rfl))) rfl ?_;refine Z3 ?_;refine .round (g13,ys++[(UInt8.ofNat ((j%256 &&& 127)|||128))],j/128) ⟨by(show(ys++[_]).length+fO (j/128)=_;rw[List.length_append];simp only[List.length_cons,List.length_nil];have:=yL (n:=j) (by omega);omega),by show j/128≤n;omega⟩ (by show j/128<j;omega) rfl ?_;exact(.get rfl (af.refl _) (.get rfl (af.refl _) ((.keep 15 rfl rfl))))
 refine Z9 ?_;refine .p ((fk FU.out FU.out (.t rfl)).le (af.trans (af.int (show _=((j:Nat):Int) by rw[oM];omega)) (oN (by omega)))) rfl ?_;refine .p (cB aj [UInt8.ofNat j]) rfl ?_;refine .n (aF (i:=0) FU.out FU.out FC.out rfl FZ.out rfl FY.out (.t rfl) (.t rfl) rfl (by simp only[List.length_cons,List.length_nil];omega) (by simp only[List.length_cons,List.length_nil];omega)) rfl fun g20 _=>?_;refine Z4 ?_;refine Post.aR rfl ((g20,ys++[UInt8.ofNat j])) (by exact(by(show(ys++[_]).length=_;rw[List.length_append];simp only[List.length_cons,List.length_nil];have:=vD (n:=j) (by omega);omega))) (fun _ _ _ h=>h) (.rt rfl) ?_;exact af.refl _
theorem GW{a:Nat}(az:a≤1000):cQ Tryz.prog 301 [ag .i64 ((a:Int))] (ag .i64 ((((a+6)/7:Nat):Int))):=by
 refine In 7 Tryz.func301 fun _ _ _=>?_;refine cD ?_;refine .p (Ox (.t rfl) (.c _) (by omega) (by omega) ee) rfl ?_;refine Z4 ?_;refine bB ?_;exact af.int (by omega)
theorem GX{n:Int}(az: -9223372036854775808≤n)(hp1:n≤9223372036854775807):cQ Tryz.prog 289 [ag .i64 (n)] (ag .i64 ((lC n:Int))):=by
 refine In 12 Tryz.func289 fun _ _ _=>?_;refine Z5 ?_;refine .cut (σ:=Unit) (fun _=>[]) (fun _=>[(0,ag .i64 (if n<0 then-n-1 else n))]) (fun _=>True) ?_ ?_
 ·
  refine Z6 ?_;refine Cd (fun c0=>?_) fun c0=>?_
  ·
   refine Z2 ?_;refine .p (MQ az hp1 (.t rfl)) rfl ?_;refine Z2 ?_;refine .meet () trivial rfl (.get rfl (af.int (by rw[if_pos c0])) (.keep 5 rfl rfl))
  refine Z1 ?_;refine .meet () trivial rfl (.get rfl (af.int (by rw[if_neg c0])) (.keep 2 rfl rfl))
 intro _ _;have ht:0≤(if n<0 then-n-1 else n)∧(if n<0 then-n-1 else n)≤9223372036854775807:=by split<;>omega
 generalize htn:(if n<0 then-n-1 else n)=t at ht;have bB5:=XF (a:=t.toNat) (by omega);have hls:lC n=(yp t.toNat+7)/7:=by rw[Sq,←htn];split<;>rfl
 refine Z4 ?_;refine .p (bA (IQ (a:=t.toNat) (by omega)) FB.out (.cons (.le (.t rfl) (af.int (show t=((t.toNat:Nat):Int) by omega))) .nil)) rfl ?_;refine .p ((eU (.t rfl) (.c _) ee).le (af.int (show _=((yp t.toNat+1:Nat):Int) by omega))) rfl ?_;refine .p (cA (h:=GW (a:=yp t.toNat+1) (by omega))) rfl ?_;refine Z4 ?_;refine bB ?_;exact af.int (by rw[hls])
theorem JR{n:Int}(az: -9223372036854775808≤n)(hp1:n≤9223372036854775807)(hp2:xs.length≤100000):cv Tryz.prog 266 [aa (bt g xs.length),ag .i64 (n)] [av g 1 aj xs] (γ:=SB×List UInt8) (fun z=>z.2.length=xs.length+lC n) (fun z=>[av z.1 1 aj z.2]) (fun z=>aa (bt z.1 z.2.length)):=by
 refine In 27 Tryz.func266 fun _ _ _=>?_;have Ng:=yM az (by omega:n<9223372036854775808);have hl0:=Gd n;refine Z9 ?_;refine .p (cA (h:=GX az hp1)) rfl ?_;refine Z4 ?_;refine .aS (σ:=SB×List UInt8×Nat×Int) (fun z=>[av z.1 1 aj z.2.1]) (fun z=>[(0,aa (bt z.1 z.2.1.length)),(1,ag .i64 z.2.2.2),(5,ag .i64 (z.2.2.1:Int))]) (fun z=>z.2.1.length+z.2.2.1=xs.length+lC n∧1≤z.2.2.1) (fun z=>z.2.2.1) (g,xs,lC n,n) ⟨rfl,hl0⟩ rfl ?_ ?_
 · exact(.get rfl (af.refl _) (.get rfl (af.refl _) (.get rfl (af.refl _) (.refl _ _))))
 rintro⟨g1,ys,j,v⟩ ⟨hl,hk⟩;simp only at hl hk ⊢;refine Z7 ?_;refine Cd (fun c0=>?_) fun c0=>?_
 ·
  refine Z8 ?_;refine .p ((fk FU.out FU.out (.t rfl)).le (af.int (show _=(((v%256).toNat%256:Nat):Int) by rw[oM];omega))) rfl ?_;refine .p (Aw (b:=127) (by omega) (by decide) (.t rfl) (.c _)) rfl ?_;refine .p ((K0 (b:=128) (Gm _) (by decide) (.t rfl) (.c _)).le (oN (PV (Gm _)))) rfl ?_;refine .p (cB aj [(UInt8.ofNat (((v%256).toNat%256 &&& 127)|||128))]) rfl ?_;refine .n (aF (i:=0) FU.out FU.out FC.out rfl FZ.out rfl FY.out (.t rfl) (.t rfl) rfl (by simp only[List.length_cons,List.length_nil];omega) (by simp only[List.length_cons,List.length_nil];omega)) rfl fun g18 _=>?_;refine Z5 ?_;refine .p (Tx (s:=7) (.t rfl) (.c _) (by decide)) rfl ?_;refine Z9 ?_;refine .round (g18,ys++[(UInt8.ofNat (((v%256).toNat%256 &&& 127)|||128))],j-1,v/2^7) ⟨by(show(ys++[_]).length+(j-1)=_;rw[List.length_append];simp only[List.length_cons,List.length_nil];omega),by show 1≤j-1;omega⟩ (by show j-1<j;omega) rfl ?_;exact(.get rfl (af.refl _) (.get rfl (af.refl _) (.get rfl (af.int (by show(_:Int)=((j-1:Nat):Int);omega)) ((.keep 19 rfl rfl)))))
 refine Z9 ?_;refine .p ((fk FU.out FU.out (.t rfl)).le (af.int (show _=(((v%256).toNat%256:Nat):Int) by rw[oM];omega))) rfl ?_;refine .p ((Aw (b:=127) (by omega) (by decide) (.t rfl) (.c _)).le (oN (Gm _))) rfl ?_;refine .p (cB aj [UInt8.ofNat ((v%256).toNat%256 &&& 127)]) rfl ?_;refine .n (aF (i:=0) FU.out FU.out FC.out rfl FZ.out rfl FY.out (.t rfl) (.t rfl) rfl (by simp only[List.length_cons,List.length_nil];omega) (by simp only[List.length_cons,List.length_nil];omega)) rfl fun Vn _=>?_;refine Z4 ?_;refine Post.aR rfl ((Vn,ys++[UInt8.ofNat ((v%256).toNat%256 &&& 127)])) (by exact(by(show(ys++[_]).length=_;rw[List.length_append];simp only[List.length_cons,List.length_nil];omega))) (fun _ _ _ h=>h) (.rt rfl) ?_;exact af.refl _
theorem j9{l:List Int}(az:∀n∈l,0≤n∧n<18446744073709551616)(hp1:xs.length≤50000)(hp2:l.length≤200):cv Tryz.prog 248 [aa (bt g xs.length),ai 1 dh l] [av g 1 aj xs] (γ:=SB×List UInt8) (fun z=>z.2.length=xs.length+sC l) (fun z=>[av z.1 1 aj z.2]) (fun z=>aa (bt z.1 z.2.length)):=by
 refine In 18 Tryz.func248 fun _ _ _=>?_;refine jb ?_;refine .aS (σ:=SB×List UInt8×Nat) (fun z=>[av z.1 1 aj z.2.1]) (fun z=>[(0,aa (bt z.1 z.2.1.length)),(9,ag .i64 (z.2.2:Int))]) (fun z=>z.2.1.length=xs.length+sC (l.take z.2.2)∧z.2.2≤l.length) (fun z=>l.length-z.2.2) (g,xs,0) ⟨by simp[sC],Nat.zero_le _⟩ rfl ?_ ?_
 · exact(.get rfl (af.refl _) (.get rfl (af.refl _) (.refl _ _)))
 rintro⟨g1,ys,j⟩ ⟨hl,hk⟩;simp only at hl hk ⊢;have hsu:=qK (l.take j) (fun n hn=>az n (List.mem_of_mem_take hn));have htl:(l.take j).length≤l.length:=by simp;omega
 refine Z6 ?_;refine Cd (fun c0=>?_) fun c0=>?_
 ·
  obtain⟨x,hx⟩:=ah (xs:=l) (k:=j) (by omega);obtain⟨hx0,bB6⟩:=az x (List.mem_of_getElem? hx);refine Z6 ?_;refine .p (cI j (h:=hx)) rfl ?_;refine Z7 ?_;refine .n (cG (rest:=[]) (tn (n:=x.toNat) (by omega) (by omega)) FB.out (.cons (.t rfl) (.cons (.le (.t rfl) (af.int (show x=((x.toNat:Nat):Int) by omega))) .nil)) (Perm.idx [0] rfl rfl)) rfl fun g15 Eo=>?_;refine Z8 ?_;refine .round (g15.1,g15.2,j+1) ⟨by(show g15.2.length=_;rw[Eo,hl,←bq hx,Cj];unfold bJ;omega),by show j+1≤_;omega⟩ (by show l.length-(j+1)<l.length-j;omega) rfl ?_;exact(.get rfl (af.refl _) (.get rfl (af.int (by show(_:Int)=((j+1:Nat):Int);omega)) ((.keep 12 rfl rfl))))
 have hjl:l.take j=l:=List.take_of_length_le (by omega);refine dN ?_;refine Post.aR rfl ((g1,ys)) (by exact(by(show ys.length=_;rw[hl,hjl]))) (fun _ _ _ h=>h) (.rt rfl) ?_;exact af.refl _
variable {x:ay}
theorem JS(az:jo x.Code≠[]):cv Tryz.prog 246 [aC (aK x)] [] (γ:=SB×List UInt8) (fun z=>z.2.length=oO x) (fun z=>[av z.1 1 aj z.2]) (fun z=>aa (bt z.1 z.2.length)):=by
 refine In 16 Tryz.func246 fun _ _ _=>?_;have hci:=yP az;refine jb ?_;refine Cd (fun c0=>?_) fun c0=>?_
 ·
  refine Z4 ?_;refine .p ((fk FU.out FU.out (.t rfl)).le (af.trans (af.int (show _=((x.Code.toNat:Nat):Int) by rw[oM];omega)) (oN (by omega)))) rfl ?_;refine .n (cg aj [UInt8.ofNat x.Code.toNat] FU.out FC.out rfl FZ.out rfl (.cons (.t rfl) .nil) rfl rfl rfl rfl rfl) rfl fun g9 _=>?_;refine Z5 ?_;refine Post.aR rfl ((g9,[UInt8.ofNat x.Code.toNat])) (by exact(by unfold oO;rw[if_neg (by omega)];rfl)) (fun _ _ _ h=>h) (.rt rfl) ?_;exact af.refl _
 refine Z4 ?_;refine .n (cg aj [252] FU.out FC.out rfl FZ.out rfl (.cons (.c _) .nil) rfl rfl rfl rfl rfl) rfl fun g10 _=>?_;refine Z4 ?_;refine .n (cG (rest:=[]) (tn (xs:=[252]) (n:=(x.Code-64512).toNat) (by omega) (by simp)) FB.out (.cons (.t rfl) (.cons (.le (.t rfl) (af.int (show x.Code-64512=(((x.Code-64512).toNat:Nat):Int) by omega))) .nil)) (Perm.idx [0] rfl rfl)) rfl fun g15 Eo=>?_;refine Z4 ?_;refine Post.aR rfl (g15) (by exact(by rw[Eo];unfold oO;rw[if_pos (by omega)];rfl)) (fun _ _ _ h=>h) (.rt rfl) ?_;exact af.refl _
theorem Nh(az:0≤x.A)(hp1:x.A<18446744073709551616)(hp2:0≤x.B)(fI:x.B<18446744073709551616)(oe:0≤x.dm)(yH:x.dm≤31)(Q0:xs.length≤50000):cv Tryz.prog 249 [aC (aK x),aa (bt g xs.length)] [av g 1 aj xs] (γ:=SB×List UInt8) (fun z=>z.2.length=xs.length+Jk x) (fun z=>[av z.1 1 aj z.2]) (fun z=>aa (bt z.1 z.2.length)):=by
 refine In 27 Tryz.func249 fun _ _ _=>?_;refine jb ?_;refine Cd (fun c0=>?_) fun c0=>?_
 ·
  refine Z8 ?_;refine .p (cB dh [x.dm,x.B]) rfl ?_;refine .n (cE (h:=j9 (l:=[x.dm,x.B]) (by simp;omega) Q0 (by simp))) rfl fun g15 Eo=>?_;refine Z5 ?_;refine Post.aR rfl (g15) (by exact(by rw[Eo];unfold Jk;rw[if_pos c0];simp[sC])) (fun _ _ _ h=>h) (.rt rfl) ?_;exact af.refl _
 refine jP ?_;refine .p (cB dh [x.dm+64,x.A,x.B]) rfl ?_;refine .n (cE (h:=j9 (l:=[x.dm+64,x.A,x.B]) (by simp;omega) Q0 (by simp))) rfl fun Vn X1=>?_;refine Z4 ?_;refine Post.aR rfl (Vn) (by exact(by rw[X1];unfold Jk;rw[if_neg c0];simp[sC];omega)) (fun _ _ _ h=>h) (.rt rfl) ?_;exact af.refl _
theorem JT(az:0≤x.A)(hp1:x.A<18446744073709551616)(hp2:x.Code=65∨x.Code=66)(fI:x.Code=65→x.A≤4294967295)(oe:xs.length≤50000):cv Tryz.prog 250 [aC (aK x),aa (bt g xs.length)] [av g 1 aj xs] (γ:=SB×List UInt8) (fun z=>z.2.length=xs.length+lC (ku x)) (fun z=>[av z.1 1 aj z.2]) (fun z=>aa (bt z.1 z.2.length)):=by
 refine In 19 Tryz.func250 fun _ _ _=>?_;refine cD ?_;refine .p ((fk FU.out FU.out (.t rfl)).le (af.int (K2 az hp1))) rfl ?_;refine Z3 ?_;refine .cut (σ:=Unit) (fun _=>[av g 1 aj xs]) (fun _=>[(5,ag .i64 (ku x))]) (fun _=>True) ?_ ?_
 ·
  refine Z7 ?_;refine Cd (fun c0=>?_) fun c0=>?_
  ·
   refine Z3 ?_;refine .p ((fk FU.out FU.out (.t rfl)).le (af.int (Sr az (fI (by omega))))) rfl ?_;refine .p (qd FU.out FU.out (.t rfl) (cn (by split<;>omega) (by split<;>omega))) rfl ?_;refine Z2 ?_;refine .meet () trivial rfl (.get rfl (af.int (by rw[show ku x=(if x.A<2147483648 then x.A else x.A-4294967296) from if_pos (by omega)])) (.keep 8 rfl rfl))
  refine Z1 ?_;refine .meet () trivial rfl (.get rfl (af.int (by rw[show ku x=(if x.A<9223372036854775808 then x.A else x.A-18446744073709551616) from if_neg (by omega)])) (.keep 3 rfl rfl))
 intro _ _;have Wm: -9223372036854775808≤ku x∧ku x≤9223372036854775807:=by unfold ku;(repeat split)<;>omega
 refine Z4 ?_;refine .n (cE (h:=JR (n:=ku x) Wm.1 Wm.2 (by omega))) rfl fun g18 RW=>?_;refine Z4 ?_;refine Post.aR rfl (g18) (by exact RW) (fun _ _ _ h=>h) (.rt rfl) ?_;exact af.refl _
theorem DX(az:mW x)(hp1:iP x):cv Tryz.prog 231 [aC (aK x)] [] (γ:=List UInt8) (fun l=>l.length=nT x) (fun _=>[]) (fun l=>bE [ai 1 aj l,ag .i64 0]):=by
 refine In 68 Tryz.func231 fun _ _ _=>?_;obtain⟨hf,hne⟩:=Jj az.A0 az.B0 hp1;obtain⟨r1,r2,r3,r4,r5,r6⟩:=id hp1;have hL100:x.L.length≤100:=r6.elim (fun h=>by rw[h];simp) (fun h=>h.2);have oR:=az.A0;have SQ:=az.yq;have hB0:=az.B0;have X5:=az.B64;have hfb:=uD x.Code;have SR:oO x≤20:=by unfold oO bJ;split<;>(try have:=dI (n:=(x.Code-64512).toNat) (by have:=yP hne;omega))<;>omega
 refine cc ?_;refine .p (cA (h:=x9 az.A0 az.B0)) rfl ?_;refine Z3 ?_;refine Cd (fun c0=>?_) fun c0=>?_
 · exact absurd hp1 c0
 refine Z5 ?_;refine .n (cE (h:=JS hne)) rfl fun g9 h9=>?_;refine Z3 ?_;refine .cut (σ:=SB×List UInt8) (fun z=>[av z.1 1 aj z.2]) (fun z=>[(4,aa (bt z.1 z.2.length))]) (fun z=>z.2.length=nT x) ?_ ?_
 ·
  refine Z3 ?_;refine .p ((cA (h:=AP)).le (af.int hf)) rfl ?_;refine Z9 ?_;refine Cd (fun c1=>?_) fun c1=>?_
  ·
   refine Z4 ?_;refine .p ((fk FU.out FU.out (.t rfl)).le (af.trans (af.int (show _=((x.A.toNat%256:Nat):Int) by rw[oM];omega)) (oN (by omega)))) rfl ?_;refine .p (cB aj [UInt8.ofNat (x.A.toNat%256)]) rfl ?_;refine .n (aF (i:=0) FU.out FU.out FC.out rfl FZ.out rfl FY.out (.t rfl) (.t rfl) rfl (by simp only[List.length_cons,List.length_nil];omega) (by simp only[List.length_cons,List.length_nil];omega)) rfl fun g19 _=>?_;refine Z3 ?_;refine .meet (g19,g9.2++[UInt8.ofNat (x.A.toNat%256)]) (by(show((g19,g9.2++[UInt8.ofNat (x.A.toNat%256)])).2.length=nT x;rw[ir];rw[if_pos c1];simp[h9])) rfl (.get rfl (af.refl _) (.keep 11 rfl rfl))
  refine .cut (σ:=Unit) (fun _=>[av g9.1 1 aj g9.2]) (fun _=>[(20,ak (aV x.Code=2∨aV x.Code=4∨aV x.Code=6∨aV x.Code=7∨aV x.Code=9))]) (fun _=>True) ?_ ?_
  ·
   refine Z6 ?_;refine Cd (fun c2=>?_) fun c2=>?_
   ·
    refine Z1 ?_;refine .meet () trivial rfl (.get rfl (af.prop (by omega)) (.keep 2 rfl rfl))
   refine Z6 ?_;refine Cd (fun c3=>?_) fun c3=>?_
   ·
    refine Z1 ?_;refine .meet () trivial rfl (.get rfl (af.prop (by omega)) (.keep 4 rfl rfl))
   refine Z6 ?_;refine Cd (fun c4=>?_) fun c4=>?_
   ·
    refine Z1 ?_;refine .meet () trivial rfl (.get rfl (af.prop (by omega)) (.keep 6 rfl rfl))
   refine Z6 ?_;refine Cd (fun c5=>?_) fun c5=>?_
   ·
    refine Z1 ?_;refine .meet () trivial rfl (.get rfl (af.prop (by omega)) (.keep 8 rfl rfl))
   refine Z4 ?_;refine .meet () trivial rfl (.get rfl (af.prop (by omega)) (.keep 10 rfl rfl))
  intro _ _;refine Cd (fun c6=>?_) fun c6=>?_
  ·
   refine Z4 ?_;refine .p (cB dh [x.A]) rfl ?_;refine .n (cE (h:=j9 (l:=[x.A]) (by simp;omega) (by omega) (by simp))) rfl fun Wb h30=>?_;refine Z3 ?_;refine .meet Wb (by(show(Wb).2.length=nT x;rw[h30,h9,ir];rw[if_neg c1,if_pos c6];simp[sC])) rfl (.get rfl (af.refl _) (.keep 11 rfl rfl))
  refine Z6 ?_;refine Cd (fun c7=>?_) fun c7=>?_
  ·
   refine .bP [(0,0),(1,0),(2,0),(3,0),(4,0),(5,0),(7,0),(8,0),(10,0),(11,0),(12,0),(6,2),(9,2)] 13 2 FM.out (by kernel_rfl) (k:= ?_);refine Z5 ?_;refine .p rfl (fun _=>bI (enc:=dh) [(x.L.length:Int)] FU.out FC.out rfl FZ.out rfl (.cons (.t rfl) .nil) rfl rfl rfl rfl rfl) ?_;refine Z4 ?_;refine .p rfl (fun _=>bI (enc:=dh) [x.A] FU.out FC.out rfl FZ.out rfl (.cons (.t rfl) .nil) rfl rfl rfl rfl rfl) ?_;refine .e rfl (cE (h:=j9 (l:=[(x.L.length:Int)]) (by simp;omega) (by omega) (by simp))) fun g39 SP=>?_;refine .e rfl (cE (h:=j9 (l:=x.L) (fun n hn=>⟨az.L0 n hn,by have h9:n≤4294967295:=r5 n hn;omega⟩) (by rw[SP,h9];have:=qK [(x.L.length:Int)] (by simp;omega);simp only[List.length_cons,List.length_nil] at this;omega) (by omega))) fun yJ Qk=>?_;refine .fin ?_;refine .n (cE (h:=j9 (l:=[x.A]) (by simp;omega) (by rw[Qk,SP,h9];have:=qK [(x.L.length:Int)] (by simp;omega);have h8:=qK x.L (fun n hn=>⟨az.L0 n hn,by have h9:n≤4294967295:=r5 n hn;omega⟩);simp only[List.length_cons,List.length_nil] at this;omega) (by simp))) rfl fun XN h46=>?_;refine Z3 ?_;refine .meet XN (by(show(XN).2.length=nT x;rw[h46,Qk,SP,h9,ir];rw[if_neg c1,if_neg c6,if_pos c7];simp[sC,bJ];omega)) rfl (.get rfl (af.refl _) (.keep 22 rfl rfl))
  refine .cut (σ:=Unit) (fun _=>[av g9.1 1 aj g9.2]) (fun _=>[(47,ak (aV x.Code=5∨aV x.Code=10))]) (fun _=>True) ?_ ?_
  ·
   refine Z6 ?_;refine Cd (fun c8=>?_) fun c8=>?_
   ·
    refine Z1 ?_;refine .meet () trivial rfl (.get rfl (af.prop (by omega)) (.keep 2 rfl rfl))
   refine Z4 ?_;refine .meet () trivial rfl (.get rfl (af.prop (by omega)) (.keep 4 rfl rfl))
  intro _ _;refine Cd (fun c9=>?_) fun c9=>?_
  ·
   refine Z6 ?_;refine .p (cB dh [x.A,x.B]) rfl ?_;refine .n (cE (h:=j9 (l:=[x.A,x.B]) (by simp;omega) (by omega) (by simp))) rfl fun Wl X0=>?_;refine Z3 ?_;refine .meet Wl (by(show(Wl).2.length=nT x;rw[X0,h9,ir];rw[if_neg c1,if_neg c6,if_neg c7,if_pos c9];simp[sC])) rfl (.get rfl (af.refl _) (.keep 16 rfl rfl))
  refine Z6 ?_;refine Cd (fun nV=>?_) fun nV=>?_
  ·
   refine Z3 ?_;refine .n (cE (h:=Nh oR SQ hB0 X5 az.a0 az.a31 (by omega))) rfl fun Dr RZ=>?_;refine Z3 ?_;refine .meet Dr (by(show(Dr).2.length=nT x;rw[RZ,h9,ir];rw[if_neg c1,if_neg c6,if_neg c7,if_neg c9,if_pos nV])) rfl (.get rfl (af.refl _) (.keep 14 rfl rfl))
  refine Z6 ?_;refine Cd (fun qI=>?_) fun qI=>?_
  ·
   refine Z3 ?_;refine .n (cE (h:=JT oR SQ (K1 qI) (fun MN=>Classical.byContradiction fun h9=>r2 (.inr (.inl ⟨MN,h9⟩))) (by omega))) rfl fun g66 h66=>?_;refine Z3 ?_;refine .meet g66 (by(show(g66).2.length=nT x;rw[h66,h9,ir];rw[if_neg c1,if_neg c6,if_neg c7,if_neg c9,if_neg nV,if_pos qI])) rfl (.get rfl (af.refl _) (.keep 16 rfl rfl))
  refine Z2 ?_;refine .meet g9 (by(show(g9).2.length=nT x;rw[h9,ir];rw[if_neg c1,if_neg c6,if_neg c7,if_neg c9,if_neg nV,if_neg qI];rfl)) rfl (.get rfl (af.refl _) (.keep 12 rfl rfl))
 intro z hz;refine Z1 ?_;refine .eB (t:=4) (i:=0) (g:=z.1) (xs:=z.2) rfl rfl ?_;refine Z7 ?_;refine Post.bk rfl rfl (z.2) (by exact hz) (fun _ _ _ h=>h) rfl (.cons (.rt rfl) ?_ (.cons (.rt rfl) ?_ .nil))
 · exact af.refl _
 exact af.refl _
theorem GY:cQ Tryz.prog 285 [aC (aK x)] (ak (aQ x.Code)):=by
 refine In 16 Tryz.func285 fun _ _ _=>?_;refine V2 ?_;refine bB ?_;exact af.prop or_assoc
variable {l:List ay} {nb:Nat}
theorem Cr{pb pc p:Nat}{go:SB}{sp:List rD}{o:List Nat}{cl:Prop}{dp:Int}{s:rD}(az:sp[p]?=some s):cv Tryz.prog 300 [aD nb 0] (En nb l ⟨some (pb,pc),go,sp,o++[p],cl,dp⟩) (γ:=Unit) (fun _=>True) (fun _=>En nb l ⟨some (pb,pc),go,sp,o++[p],cl,dp⟩) (fun _=>bE [aD pb (p*3),ak True]):=by
 refine In 27 Tryz.func300 fun _ _ _=>?_;refine .gL 2 rfl (by simp) fun qb qc hq=>?_;simp only at hq;subst hq;refine .yC 2 rfl fun yA=>?_;simp only[List.length_append,List.length_cons,List.length_nil] at yA;have hps:=(List.getElem?_eq_some_iff.1 az).1;refine EX ?_;refine Cd (fun c0=>?_) fun c0=>?_
 · exfalso;simp at c0;omega
 refine Z3 ?_;refine .br 16 3 FM.out (by kernel_rfl) (k:= ?_);refine jP ?_;refine .p (jZ (.t rfl) (.c _) (cn (by simp<;>omega) (by simp<;>omega))) ?_;refine .p (aX o.length FU.out FC.out rfl (.t rfl) (.t rfl) (by simp) (by simp)) ?_;refine .p (fL (i:=2) (r:=0) FA.out (.t rfl) rfl (DE (o:=o) (p:=p)) rfl) ?_;refine Z1 ?_;refine .p (aX p FU.out FC.out rfl (.t rfl) (.t rfl) rfl hps) rfl ?_;refine Z5 ?_;refine j4 ?_ ?_
 · exact af.refl _
 exact af.refl _
theorem AQ{gp go:SB}{sp:List rD}{cl:Prop}{dp:Int}:cv Tryz.prog 300 [aD nb 0] (En nb l ⟨gp,go,sp,[],cl,dp⟩) (γ:=Unit) (fun _=>True) (fun _=>En nb l ⟨gp,go,sp,[],cl,dp⟩) (fun _=>bE [aa (.pointer none),ak False]):=by
 refine In 27 Tryz.func300 fun _ _ _=>?_;refine EX ?_;refine CF fun c0=>?_;refine Z8 ?_;refine j4 ?_ ?_
 · exact af.refl _
 exact af.refl _
variable {z:PX}
theorem GZ{i:Nat}(az:z.op.length≤64)(hp1:z.sp.length≤50000):cv Tryz.prog 286 [aD nb 0,ag .i64 ((i:Int))] (En nb l z) (γ:=Int×PX) (fun g=>(z.op.length=64∧g.1≠0)∨(z.op.length≠64∧g.1=0∧g.2.sp=z.sp++[((i:Int),-1,-1)]∧g.2.op=z.op++[z.sp.length]∧g.2.cl=z.cl)) (fun g=>En nb l g.2) (fun g=>ag .i64 g.1):=by
 refine In 49 Tryz.func286 fun _ _ _=>?_;refine AY ?_;refine Cd (fun c0=>?_) fun c0=>?_
 ·
  refine Z7 ?_;refine Post.aR rfl ((15,z)) (by exact .inl ⟨by omega,by show(15:Int)≠0;decide⟩) (fun _ _ _ h=>h) (.rt rfl) ?_;exact af.refl _
 refine Z3 ?_;refine .bP [(0,0),(1,0),(2,0),(3,0),(4,1),(5,0),(6,0),(7,0),(8,1),(9,1),(10,0),(11,2)] 12 3 FM.out (by kernel_rfl) (k:= ?_);refine cD ?_;refine .p rfl (fun _=>bI (enc:=iY) [z.sp.length] FU.out FC.out rfl FZ.out rfl (.cons (.t rfl) .nil) rfl rfl rfl rfl rfl) ?_;refine .e rfl (aF (i:=2) FU.out FU.out FC.out rfl FZ.out rfl FY.out (.t rfl) (.t rfl) rfl (by simp only[List.length_cons,List.length_nil];omega) (by simp only[List.length_cons,List.length_nil];omega)) fun g22 _=>?_;refine .fin ?_;refine jb ?_;refine .p (cB gV [((i:Int),-1,-1)]) rfl ?_;refine .n (aF (i:=1) FU.out FU.out FC.out rfl FZ.out rfl FY.out (.t rfl) (.t rfl) rfl (by simp only[List.length_cons,List.length_nil];omega) (by simp only[List.length_cons,List.length_nil];omega)) rfl fun g33 _=>?_;refine Z6 ?_;refine .br 11 3 FM.out (by kernel_rfl) (k:= ?_);refine Z23 ?_;refine Post.aR rfl ((0,⟨g33,g22,z.sp++[((i:Int),-1,-1)],z.op++[z.sp.length],z.cl,max z.dp ((z.op++[z.sp.length]).length:Int)⟩)) (by exact .inr ⟨by omega,rfl,rfl,rfl,rfl⟩) (fun _ _ _ h=>h) (.rt rfl) ?_;exact af.refl _
variable {rs:List (Int×Bool)} {j:Nat}
theorem G0(az:iD l z.sp z.op rs)(hp1:z.op.length≤64)(hp2:z.sp.length≤50000)(fI:¬z.cl):cv Tryz.prog 287 [aD nb 0,ag .i64 ((j:Int))] (En nb l z) (γ:=Int×PX) (fun g=>nsP l False rs 5 j z g.1 g.2) (fun g=>En nb l g.2) (fun g=>ag .i64 g.1):=by
 refine In 39 Tryz.func287 fun _ _ _=>?_;refine Z6 ?_;rcases List.eq_nil_or_concat z.op with hop|⟨o,p,hop⟩;have QW:rs=[]:=by have:=az.len;rw[hop] at this;exact List.eq_nil_of_length_eq_zero this.symm
 obtain⟨gp,go,sp,op,cl,dp⟩:=z;simp only at hop az hp1 hp2 fI;subst hop;subst QW
 rotate_left
 obtain⟨gp,go,sp,op,cl,dp⟩:=z;simp only[List.concat_eq_append] at hop az hp1 hp2 fI;subst hop;obtain⟨Ni,ce,QW⟩:∃Ni ce,rs=Ni++[ce]:=vF (fun e=>by have:=az.len;rw[e] at this;simp at this);obtain⟨cb,ce⟩:=ce;subst QW;obtain⟨bi,el,en,y,hs,hy,EA,hce⟩:=az.top;simp only at EA hce;refine .gL 1 rfl (fun e=>by(have h9:=(List.getElem?_eq_some_iff.1 hs).1;simp only at e;rw[e] at h9;simp at h9)) fun pb pc X6=>?_;simp only at X6;subst X6
 ·
  refine Z2 ?_;refine .n ((cE (h:=Cr hs)).same (fun _ _=>aB.refl _) (fun _ _=>af.refl _)) rfl fun _ _=>?_;refine Z9 ?_;refine .br 11 12 FM.out (by kernel_rfl) (k:= ?_);refine cD ?_;refine .cons (bU.gF rfl rfl rfl rfl (fun hg=>fL (i:=1) (r:=0) FA.out (.when (.t rfl) hg) rfl hs rfl)) ?_;refine Z1 ?_;refine .g (bU.gF rfl rfl rfl rfl (fun hg=>aP (j:=bi) FU.out FC.out rfl (.when (.t rfl) hg) (.when (.t rfl) hg) rfl hy)) rfl rfl ?_;refine Z8 ?_;refine .g (bU.gF rfl rfl rfl rfl (fun hg=>fL (i:=1) (r:=1) FA.out (.when (.t rfl) hg) rfl hs rfl)) rfl rfl ?_;refine Z4 ?_;refine Cd (fun c0=>?_) fun c0=>?_
  ·
   refine Z7 ?_;refine Post.aR rfl ((4,⟨some (pb,pc),go,sp,o++[p],cl,dp⟩)) (by exact .inr ⟨by show(4:Int)≠0;decide,fun r h=>by(have h9:=(Az.1 h).1;rcases c0 with(h8|h8)|h8;exact h8 trivial;exact h8 (EA.trans h9.1);have h7:=hce.2 h8;rw[h9.2] at h7;cases h7)⟩) (fun _ _ _ h=>h) (.rt rfl) ?_;exact af.refl _
  refine Z8 ?_;refine .s (fE (enc:=gV) (i:=1) (r:=1) ((bi:Int),(j:Int),en) rfl FC.out (.t rfl) (.t rfl) rfl hs rfl rfl) ?_;refine Z2 ?_;refine .own (hs':=En nb l ⟨some (pb,pc),go,sp.set p ((bi:Int),(j:Int),en),o++[p],cl,dp⟩) (aB.of_eq (by simp)) ?_;refine Z6 ?_;refine Post.aR rfl ((0,⟨some (pb,pc),go,sp.set p ((bi:Int),(j:Int),en),o++[p],cl,dp⟩)) (by exact .inl ⟨rfl,(PZ hs).symm,by(show(sp.set p _).length≤sp.length+1;rw[List.length_set];omega),hp1,Ni++[(cb,true)],az.other hs hy EA,fun r=>by(show fz False (Ni++[(cb,ce)]) (5::r)↔fz cl (Ni++[(cb,true)]) r;rw[Az];have h4:cb=4:=EA.symm.trans (Classical.byContradiction fun h=>c0 (.inl (.inr h)));have hf:ce=false:=Bool.eq_false_iff.2 (fun h8=>c0 (.inr (hce.1 h8)));rw[show(cl=False) from eq_false fI];exact⟨fun h=>h.2,fun h=>⟨⟨h4,hf⟩,h⟩⟩)⟩) (fun _ _ _ h=>h) (.rt rfl) ?_;exact af.refl _
 refine Z2 ?_;refine .n ((cE (h:=AQ)).same (fun _ _=>aB.refl _) (fun _ _=>af.refl _)) rfl fun _ _=>?_;refine Z9 ?_;refine .br 11 12 FM.out (by kernel_rfl) (k:= ?_);refine Z3 ?_;refine .cons (bU.gF rfl rfl rfl rfl (fun hg=>mO (q:=jD) (hg (fun h=>h)))) ?_;refine .cons (bU.gF rfl rfl rfl rfl (fun hg=>mO (q:=jD) (hg (fun h=>h)))) ?_;refine .cons (bU.gF rfl rfl rfl rfl (fun hg=>mO (q:=jD) (hg (fun h=>h)))) ?_;refine .cons (bU.gF rfl rfl rfl rfl (fun hg=>mO (q:=jD) (hg (fun h=>h)))) ?_;refine .cons (bU.gF rfl rfl rfl rfl (fun hg=>mO (q:=jD) (hg (fun h=>h)))) ?_;refine .cons (bU.gF rfl rfl rfl rfl (fun hg=>mO (q:=jD) (hg (fun h=>h)))) ?_;refine .cons (bU.gF rfl rfl rfl rfl (fun hg=>mO (q:=jD) (hg (fun h=>h)))) ?_;refine .cons (bU.gF rfl rfl rfl rfl (fun hg=>mO (q:=jD) (hg (fun h=>h)))) ?_;refine Z1 ?_;refine .g (bU.gF rfl rfl rfl rfl (fun hg=>mO (q:=jD) (hg (fun h=>h)))) rfl rfl ?_;refine .g (bU.gF rfl rfl rfl rfl (fun hg=>mO (q:=jD) (hg (fun h=>h)))) rfl rfl ?_;refine .g (bU.gF rfl rfl rfl rfl (fun hg=>mO (q:=jD) (hg (fun h=>h)))) rfl rfl ?_;refine .g (bU.gF rfl rfl rfl rfl (fun hg=>mO (q:=ak True) (hg (fun h=>h)))) rfl rfl ?_;refine Z2 ?_;refine .g (bU.gF rfl rfl rfl rfl (fun hg=>mO (q:=jD) (hg (.inl (fun h=>h))))) rfl rfl ?_;refine .g (bU.gF rfl rfl rfl rfl (fun hg=>mO (q:=jD) (hg (.inl (fun h=>h))))) rfl rfl ?_;refine .g (bU.gF rfl rfl rfl rfl (fun hg=>mO (q:=jD) (hg (.inl (fun h=>h))))) rfl rfl ?_;refine .g (bU.gF rfl rfl rfl rfl (fun hg=>mO (q:=jD) (hg (.inl (fun h=>h))))) rfl rfl ?_;refine .g (bU.gF rfl rfl rfl rfl (fun hg=>mO (q:=ak True) (hg (.inl (fun h=>h))))) rfl rfl ?_;refine Z3 ?_;refine Cd (fun c0=>?_) fun c0=>?_
 ·
  refine Z7 ?_;refine Post.aR rfl ((4,⟨gp,go,sp,[],cl,dp⟩)) (by exact .inr ⟨by show(4:Int)≠0;decide,fun r=>Bg⟩) (fun _ _ _ h=>h) (.rt rfl) ?_;exact af.refl _
 exact absurd (.inl (.inl (fun h=>h))) c0
theorem Nj(az:iD l z.sp z.op rs)(hp1:z.op.length≤64)(hp2:z.sp.length≤50000)(fI:¬z.cl):cv Tryz.prog 288 [aD nb 0,ag .i64 ((j:Int))] (En nb l z) (γ:=PX) (fun g=>nsP l False rs 11 j z 0 g) (fun g=>En nb l g) (fun g=>bE []):=by
 refine In 34 Tryz.func288 fun _ _ _=>?_;refine Z1 ?_;rcases List.eq_nil_or_concat z.op with hop|⟨o,p,hop⟩;have QW:rs=[]:=by have:=az.len;rw[hop] at this;exact List.eq_nil_of_length_eq_zero this.symm
 obtain⟨gp,go,sp,op,cl,dp⟩:=z;simp only at hop az hp1 hp2 fI;subst hop;subst QW
 rotate_left
 obtain⟨gp,go,sp,op,cl,dp⟩:=z;simp only[List.concat_eq_append] at hop az hp1 hp2 fI;subst hop;obtain⟨Ni,ce,QW⟩:∃Ni ce,rs=Ni++[ce]:=vF (fun e=>by have:=az.len;rw[e] at this;simp at this);obtain⟨cb,ce⟩:=ce;subst QW;obtain⟨bi,el,en,y,hs,hy,EA,hce⟩:=az.top;simp only at EA hce;refine .gL 1 rfl (fun e=>by(have h9:=(List.getElem?_eq_some_iff.1 hs).1;simp only at e;rw[e] at h9;simp at h9)) fun pb pc X6=>?_;simp only at X6;subst X6
 ·
  refine Z2 ?_;refine .n ((cE (h:=Cr hs)).same (fun _ _=>aB.refl _) (fun _ _=>af.refl _)) rfl fun _ _=>?_;refine jb ?_;refine Cd (fun c0=>?_) fun c0=>?_
  · exact absurd trivial c0
  refine Z8 ?_;refine .s (fE (enc:=gV) (i:=1) (r:=2) ((bi:Int),el,(j:Int)) rfl FC.out (.t rfl) (.t rfl) rfl hs rfl rfl) ?_;refine Z2 ?_;refine .own (hs':=En nb l ⟨some (pb,pc),go,sp.set p ((bi:Int),el,(j:Int)),o++[p],cl,dp⟩) (aB.of_eq (by simp)) ?_;refine .br 12 3 FM.out (by kernel_rfl) (k:= ?_);refine cD ?_;refine .p (jZ (.t rfl) (.c _) (cn (by simp only[List.length_append,List.length_cons,List.length_nil] at*;omega) (by simp only[List.length_append,List.length_cons,List.length_nil] at*;omega))) ?_;refine .p (qp (i:=2) (h:=o.length) FU.out FC.out rfl (.t rfl) (.t rfl) (by simp) rfl rfl (by simp)) ?_;refine Z5 ?_;refine .own (aB.cons _ (aB.cons _ (aB.OH o (yN _ _)))) ?_;refine Post.iA rfl (⟨some (pb,pc),go,sp.set p ((bi:Int),el,(j:Int)),o,cl,dp⟩) (by exact .inl ⟨rfl,(Sv hs).symm,by(show(sp.set p _).length≤sp.length+1;rw[List.length_set];omega),by(show o.length≤64;simp only[List.length_append,List.length_cons,List.length_nil] at hp1;omega),Ni,az.pop _,fun r=>by(show fz False (Ni++[(cb,ce)]) (11::r)↔fz cl Ni r;rw[MR,show(cl=False) from eq_false fI])⟩) (fun _ _ _ h=>h) rfl
 refine Z2 ?_;refine .n ((cE (h:=AQ)).same (fun _ _=>aB.refl _) (fun _ _=>af.refl _)) rfl fun _ _=>?_;refine jb ?_;refine Cd (fun c0=>?_) fun c0=>?_
 ·
  refine cD ?_;refine Post.Uy rfl (⟨gp,go,sp,[],True,dp⟩) (by exact .inl ⟨rfl,P0.symm,Nat.le_succ _,by simp,[],iD.nil _ _,fun r=>AA⟩) (fun _ _ _ h=>h) rfl
 exact absurd (fun h=>h) c0
theorem JU(az:iD l z.sp z.op rs)(hp1:z.op.length≤64)(hp2:z.sp.length≤50000)(fI:l[j]?=some x):cv Tryz.prog 265 [aD nb 0,ag .i64 ((j:Int))] (En nb l z) (γ:=Int×PX) (fun g=>nsP l z.cl rs x.Code j z g.1 g.2) (fun g=>En nb l g.2) (fun g=>ag .i64 g.1):=by
 refine In 48 Tryz.func265 fun _ _ _=>?_;refine AY ?_;refine Cd (fun c0=>?_) fun c0=>?_
 ·
  refine Z8 ?_;refine Post.aR rfl ((4,z)) (by exact .inr ⟨by show(4:Int)≠0;decide,fun r=>by rw[show z.cl=True from eq_true c0];exact DF⟩) (fun _ _ _ h=>h) (.rt rfl) ?_;exact af.refl _
 have Nk:z.cl=False:=eq_false c0;refine Z7 ?_;refine .p (cI j (h:=fI)) rfl ?_;refine Z1 ?_;refine .p (cA (h:=GY)) rfl ?_;refine Z3 ?_;refine Cd (fun c1=>?_) fun c1=>?_
 ·
  refine Z4 ?_;refine .n (cE (h:=GZ hp1 hp2)) rfl fun g21 Ms=>?_;refine Z6 ?_;refine Post.aR rfl (g21) (by exact(by rw[Nk];rcases Ms with⟨h1,h2⟩|⟨h1,h2,h3,h4,h5⟩;exact .inr ⟨h2,fun r=>Jm c1 (az.len▸h1)⟩;exact .inl ⟨h2,by(show(_,_)=_;rw[PY c1,h3,h4]),by(rw[h3];simp),by(rw[h4];simp;omega),rs++[(x.Code,false)],by(rw[h3,h4];exact az.begin fI),fun r=>by(rw[h5,Nk];exact Jl c1 (az.len▸h1) (az.len▸hp1))⟩)) (fun _ _ _ h=>h) (.rt rfl) ?_;exact af.refl _
 refine Z7 ?_;refine .p (cI j (h:=fI)) rfl ?_;refine Z6 ?_;refine Cd (fun c2=>?_) fun c2=>?_
 ·
  refine Z4 ?_;refine .n (cE (h:=G0 az hp1 hp2 c0)) rfl fun NX NY=>?_;refine Z6 ?_;refine Post.aR rfl (NX) (by exact(by rw[Nk,c2];exact NY)) (fun _ _ _ h=>h) (.rt rfl) ?_;exact af.refl _
 refine Z7 ?_;refine .p (cI j (h:=fI)) rfl ?_;refine Z6 ?_;refine Cd (fun c3=>?_) fun c3=>?_
 ·
  refine Z3 ?_;refine .n (cE (h:=Nj az hp1 hp2 c0)) rfl fun XY h47=>?_;refine Z9 ?_;refine Post.aR rfl ((0,XY)) (by exact(by rw[Nk,c3];exact h47)) (fun _ _ _ h=>h) (.rt rfl) ?_;exact af.refl _
 refine Z9 ?_;refine Post.aR rfl ((0,z)) (by exact(by rw[Nk];exact .inl ⟨rfl,(MU c1 c2 c3).symm,Nat.le_succ _,hp1,rs,az,fun r=>by rw[Nk];exact Gp c1 c2 c3⟩)) (fun _ _ _ h=>h) (.rt rfl) ?_;exact af.refl _
theorem JV(az:l.length≤50000)(hp1:iD l z.sp z.op [])(hp2:z.op=[])(fI:z.sp=[])(oe:¬z.cl):cv Tryz.prog 245 [aD nb 0] (En nb l z) (γ:=Int×Int×PX) (fun g=>(g.2.1=0↔fB (l.map (·.Code)) [])∧(g.2.1=0→g.2.2.sp=U7 l)) (fun g=>En nb l g.2.2) (fun g=>bE [ag .i64 g.1,ag .i64 g.2.1]):=by
 refine In 32 Tryz.func245 fun _ _ _=>?_;refine BE ?_;refine .aS (σ:=Nat×PX) (fun g=>En nb l g.2) (fun g=>[(11,ag .i64 (g.1:Int))]) (fun g=>g.1≤l.length∧(g.2.sp,g.2.op)=Su l g.1∧g.2.op.length≤64∧g.2.sp.length≤g.1∧∃rs,iD l g.2.sp g.2.op rs∧(fB (l.map (·.Code)) []↔fz g.2.cl rs ((l.drop g.1).map (·.Code)))) (fun g=>l.length-g.1) (0,z) ⟨Nat.zero_le _,by(show(z.sp,z.op)=([],[]);rw[hp2,fI]),by rw[hp2];simp,by rw[fI];simp,[],hp1,by rw[eq_false oe];simp[fz]⟩ rfl ?_ ?_
 · exact(.get rfl (af.refl _) (.refl _ _))
 rintro⟨i,y⟩ ⟨hi,hsk,ho,hsp,rs,hr,hn⟩;simp only at hi hsk ho hsp hr hn ⊢;refine Z6 ?_;refine Cd (fun c0=>?_) fun c0=>?_
 ·
  obtain⟨x,hx⟩:=ah (xs:=l) (k:=i) (by omega);have hdr:(l.drop i).map (·.Code)=x.Code::(l.drop (i+1)).map (·.Code):=by rw[List.drop_eq_getElem_cons (by omega),List.map_cons];rw[show l[i]=x from by rw[List.getElem?_eq_getElem (by omega)] at hx;exact Option.some.inj hx]
  refine jb ?_;refine .n (cE (h:=JU hr ho (by omega) hx)) rfl fun g16 UW=>?_;refine Z9 ?_;refine Cd (fun c1=>?_) fun c1=>?_
  ·
   refine jb ?_;refine Post.bk rfl rfl ((i,g16)) (by exact(by rcases UW with⟨h1,_⟩|⟨h1,h2⟩;exact absurd h1 c1;exact⟨⟨fun h=>absurd h h1,fun h=>absurd (hdr▸hn.1 h) (h2 _)⟩,fun h=>absurd h h1⟩)) (fun _ _ _ h=>h) rfl (.cons (.rt rfl) ?_ (.cons (.rt rfl) ?_ .nil))
   · exact af.refl _
   exact af.refl _
  refine Z7 ?_;refine .round (i+1,g16.2) (by rcases UW with⟨h1,h6,h5,h2,Ni,h3,h4⟩|⟨h1,_⟩;exact⟨by show i+1≤_;omega,(by(show(_,_)=Su l (i+1);rw[XG hx,←hsk];exact h6)),h2,by show g16.2.sp.length≤i+1;omega,Ni,h3,hn.trans (by rw[hdr];exact h4 _)⟩;exact absurd h1 (fun h=>c1 h)) (by show l.length-(i+1)<l.length-i;omega) rfl ?_;exact(.get rfl (af.int (by show(_:Int)=((i+1:Nat):Int);omega)) ((.keep 12 rfl rfl)))
 have I1:i=l.length:=by omega
 have p7:l.drop i=[]:=List.drop_eq_nil_of_le (by omega);rw[p7] at hn;simp only[List.map_nil] at hn;rw[MS] at hn;refine kR ?_;refine Cd (fun c2=>?_) fun c2=>?_
 ·
  refine jP ?_;refine Post.bk rfl rfl (((l.length:Int),4,y)) (by exact⟨⟨fun h=>by simp at h,fun h=>absurd (hn.1 h) c2⟩,fun h=>by simp at h⟩) (fun _ _ _ h=>h) rfl (.cons (.rt rfl) ?_ (.cons (.rt rfl) ?_ .nil))
  · exact af.refl _
  exact af.refl _
 refine Z9 ?_;refine Post.bk rfl rfl ((0,0,y)) (by exact⟨⟨fun _=>hn.2 (Classical.not_not.1 c2),fun _=>rfl⟩,fun _=>by(subst I1;exact congrArg Prod.fst hsk)⟩) (fun _ _ _ h=>h) rfl (.cons (.rt rfl) ?_ (.cons (.rt rfl) ?_ .nil))
 · exact af.refl _
 exact af.refl _
theorem G3(az:l.length≤50000):cv Tryz.prog 228 [ai 5 aK l] [] (γ:=Int) (fun e=>e=0↔fB (l.map (·.Code)) []) (fun _=>[]) (fun e=>bE [jD,jD,ag .i64 e]):=by
 refine In 24 Tryz.func228 fun _ _ _=>?_;refine cc ?_;refine .n (bW (.t rfl)) rfl fun b10 _=>?_;refine Z5 ?_;refine .own (hs':=En b10 l ⟨none,none,[],[],False,0⟩) (aB.trans (aB.HT (cs':=[ai 5 aK l,aa (.slice none 0 0),aa (.slice none 0 0),ak False,ag .i64 0]) (.cons (.refl _) (.cons (.refl _) (.cons (.refl _) (.cons w9 (.cons (.refl _) .nil)))))) (aB.cons _ Ss)) ?_;refine Z2 ?_;refine .n (cE (h:=JV (z:=⟨none,none,[],[],False,0⟩) az (iD.nil _ _) rfl rfl (fun h=>h))) rfl fun g13 h13=>?_;refine jP ?_;refine Cd (fun c0=>?_) fun c0=>?_
 ·
  refine cc ?_;refine Post.bk rfl rfl (g13.2.1) (by exact h13.1) (aB.dF [] [0,1,2] rfl rfl) rfl (.cons (.rt rfl) ?_ (.cons (.rt rfl) ?_ (.cons (.rt rfl) ?_ .nil)))
  · exact af.any
  · exact af.any
  exact af.refl _
 refine jb ?_;refine Post.bk rfl rfl (g13.2.1) (by exact h13.1) (aB.dF [] [0,1,2] rfl rfl) rfl (.cons (.rt rfl) ?_ (.cons (.rt rfl) ?_ (.cons (.rt rfl) ?_ .nil)))
 · exact af.any
 · exact af.any
 exact af.int (by omega)
theorem JW{l:List UInt8}(az:l.length≤60000):cQ Tryz.prog 229 [ai 1 aj l] (ai 2 qL (l.foldl bC [])):=by
 refine In 43 Tryz.func229 fun _ _ _=>?_;refine .eC 2 qL ?_;refine Ek ?_;refine .aS (σ:=Nat×SB×List (Nat×UInt8)) (fun z=>[av z.2.1 2 qL z.2.2]) (fun z=>[(3,aa (bt z.2.1 z.2.2.length)),(9,ag .i64 (z.1:Int))]) (fun z=>z.1≤l.length∧z.2.2=(l.take z.1).foldl bC []) (fun z=>l.length-z.1) (0,none,[]) ⟨Nat.zero_le _,rfl⟩ rfl ?_ ?_
 · exact(.get rfl (af.of_eq rfl) (.get rfl (af.refl _) (.refl _ _)))
 rintro⟨k,g1,o⟩ ⟨hk,ho⟩;simp only at hk ho ⊢;refine Z6 ?_;refine Cd (fun c0=>?_) fun c0=>?_
 ·
  obtain⟨t,hx⟩:=ah (xs:=l) (k:=k) (by omega);have yA:=(yQ (l.take k) [] 0 (by simp)).2;rw[←ho] at yA;simp only[List.length_nil,List.length_take] at yA;have hoc:=(yQ (l.take k) [] 0 (by simp)).1;rw[←ho] at hoc;refine Z6 ?_;refine .p (cI k (h:=hx)) rfl ?_;refine Z5 ?_;rcases List.eq_nil_or_concat o with hoe|⟨m,q,hoe⟩
  rotate_left
  obtain⟨n,t2⟩:=q;rw[List.concat_eq_append] at hoe;subst hoe;refine .gL 0 rfl (by simp) fun ob oc hg=>?_;subst hg;have LA:=hoc (n,t2) (by simp);simp only[List.length_take] at LA;simp only[List.length_append,List.length_cons,List.length_nil] at yA
  rotate_left
  subst hoe
  rotate_left
  ·
   refine jP ?_;refine .g (bU.gT rfl rfl rfl rfl (fun hg=>jZ (.when (.t rfl) hg) (.c _) (cn (by simp<;>omega) (by simp<;>omega)))) rfl rfl ?_;refine .g (bU.gT rfl rfl rfl rfl (fun hg=>aX m.length FU.out FC.out rfl (.when (.t rfl) hg) (.when (.t rfl) hg) (by simp) (by simp))) rfl rfl ?_;refine Z1 ?_;refine .g (bU.gT rfl rfl rfl rfl (fun hg=>fL (i:=0) (r:=1) FA.out (.when (.t rfl) hg) rfl (mg m (n,t2)) rfl)) rfl rfl ?_;refine Z5 ?_;refine Cd (fun c1=>?_) fun c1=>?_
   ·
    refine Z3 ?_;refine .p (jZ (.t rfl) (.c _) (cn (by simp<;>omega) (by simp<;>omega))) rfl ?_;refine .p (aX m.length FU.out FC.out rfl (.t rfl) (.t rfl) (by simp) (by simp)) rfl ?_;refine Z1 ?_;refine .p (fL (i:=0) (r:=0) FA.out (.t rfl) rfl (mg m (n,t2)) rfl) rfl ?_;refine Z1 ?_;refine .p (aX m.length FU.out FC.out rfl (.t rfl) (.t rfl) (by simp) (by simp)) rfl ?_;refine Z1 ?_;refine .s (fE (enc:=qL) (i:=0) (r:=0) (n+1,t2) rfl FC.out (.t rfl) (.t rfl) rfl (mg m (n,t2)) rfl rfl) ?_;refine Z1 ?_;rw[EV];rw[show(m++[(n,t2)]).length=(m++[(n+1,t2)]).length by simp];refine Z6 ?_;refine .round (k+1,some (ob,oc),m++[(n+1,t2)]) ⟨by show k+1≤_;omega,by(show m++[(n+1,t2)]=_;rw[uE hx,←ho,←zL.1 c1.2,vJ])⟩ (by show l.length-(k+1)<l.length-k;omega) rfl ?_;exact(.get rfl (af.refl _) (.get rfl (af.int (by show(_:Int)=((k+1:Nat):Int);omega)) ((.keep 32 rfl rfl))))
   refine Z4 ?_;refine .p (cB qL [(1,t)]) rfl ?_;refine .n (aF (i:=0) FU.out FU.out FC.out rfl FZ.out rfl FY.out (.t rfl) (.t rfl) rfl (by simp only[List.length_append,List.length_cons,List.length_nil];omega) (by simp only[List.length_append,List.length_cons,List.length_nil];omega)) rfl fun xo _=>?_;refine Z8 ?_;refine .round (k+1,xo,(m++[(n,t2)])++[(1,t)]) ⟨by show k+1≤_;omega,by(show(m++[(n,t2)])++[(1,t)]=_;rw[uE hx,←ho,tN _ _ (fun e=>c1 ⟨by simp<;>omega,zL.2 e⟩)])⟩ (by show l.length-(k+1)<l.length-k;omega) rfl ?_;exact(.get rfl (af.refl _) (.get rfl (af.int (by show(_:Int)=((k+1:Nat):Int);omega)) ((.keep 29 rfl rfl))))
  refine cc ?_;refine .g (bU.gT rfl rfl rfl rfl (fun hg=>mO (q:=jD) (by simp at hg))) rfl rfl ?_;refine .g (bU.gT rfl rfl rfl rfl (fun hg=>mO (q:=jD) (by simp at hg))) rfl rfl ?_;refine .g (bU.gT rfl rfl rfl rfl (fun hg=>mO (q:=jD) (by simp at hg))) rfl rfl ?_;refine .g (bU.gT rfl rfl rfl rfl (fun hg=>mO (q:=jD) (by simp at hg))) rfl rfl ?_;refine .g (bU.gT rfl rfl rfl rfl (fun hg=>mO (q:=jD) (by simp at hg))) rfl rfl ?_;refine .g (bU.gT rfl rfl rfl rfl (fun hg=>mO (q:=jD) (by simp at hg))) rfl rfl ?_;refine .g (bU.gT rfl rfl rfl rfl (fun hg=>mO (q:=jD) (by simp at hg))) rfl rfl ?_;refine .g (bU.gT rfl rfl rfl rfl (fun hg=>mO (q:=ak True) (by simp at hg))) rfl rfl ?_;refine Z3 ?_;refine Cd (fun c1=>?_) fun c1=>?_
  · exfalso;simp at c1
  refine Z4 ?_;refine .p (cB qL [(1,t)]) rfl ?_;refine .n (aF (i:=0) FU.out FU.out FC.out rfl FZ.out rfl FY.out (.t rfl) (.t rfl) rfl (by simp only[List.length_append,List.length_cons,List.length_nil];omega) (by simp only[List.length_append,List.length_cons,List.length_nil];omega)) rfl fun xo _=>?_;refine Z8 ?_;refine .round (k+1,xo,[]++[(1,t)]) ⟨by show k+1≤_;omega,by(show[]++[(1,t)]=_;rw[uE hx,←ho];rfl)⟩ (by show l.length-(k+1)<l.length-k;omega) rfl ?_;exact(.get rfl (af.refl _) (.get rfl (af.int (by show(_:Int)=((k+1:Nat):Int);omega)) ((.keep 29 rfl rfl))))
 have HJ:l.take k=l:=List.take_of_length_le (by omega);rw[HJ] at ho;refine Z6 ?_;refine .eB (t:=3) (i:=0) rfl rfl ?_;refine Z6 ?_;refine bB ?_;exact af.of_eq (by rw[ho])
theorem DY(az:0≤x.A)(hp1:0≤x.B):cQ Tryz.prog 242 [aC (aK x)] (ak (¬iP x)):=by
 refine In 6 Tryz.func242 fun _ _ _=>?_;refine Z9 ?_;refine .p (cA (h:=x9 az hp1)) rfl ?_;refine Z5 ?_;refine bB ?_;exact af.refl _
theorem DZ{t:UInt8}:cQ Tryz.prog 244 [ag .u8 (t.toNat:Int)] (ak (eP t=0)):=by
 refine In 6 Tryz.func244 fun _ _ _=>?_;refine Z8 ?_;refine .p (cA (h:=s7)) rfl ?_;refine Z5 ?_;refine bB ?_;exact af.refl _
theorem Bm{p:ay→Prop}(az:∀x∈l,0≤x.A∧0≤x.B):cQ Tryz.prog 259 [ai 5 aK l,mM Tryz.prog (fun x:ay=>0≤x.A∧0≤x.B) (fun x=>[aC (aK x)]) (fun x=>ak (p x))] (ag .i64 (nE p l)):=by
 refine In 19 Tryz.func259 fun _ _ _=>?_;refine .fact (t:=0) rfl (fun S w v h=>bn h) fun hlen=>?_;refine jb ?_;refine .aS (σ:=Nat) (fun _=>[]) (fun k=>[(8,ag .i64 (k:Int))]) (fun k=>k≤l.length∧cT p l k) (fun k=>l.length-k) 0 ⟨by omega,cT.zero p l⟩ rfl ?_ ?_
 · exact(.get rfl (af.refl _) (.refl _ _))
 rintro k ⟨hk,hnot⟩;refine Z6 ?_;refine Cd (fun c0=>?_) fun c0=>?_
 ·
  obtain⟨x,hx⟩:=ah (xs:=l) (k:=k) (by omega);refine kR ?_;refine .p (cI _) rfl ?_;refine Z1 ?_;refine .p (cV x (h:=az x (List.mem_of_getElem? hx))) rfl ?_;refine Z2 ?_;refine Cd (fun c1=>?_) fun c1=>?_
  ·
   refine dN ?_;refine bB ?_;exact af.int (qu hx (by assumption) hnot).symm
  refine Z7 ?_;refine .round (k+1) ⟨by omega,hnot.succ hx (by assumption)⟩ (by omega) rfl ?_;exact(.get rfl (af.int (by omega)) (.keep 12 rfl rfl))
 refine cc ?_;refine bB ?_;exact af.int (nk (hnot.all (by omega))).symm
theorem Bn{p:ay→Prop}(az:∀x∈l,0≤x.A∧0≤x.B):cQ Tryz.prog 241 [ai 5 aK l,mM Tryz.prog (fun x:ay=>0≤x.A∧0≤x.B) (fun x=>[aC (aK x)]) (fun x=>ak (p x))] (ak (∃x∈l,p x)):=by
 refine In 9 Tryz.func241 fun _ _ _=>?_;refine Z9 ?_;refine .p (cA (h:=Bm (by first|assumption|omega))) rfl ?_;refine Z5 ?_;refine bB ?_;exact af.prop ji
theorem AR{b:jJ}(az:Sx b):cQ Tryz.prog 227 [aC (gw b)] (ak ((∀x∈b.L,iP x)∧(∀t∈b.aW,t=126∨t=127)∧b.aW.length≤50)):=by
 refine In 23 Tryz.func227 fun _ _ _=>?_;refine cD ?_;refine .p (bA (Bn (l:=b.L) (p:=fun x=>¬iP x) (fun x hx=>⟨(az.ins x hx).A0,(az.ins x hx).B0⟩)) FB.out (.cons (.t rfl) (.cons (.le (.f _) (l8 FB.out (fun(x:ay) (h:0≤x.A∧0≤x.B)=>DY h.1 h.2))) .nil))) rfl ?_;refine Z7 ?_;refine .p (bA (vt (l:=b.aW) (p:=fun t=>eP t=0)) FB.out (.cons (.t rfl) (.cons (.le (.f _) (l8 FB.out (fun(b:UInt8) (_:True)=>DZ (t:=b)))) .nil))) rfl ?_;refine UD ?_;refine bB ?_;exact af.prop (by simp only[not_exists,not_and,Classical.not_not,qx,and_assoc];exact and_congr_right fun _=>and_congr_right fun _=>by omega)
theorem D0{b:jJ}(az:Sx b):cv Tryz.prog 210 [aC (gw b)] [] (γ:=Int) (fun e=>e=0↔oI b) (fun _=>[]) (fun e=>bE [jD,ag .i64 e]):=by
 refine In 71 Tryz.func210 fun _ _ _=>?_;refine cc ?_;refine .p (cA (h:=AR az)) rfl ?_;refine Z3 ?_;refine Cd (fun c0=>?_) fun c0=>?_
 ·
  have hno:¬oI b:=fun h=>c0 ⟨h.1,h.2.1,h.2.2.1⟩;refine Z8 ?_;refine Post.bk rfl rfl (1) (by exact⟨fun h=>by simp at h,fun h=>absurd h hno⟩) (fun _ _ _ h=>h) rfl (.cons (.rt rfl) ?_ (.cons (.rt rfl) ?_ .nil))
  · exact af.any
  exact af.refl _
 obtain⟨JX,htl,hlo⟩:=Classical.not_not.1 c0;refine Z7 ?_;refine .n (cE (h:=G3 (by have:=az.len;omega))) rfl fun g21 Ms=>?_;refine kR ?_;refine Cd (fun c1=>?_) fun c1=>?_
 ·
  refine Z9 ?_;refine Post.bk rfl rfl (g21) (by exact⟨fun h=>absurd h c1,fun h=>Ms.2 h.2.2.2.1⟩) (fun _ _ _ h=>h) rfl (.cons (.rt rfl) ?_ (.cons (.rt rfl) ?_ .nil))
  · exact af.any
  exact af.refl _
 have XD:=Ms.1 (Classical.not_not.1 c1);obtain⟨hrc,hrl⟩:=yQ b.aW [] 0 (by simp);simp only[List.length_nil,Nat.zero_add] at hrc hrl;have Ng:fO (b.aW.foldl bC []).length≤10:=dI (by omega);refine Z6 ?_;refine .p (cA (h:=JW az.loc)) rfl ?_;refine Z4 ?_;refine .eC 1 aj ?_;refine Z4 ?_;refine .n (cE (h:=tn (g:=none) (xs:=[]) (n:=(b.aW.foldl bC []).length) (by omega) (by simp))) rfl fun NX NY=>?_;refine dN ?_;refine .aS (σ:=Nat×SB×List UInt8) (fun z=>[av z.2.1 1 aj z.2.2]) (fun z=>[(8,aa (bt z.2.1 z.2.2.length)),(37,ag .i64 (z.1:Int))]) (fun z=>z.1≤(b.aW.foldl bC []).length∧z.2.2.length=fO (b.aW.foldl bC []).length+AB ((b.aW.foldl bC []).take z.1)) (fun z=>(b.aW.foldl bC []).length-z.1) (0,NX.1,NX.2) ⟨Nat.zero_le _,by(show NX.2.length=_;rw[NY];simp[AB])⟩ rfl ?_ ?_
 · exact(.get rfl (af.refl _) (.get rfl (af.refl _) (.refl _ _)))
 rintro⟨k,g1,ys⟩ ⟨hk,hys⟩;simp only at hk hys ⊢;have hsr:=DI ((b.aW.foldl bC []).take k) (fun p hp=>by have:=hrc p (List.mem_of_mem_take hp);omega);rw[List.length_take] at hsr;refine Z6 ?_;refine Cd (fun c2=>?_) fun c2=>?_
 ·
  obtain⟨r,hr⟩:=ah (xs:=(b.aW.foldl bC [])) (k:=k) (by omega);have hrn:=hrc r (List.mem_of_getElem? hr);have bB7:fO r.1≤10:=dI (by omega);refine Z6 ?_;refine .p (cI k (h:=hr)) rfl ?_;refine Z1 ?_;refine .n (au FZ.out) rfl fun b10 _=>?_;refine Z3 ?_;refine .share (t:=10) (i:=0) rfl rfl ?_;refine .bP [(0,0),(1,0),(2,0),(3,0),(5,0),(6,0),(7,0),(4,2)] 8 2 FM.out (by kernel_rfl) (k:= ?_);refine Z6 ?_;refine .p rfl (fun _=>bI (enc:=aj) [r.2] FU.out FC.out rfl FZ.out rfl (.cons (.t rfl) .nil) rfl rfl rfl rfl rfl) ?_;refine .e rfl (cE (h:=tn (n:=r.1) (by omega) (by omega))) fun Ei Wg=>?_;refine .fin ?_;refine .n (aF (i:=0) FU.out FU.out FC.out rfl FZ.out rfl FY.out (.t rfl) (.t rfl) rfl (by simp only[List.length_cons,List.length_nil];omega) (by simp only[List.length_cons,List.length_nil];omega)) rfl fun QU _=>?_;refine Z8 ?_;refine .round (k+1,QU,Ei.2++[r.2]) ⟨by show k+1≤_;omega,by(show(Ei.2++[r.2]).length=_;rw[List.length_append,Wg,hys,←bq hr,MV];simp only[List.length_cons,List.length_nil];omega)⟩ (by show(b.aW.foldl bC []).length-(k+1)<(b.aW.foldl bC []).length-k;omega) rfl ?_;exact(.get rfl (af.refl _) (.get rfl (af.int (by show(_:Int)=((k+1:Nat):Int);omega)) ((.keep 19 rfl rfl))))
 have hkr:(b.aW.foldl bC []).take k=(b.aW.foldl bC []):=List.take_of_length_le (by omega);rw[hkr] at hys;refine kR ?_;refine .aS (σ:=Nat×SB×List UInt8) (fun z=>[av z.2.1 1 aj z.2.2]) (fun z=>[(8,aa (bt z.2.1 z.2.2.length)),(54,ag .i64 (z.1:Int))]) (fun z=>z.1≤b.L.length∧z.2.2.length=fO (b.aW.foldl bC []).length+AB (b.aW.foldl bC [])+xh (b.L.take z.1)) (fun z=>b.L.length-z.1) (0,g1,ys) ⟨Nat.zero_le _,by(show ys.length=_;rw[hys];simp[xh])⟩ rfl ?_ ?_
 · exact(.get rfl (af.refl _) (.get rfl (af.refl _) (.refl _ _)))
 rintro⟨i,g2,ws⟩ ⟨hi,hzs⟩;simp only at hi hzs ⊢;have hsi:=DH (b.L.take i) (fun x hx=>⟨.of (az.ins x (List.mem_of_mem_take hx)) (JX x (List.mem_of_mem_take hx)),JX x (List.mem_of_mem_take hx)⟩);rw[List.length_take] at hsi;have bB8:=DI (b.aW.foldl bC []) (fun p hp=>by have:=hrc p hp;omega);have wk:=az.len;refine Z6 ?_;refine Cd (fun c3=>?_) fun c3=>?_
 ·
  obtain⟨x,hx⟩:=ah (xs:=b.L) (k:=i) (by omega);have hxl:=DG (.of (az.ins x (List.mem_of_getElem? hx)) (JX x (List.mem_of_getElem? hx))) (JX x (List.mem_of_getElem? hx));refine Z6 ?_;refine .p (cI i (h:=hx)) rfl ?_;refine Z1 ?_;refine .n (au FZ.out) rfl fun R5 _=>?_;refine Z3 ?_;refine .share (t:=12) (i:=0) rfl rfl ?_;refine Z3 ?_;refine .n (cE (h:=DX (.of (az.ins x (List.mem_of_getElem? hx)) (JX x (List.mem_of_getElem? hx))) (JX x (List.mem_of_getElem? hx)))) rfl fun Wh h60=>?_;refine cD ?_;refine .n (aF (i:=0) (xs:=ws) (ys:=Wh) FU.out FU.out FC.out rfl FZ.out rfl FY.out (.t rfl) (.t rfl) rfl (by omega) (by omega)) rfl fun g65 _=>?_;refine Z8 ?_;refine .round (i+1,g65,ws++Wh) ⟨by show i+1≤_;omega,by(show(ws++Wh).length=_;rw[List.length_append,h60,hzs,←bq hx,Ck];omega)⟩ (by show b.L.length-(i+1)<b.L.length-i;omega) rfl ?_;exact(.get rfl (af.refl _) (.get rfl (af.int (by show(_:Int)=((i+1:Nat):Int);omega)) ((.keep 20 rfl rfl))))
 have p7:b.L.take i=b.L:=List.take_of_length_le (by omega);rw[p7] at hzs;have htot:ws.length=MG b:=by rw[hzs,Sw]
 refine Z9 ?_;refine .p (Kv (xs:=ws) (i:=0) rfl Tryz.underlying59 (.t rfl) rfl rfl) rfl ?_;refine Z3 ?_;refine Cd (fun c4=>?_) fun c4=>?_
 ·
  refine Z8 ?_;refine Post.bk rfl rfl (15) (by exact⟨fun h=>by simp at h,fun h=>by have:=h.2.2.2.2;omega⟩) (aB.dF [] [0] rfl rfl) rfl (.cons (.rt rfl) ?_ (.cons (.rt rfl) ?_ .nil))
  · exact af.any
  exact af.refl _
 refine cD ?_;refine Post.bk rfl rfl (0) (by exact⟨fun _=>⟨JX,htl,hlo,XD,by omega⟩,fun _=>rfl⟩) (aB.dF [] [0] rfl rfl) rfl (.cons (.rt rfl) ?_ (.cons (.rt rfl) ?_ .nil))
 · exact af.any
 exact af.refl _
end Go.Proofs.YtpfobikpggmleaaGreatDoor
end
section
namespace Go.Proofs.YtpfobikpggmleaaGreatDoor
open Go.Hl
theorem Ld{m:aT}:(ur m).2=0↔dM m:=by
 rw[Py];constructor
 · intro h
   simp only[mR,List.mem_cons,List.not_mem_nil,or_false] at h;exact⟨h _ (.inl rfl),h _ (.inr (.inl rfl)),h _ (.inr (.inr (.inl rfl))),h _ (.inr (.inr (.inr (.inl rfl)))),h _ (.inr (.inr (.inr (.inr (.inl rfl))))),h _ (.inr (.inr (.inr (.inr (.inr (.inl rfl)))))),h _ (.inr (.inr (.inr (.inr (.inr (.inr (.inl rfl))))))),h _ (.inr (.inr (.inr (.inr (.inr (.inr (.inr (.inl rfl)))))))),h _ (.inr (.inr (.inr (.inr (.inr (.inr (.inr (.inr (.inl rfl))))))))),h _ (.inr (.inr (.inr (.inr (.inr (.inr (.inr (.inr (.inr rfl)))))))))⟩
 · intro h p hp
   simp only[mR,List.mem_cons,List.not_mem_nil,or_false] at hp;rcases hp with rfl|rfl|rfl|rfl|rfl|rfl|rfl|rfl|rfl|rfl
   · exact h.sigs
   · exact h.imports
   · exact h.funcs
   · exact h.table
   · exact h.ei
   · exact h.globals
   · exact h.aZ
   · exact h.start
   · exact h.elems
   · exact h.bX
theorem yb{m:aT}(h:dM m):(ur m).2=0:=Ld.2 h
end Go.Proofs.YtpfobikpggmleaaGreatDoor
end
section
namespace Go.Proofs.YtpfobikpggmleaaGreatDoor
open Go.Hl Go.RowKit
variable {m:aT} {i:Nat} {f:cN}
theorem D1(az:dM m)(hp1:lI m)(hp2:m.aA[i]?=some f):cQ Tryz.prog 209 [bT (bf m),ag .i64 ((i:Int))] (bE [ai 1 aj ((cH m f).aW),ak True]):=by
 refine In 49 Tryz.func209 fun _ _ _=>?_;have CL:f∈m.aA:=List.mem_of_getElem? hp2;have p7:=(List.getElem?_eq_some_iff.1 hp2).1;have hlens:=az.lens;have hcn:(m.aJ.length:Int)+(m.aA.length:Int)≤100:=hlens.2.2.2.2;have yz:=(kr (nW az CL)).2;have hP:=(az.tG _ yz).1;have hlo:=hp1.loc f CL;refine YY ?_;refine Cd (fun c0=>?_) fun c0=>?_
 · exfalso;rcases c0 with(h|h)|h;exact h;omega;omega
 refine dN ?_;refine .p ((cA (h:=s8 (m:=m) (f:=(m.aJ.length:Int)+(i:Int)))).le (af.of_eq (show bE [aC (bS ((ja m ((m.aJ.length:Int)+(i:Int))).getD ⟨[],[]⟩)),ak (ja m ((m.aJ.length:Int)+(i:Int))).isSome]=bE [aC (bS (cF m f.gX)),ak ((some (cF m f.gX)).isSome=true)] by rw[Cl az hp2];rfl))) rfl ?_;refine Z3 ?_;refine .n (au FZ.out) rfl fun b6 _=>?_;refine Z4 ?_;refine .share (t:=6) (i:=0) rfl rfl ?_;refine Z1 ?_;refine .br 15 1 FM.out (by kernel_rfl) (k:= ?_);refine Z7 ?_;refine .p (cI i (h:=hp2)) ?_;refine Z3 ?_;refine .p (cB dV [(cF m f.gX).P,f.Body.aW]) ?_;refine .p (cA (h:=DQ (ls:=[(cF m f.gX).P,f.Body.aW]) (by simp;omega))) ?_;refine Z7 ?_;refine j4 ?_ ?_
 · exact af.of_eq (by simp[cH])
 exact af.prop (by simp)
theorem Nl(az:dM m)(hp1:lI m)(hp2:m.aA[i]?=some f):cv Tryz.prog 156 [bT (bf m),ag .i64 ((i:Int))] [] (γ:=Int×Int×List Nat×SB) (fun g=>(g.2.1=0∧oI f.Body∧jr m f=some g.2.2.1)∨(g.2.1≠0∧¬qG m f∧g.2.2.1=[])) (fun g=>[av g.2.2.2 1 iY g.2.2.1]) (fun g=>bE [aa (bt g.2.2.2 g.2.2.1.length),ag .i64 g.1,ag .i64 g.2.1]):=by
 refine In 99 Tryz.func156 fun _ _ _=>?_;have CL:f∈m.aA:=List.mem_of_getElem? hp2;have p7:=(List.getElem?_eq_some_iff.1 hp2).1;have hlens:=az.lens;have hcn:(m.aJ.length:Int)+(m.aA.length:Int)≤100:=hlens.2.2.2.2;have yz:=(kr (nW az CL)).2;have KP:=hp1.len f CL;have hfit:(ur m).2=0:=yb az;refine cc ?_;refine .p (cA (h:=Fz (m:=m))) rfl ?_;refine Z2 ?_;refine .p ((lJ (.t rfl) rfl).le (af.int hfit)) rfl ?_;refine cD ?_;refine CT fun c0=>?_;refine Z6 ?_;refine .p (cA (h:=D1 az hp1 hp2)) rfl ?_;refine jb ?_;refine Cd (fun c1=>?_) fun c1=>?_
 · exact absurd trivial c1
 refine Z9 ?_;refine .p (cI i (h:=hp2)) rfl ?_;refine Z2 ?_;refine .n (au FZ.out) rfl fun V8 _=>?_;refine Z3 ?_;refine .share (t:=11) (i:=0) rfl rfl ?_;refine Z4 ?_;refine .n (cE (h:=D0 (hp1.bd CL))) rfl fun XN h46=>?_;refine jP ?_;refine Cd (fun c2=>?_) fun c2=>?_
 ·
  have hno:¬qG m f:=fun h=>c2 (h46.2 h.1);refine cD ?_;refine Post.bk rfl rfl ((0,XN,[],none)) (by exact .inr ⟨c2,hno,rfl⟩) (fun F S w h=>⟨fun _=>False,F,fun _ h=>h.elim,fun _ h=>h,rfl,trivial⟩) rfl (.cons (.rt rfl) ?_ (.cons (.rt rfl) ?_ (.cons (.rt rfl) ?_ .nil)))
  · exact af.of_eq rfl
  · exact af.refl _
  exact af.refl _
 have pz:=h46.1 (Classical.not_not.1 c2);have Lx:Al m f:=⟨az,by(show((cF m f.gX).P++f.Body.aW).length≤60000;rw[List.length_append];have h1:=(az.tG _ yz).1;have h2:=pz.2.2.1;omega),yz⟩;refine dN ?_;refine .p ((cA (h:=s8 (m:=m) (f:=(m.aJ.length:Int)+(i:Int)))).le (af.of_eq (show bE [aC (bS ((ja m ((m.aJ.length:Int)+(i:Int))).getD ⟨[],[]⟩)),ak (ja m ((m.aJ.length:Int)+(i:Int))).isSome]=bE [aC (bS (cF m f.gX)),ak ((some (cF m f.gX)).isSome=true)] by rw[Cl az hp2];rfl))) rfl ?_;refine Z3 ?_;refine .n (au FZ.out) rfl fun b14 _=>?_;refine Z4 ?_;refine .share (t:=14) (i:=0) rfl rfl ?_;refine Z8 ?_;refine .p ((aN FP.out FZ.out (.cons (.t rfl) .nil) rfl).le ((show af _ (aC (lq (mC 0 ⟨False,False,(cF m f.gX).R,([],False)⟩ ([],False)))) from af.agg (.cons w9 (.cons w9 (.cons (.refl _) (.cons (.refl _) (.cons w9 .nil)))))))) rfl ?_;refine .n (cg lq [mC 0 ⟨False,False,(cF m f.gX).R,([],False)⟩ ([],False)] FU.out FC.out rfl FZ.out rfl (.cons (.t rfl) .nil) rfl rfl rfl rfl rfl) rfl fun g71 _=>?_;refine .p (bp.le (aN FP.out FZ.out (.cons (.t rfl) (.cons (.t rfl) .nil)) rfl) (af.refl (aC [bT (bf m),ai 1 aj (cH m f).aW,ai 1 aj (cF m f.gX).P,ai 1 aj (cF m f.gX).R,aa (bt none 0),aa (bt g71 1)]))) rfl ?_;refine .n (bW (.t rfl)) rfl fun b73 _=>?_;refine Z4 ?_;refine .eC 1 aj ?_;refine .eC 1 iY ?_;refine jb ?_;refine .own (aB.perm (Perm.idx [0,2,1,3] rfl rfl)) ?_;refine .aS (σ:=Nat×SB×List Nat×TU) (fun g=>av g.2.1 1 iY g.2.2.1::ckZ b73 m f g.2.2.2) (fun g=>[(17,aa (bt g.2.1 g.2.2.1.length)),(77,ag .i64 (g.1:Int))]) (fun g=>g.1≤f.Body.L.length∧g.2.2.1.length≤g.1∧∃fs,MH fs g.2.2.2.2.2.1 g.2.2.2.2.2.2∧yt m f g.1 g.2.2.1 fs) (fun g=>f.Body.L.length-g.1) (0,none,[],(none,g71,[],[mC 0 ⟨False,False,(cF m f.gX).R,([],False)⟩ ([],False)])) ⟨Nat.zero_le _,Nat.le_refl _,_,⟨rfl,fun _=>rfl⟩,yt.init az yz pz.2.2.2.1⟩ rfl ?_ ?_
 · exact(.get rfl (af.of_eq rfl) (.get rfl (af.refl _) (.refl _ _)))
 rintro⟨j,gh,hts,z⟩ ⟨hj,hhl,fs,hz,hR⟩;simp only at hj hhl hz hR ⊢;refine Z6 ?_;refine Cd (fun c3=>?_) fun c3=>?_
 ·
  obtain⟨x,hx⟩:=ah (xs:=f.Body.L) (k:=j) (by omega);obtain⟨fs,b,hfb⟩:=P3 (yR hx▸hR.nest);subst hfb;obtain⟨zs,zb,zst,zB⟩:=z;obtain⟨hB,hst⟩:=hz;simp only at hB hst;have hst:=hst (by simp);rw[l5] at hB;rw[iK] at hst;subst hB;subst hst;refine .gL 3 rfl (by simp) fun bb bc hg=>?_;simp only at hg;subst hg;refine Z7 ?_;refine .p (cI j (h:=hx)) rfl ?_;refine Z1 ?_;refine .n (au FZ.out) rfl fun b19 _=>?_;refine Z4 ?_;refine .share (t:=19) (i:=0) rfl rfl ?_;refine Z8 ?_;refine .p (cB iY [(di fs++b.st.1).length]) rfl ?_;refine .n (aF (i:=0) FU.out FU.out FC.out rfl FZ.out rfl FY.out (.t rfl) (.t rfl) rfl (by simp only[List.length_cons,List.length_nil];omega) (by simp only[List.length_cons,List.length_nil];omega)) rfl fun g89 _=>?_;refine Z7 ?_;refine .n (kL [_] [1,2,3,0] (h:=JQ (x:=x) (by rw[←iK,Ah];have:=hR.hgt;omega) Lx (.of (hp1.ins f CL x (List.mem_of_getElem? hx)) (pz.1 x (List.mem_of_getElem? hx))) (by have:=hR.len;simp at this;omega) hR.tG (pz.1 x (List.mem_of_getElem? hx)).1)) rfl fun T4 Vj=>?_;refine Z9 ?_;refine Cd (fun c4=>?_) fun c4=>?_
  ·
   refine kR ?_;refine Post.bk rfl rfl (((j:Int),T4.2,[],none)) (by exact .inr ⟨c4,fun h=>by(obtain⟨hs,hh⟩:=h.2;obtain⟨oz,e92⟩:=T4;cases oz with|some z2=>exact c4 Vj.1|none=>(have h8:=hR.XH hx Vj.2;rw[hh] at h8;cases h8)),rfl⟩) (fun F S w h=>⟨fun _=>False,F,fun _ h=>h.elim,fun _ h=>h,rfl,trivial⟩) rfl (.cons (.rt rfl) ?_ (.cons (.rt rfl) ?_ (.cons (.rt rfl) ?_ .nil)))
   · exact af.of_eq rfl
   · exact af.refl _
   exact af.refl _
  obtain⟨oz,e92⟩:=T4;obtain rfl|⟨z2,rfl⟩:oz=none∨∃z2,oz=some z2:=by cases oz with|none=>exact .inl rfl|some z2=>exact .inr ⟨z2,rfl⟩
  exact absurd Vj.1 c4;obtain⟨h92a,fs2,hs2,wq⟩:=Vj;have hRn:=hR.next az hx hs2;simp only[Qo];refine Z7 ?_;refine .own (aB.perm (Perm.idx [3,0,1,2] rfl rfl)) (bN.round (j+1,g89,hts++[(di fs++b.st.1).length],z2) ⟨by show j+1≤_;omega,by(show(hts++[_]).length≤j+1;rw[List.length_append];simp only[List.length_cons,List.length_nil];omega),fs2,wq,by(show yt m f (j+1) (hts++[(di fs++b.st.1).length]) fs2;rw[←iK,Ah];exact hRn)⟩ (by show f.Body.L.length-(j+1)<f.Body.L.length-j;omega) rfl ?_);exact(.get rfl (af.refl _) (.get rfl (af.int (by show(_:Int)=((j+1:Nat):Int);omega)) ((.keep 26 rfl rfl))))
 have hdone:=hR.done (by omega);refine jb ?_;refine Post.bk rfl rfl ((0,0,hts,gh)) (by exact .inl ⟨rfl,pz,hdone⟩) (aB.dF [0] [1,2,3] rfl rfl) rfl (.cons (.rt rfl) ?_ (.cons (.rt rfl) ?_ (.cons (.rt rfl) ?_ .nil)))
 · exact af.refl _
 · exact af.refl _
 exact af.refl _
theorem JY(az:dM m)(hp1:lI m)(hp2:m.aA[i]?=some f):cv Tryz.prog 130 [bT (bf m),ag .i64 ((i:Int))] [] (γ:=Int×Int) (fun g=>g.2=0↔qG m f) (fun _=>[]) (fun g=>bE [ag .i64 g.1,ag .i64 g.2]):=by
 refine In 18 Tryz.func130 fun _ _ _=>?_;refine cD ?_;refine .n (cE (h:=Nl az hp1 hp2)) rfl fun g12 h12=>?_;refine BE ?_;refine Post.bk rfl rfl ((g12.1,g12.2.1)) (by exact(by rcases h12 with⟨h1,h2,h3⟩|⟨h1,h2,h3⟩;exact⟨fun _=>⟨h2,_,h3⟩,fun _=>h1⟩;exact⟨fun h=>absurd h h1,fun h=>absurd h h2⟩)) (aB.dF [] [0] rfl rfl) rfl (.cons (.rt rfl) ?_ (.cons (.rt rfl) ?_ .nil))
 · exact af.refl _
 exact af.refl _
theorem Nn(az:lI m)(hp1:m.aA.length≤60000):cv Tryz.prog 109 [bT (bf m)] [] (γ:=List (List UInt8×Int×Int×Int)) (fun l=>l=[]↔j8 m) (fun _=>[]) (fun l=>ai 4 qM l):=by
 refine In 45 Tryz.func109 fun _ _ _=>?_;refine Z9 ?_;refine .p (cA (h:=Fz (m:=m))) rfl ?_;refine jP ?_;refine Cd (fun c0=>?_) fun c0=>?_
 ·
  have hnv:¬j8 m:=fun h=>c0 (yb h.1);refine Z5 ?_;refine .p (cB qM [((ur m).1,-1,0,(ur m).2)]) rfl ?_;refine Z5 ?_;refine Post.aR rfl ([((ur m).1,-1,0,(ur m).2)]) (by exact⟨fun h=>absurd h (by simp),fun h=>absurd h hnv⟩) (fun _ _ _ h=>h) (.rt rfl) ?_;exact af.refl _
 have hfits:dM m:=Ld.1 (Classical.not_not.1 c0);refine Z9 ?_;refine .eC 4 qM ?_;refine cD ?_;refine .aS (σ:=Nat×SB×List (List UInt8×Int×Int×Int)) (fun g=>[av g.2.1 4 qM g.2.2]) (fun g=>[(5,aa (bt g.2.1 g.2.2.length)),(25,ag .i64 (g.1:Int))]) (fun g=>g.1≤m.aA.length∧g.2.2.length≤g.1∧(g.2.2=[]↔∀f∈m.aA.take g.1,qG m f)) (fun g=>m.aA.length-g.1) (0,none,[]) ⟨Nat.zero_le _,Nat.le_refl _,by simp⟩ rfl ?_ ?_
 · exact(.get rfl (af.of_eq rfl) (.get rfl (af.refl _) (.refl _ _)))
 rintro⟨j,gl,l⟩ ⟨hj,KP,hv⟩;simp only at hj KP hv ⊢;refine Z6 ?_;refine Cd (fun c1=>?_) fun c1=>?_
 ·
  obtain⟨f,hf⟩:=ah (xs:=m.aA) (k:=j) (by omega);refine jb ?_;refine .n (cE (h:=JY hfits az hf)) rfl fun M8 Vh=>?_;refine jP ?_;refine Cd (fun c2=>?_) fun c2=>?_
  ·
   refine Z5 ?_;refine .p (aN FP.out FZ.out (.cons (.s [102,117,110,99] rfl rfl) (.cons (.t rfl) (.cons (.t rfl) (.cons (.t rfl) .nil)))) rfl) rfl ?_;refine .p (cB qM [([102,117,110,99],(j:Int),M8.1,M8.2)]) rfl ?_;refine .n (aF (i:=0) FU.out FU.out FC.out rfl FZ.out rfl FY.out (.t rfl) (.t rfl) rfl (by simp only[List.length_cons,List.length_nil];omega) (by simp only[List.length_cons,List.length_nil];omega)) rfl fun yJ _=>?_;refine Z8 ?_;refine .round (j+1,yJ,l++[([102,117,110,99],(j:Int),M8.1,M8.2)]) ⟨by show j+1≤_;omega,by(show(l++[_]).length≤j+1;rw[List.length_append];simp only[List.length_cons,List.length_nil];omega),⟨fun h=>absurd h (by simp),fun h=>absurd (Vh.2 (h f (by rw[←bq hf];simp))) c2⟩⟩ (by show m.aA.length-(j+1)<m.aA.length-j;omega) rfl ?_;exact(.get rfl (af.refl _) (.get rfl (af.int (by show(_:Int)=((j+1:Nat):Int);omega)) ((.keep 25 rfl rfl))))
  refine Z7 ?_;refine .round (j+1,gl,l) ⟨by show j+1≤_;omega,by(show l.length≤j+1;omega),by(show l=[]↔_;rw[hv,←bq hf];have h9:=Vh.1 (Classical.not_not.1 c2);constructor;intro h g hg;rcases List.mem_append.1 hg with hg|hg;exact h g hg;(simp only[List.mem_singleton] at hg;subst hg;exact h9);intro h g hg;exact h g (List.mem_append_left _ hg))⟩ (by show m.aA.length-(j+1)<m.aA.length-j;omega) rfl ?_;exact(.get rfl (af.refl _) (.get rfl (af.int (by show(_:Int)=((j+1:Nat):Int);omega)) ((.keep 17 rfl rfl))))
 have hall:m.aA.take j=m.aA:=List.take_of_length_le (by omega);rw[hall] at hv;refine .eB (t:=5) (i:=0) (g:=gl) (xs:=l) rfl rfl ?_;refine dN ?_;refine Post.aR rfl (l) (by exact⟨fun h=>⟨hfits,hv.1 h⟩,fun h=>hv.2 h.2⟩) (fun _ _ _ h=>h) (.rt rfl) ?_;exact af.refl _
theorem G4(az:lI m)(hp1:m.aA.length≤60000):cv Tryz.prog 78 [bT (bf m)] [] (γ:=List UInt8×Int×Int×Int) (fun _=>True) (fun _=>[]) (fun y=>bE [aC (qM y),ak (¬j8 m)]):=by
 refine In 14 Tryz.func78 fun _ _ _=>?_;refine Z2 ?_;refine .n (au FZ.out) rfl fun b2 _=>?_;refine Z6 ?_;refine .n (cE (h:=Nn az hp1)) rfl fun g6 h6=>?_;refine cc ?_;refine Cd (fun c0=>?_) fun c0=>?_
 ·
  have hv:j8 m:=h6.1 (List.eq_nil_of_length_eq_zero (by omega));refine Z9 ?_;refine Post.bk rfl rfl (([],0,0,0)) (by trivial) (aB.dF [] [0] rfl rfl) rfl (.cons (.ra (i:=0) FA.out FC.out rfl rfl rfl rfl) ?_ (.cons (.rt rfl) ?_ .nil))
  · exact af.agg (.cons rG (.cons (af.refl _) (.cons (af.refl _) (.cons (af.refl _) .nil))))
  exact af.prop ⟨fun h=>h.elim,fun h=>absurd hv h⟩
 have hne:g6≠[]:=fun e=>c0 (by rw[e];rfl);have hv:¬j8 m:=fun h=>hne (h6.2 h);obtain⟨y,hy⟩:=ah (xs:=g6) (k:=0) (List.length_pos_iff.2 hne);refine Z5 ?_;refine .p (cI 0 (h:=hy)) rfl ?_;refine Z6 ?_;refine Post.bk rfl rfl (y) (by trivial) (aB.dF [] [0] rfl rfl) rfl (.cons (.ra (i:=0) FA.out FC.out rfl rfl rfl rfl) ?_ (.cons (.rt rfl) ?_ .nil))
 · exact af.refl _
 exact af.prop ⟨fun _=>hv,fun _=>trivial⟩
theorem AS(az:lI m)(hp1:m.aA.length≤60000):cv Tryz.prog 35 [bT (bf m)] [] (γ:=Unit) (fun _=>True) (fun _=>[]) (fun _=>ak (j8 m)):=by
 refine In 12 Tryz.func35 fun _ _ _=>?_;refine Z8 ?_;refine .n (cE (h:=G4 az hp1)) rfl fun g7 h7=>?_;refine Z3 ?_;refine .n (au FZ.out) rfl fun b3 _=>?_;refine Z4 ?_;refine .share (t:=3) (i:=0) rfl rfl ?_;refine Z8 ?_;refine bB ?_;exact af.prop Classical.not_not
variable {X:ox} {num:Int} {a:ej}
theorem yc{pg:tF}{mm:Nat}{Co:Cont}(az:dy X a)(hp1:nM m)(hp2:lI m)(fI:m.aA.length≤60000)(oe:j8 m)(yH:a.height+(lp m+B3 m)≤X.size)(Q0:0≤num)(R7:num≤1073741824)(X7:mm+AV m m.bl.length≤4096):cv Tryz.prog 11 [bT (bf m),aD X.ab 0,aD pg.pb 0,ag .i64 num] (eW X a++[eE pg 64 4096 (fun _=>True) (Co) (mm) yl]) (γ:=Nat×List Nat×Nat×Nat×Int) (fun r=>r.2.1.length=m.bz.length∧od m r.2.2) (fun r=>jl pg.pb r.2.1 (B5 m num m.bz.length)::lB r.1 X pg.pb m num (a.height:Int) ((a.height+lp m:Nat):Int) (ai 1 eG r.2.1)::eW X (vK m a r.2.2.1)++[eE pg 64 4096 (fun _=>True) (sr m num Co r.2.2.2.1) (mm+AV m m.bl.length) yl]) (fun r=>bE [aD r.1 0,ag .i64 r.2.2.2.2,ag .i64 0]):=by
 refine In 58 Tryz.func11 fun _ _ _=>?_;have Em:=hp1.r1;have Dw:=hp1.r2;have hkh:=az.hi;have hkm:=az.most
 have hRo:dy X (lW a m):=sn (sn az (by omega)) (by simp only;omega);have hGo:=sq (m:=m) (g:=a.height) hRo m.an.length (by omega);refine dN ?_;refine .p (cm FU.out (.t rfl)) rfl ?_;refine Z2 ?_;refine .g (bU.gF rfl rfl rfl rfl (fun hg=>cm FU.out (.when (.t rfl) hg))) rfl rfl ?_;refine Z4 ?_;refine Cd (fun c0=>?_) fun c0=>?_
 · exact(c0.elim id id).elim
 refine Z3 ?_;refine .n (cE (h:=AS hp2 fI)) rfl fun g24 Hy=>?_;refine Z4 ?_;refine Cd (fun c1=>?_) fun c1=>?_
 · exact absurd oe c1
 refine cc ?_;refine CT fun c2=>?_;refine Z9 ?_;refine .p ((aN FP.out FZ.out (.cons (.t rfl) (.cons (.t rfl) (.cons (.t rfl) (.cons (.t rfl) .nil)))) rfl).le ((by exact show af _ (aC [bT (bf m),aD X.ab 0,aD pg.pb 0,ag .i64 num,ag .i64 0,ag .i64 0,aa (.slice none 0 0),ak False]) from af.agg (.cons (.refl _) (.cons (.refl _) (.cons (.refl _) (.cons (.refl _) (.cons (.refl _) (.cons (.refl _) (.cons (.refl _) (.cons lP .nil))))))))))) rfl ?_;refine .n (bW (.t rfl)) rfl fun b38 _=>?_;refine Z7 ?_;refine .n (cE (h:=GM az hp1 yH)) rfl fun xo Wk=>?_;refine Z9 ?_;refine CT fun c3=>?_;refine Z5 ?_;refine .n (cE (h:=JB (a:=lW a m) (g:=a.height) hRo hp1 (by omega) Q0 R7)) rfl fun Ei Wg=>?_;refine Z2 ?_;refine .dO (i:=1) (j:=1) (f:=6) rfl rfl rfl ?_;refine Z3 ?_;refine .n (kL [_,_] [0,1,2,3,6,4,5] (h:=JD (a:=Iu m a.height (lW a m) m.an.length) (t0:=a.height+lp m) (mm:=mm) (Co:=Co) hGo hp1 (by omega) Wg Q0 X7)) rfl fun M6 h48=>?_;refine jb ?_;refine CT fun c4=>?_;refine dN ?_;refine Post.bk rfl rfl ((b38,Ei.2,M6)) (by exact⟨Wg,h48⟩) (aB.trans (aB.perm (Perm.idx [0,1,2,3,5,6,4] rfl rfl)) (aB.cons _ (aB.cons _ (B4 (X:=X) (a:=vK m a M6.1) (DJ az hp1 yH M6.1).2.taken)))) rfl (.cons (.rt rfl) ?_ (.cons (.rt rfl) ?_ (.cons (.rt rfl) ?_ .nil)))
 · exact .z
 · exact .z
 exact .z
variable {pb:Nat}
theorem JZ(az:lI m)(hp1:m.aA.length≤60000)(hp2:¬j8 m):cQ Tryz.prog 11 [bT (bf m),aD X.ab 0,aD pb 0,ag .i64 num] (bE [Lm,ag .i64 0,ag .i64 5]):=by
 refine In 58 Tryz.func11 fun _ _ _=>?_;refine dN ?_;refine .p (cm FU.out (.t rfl)) rfl ?_;refine Z2 ?_;refine .g (bU.gF rfl rfl rfl rfl (fun hg=>cm FU.out (.when (.t rfl) hg))) rfl rfl ?_;refine Z4 ?_;refine Cd (fun c0=>?_) fun c0=>?_
 · exact(c0.elim id id).elim
 refine Z3 ?_;refine .n (cE (h:=AS az hp1)) rfl fun g24 Hy=>?_;refine Z4 ?_;refine Cd (fun c1=>?_) fun c1=>?_
 ·
  refine cD ?_;refine LI ?_ ?_ ?_
  · exact af.refl _
  · exact af.refl _
  exact af.refl _
 exact(c1 hp2).elim
variable {sb:Nat}
theorem vS{t:Int}{g:Nat}{mv:VP}(az:i<m.an.length)(hp1:dy X a)(hp2:g+8*(i+1)≤X.size)(fI:m.an.length≤60000):cv Tryz.prog 32 [aD sb 0,ag .i64 (i:Int)] (lB sb X pb m num (g:Int) t mv::pP X a) (γ:=Unit) (fun _=>True) (fun _=>lB sb X pb m num (g:Int) t mv::pP X a) (fun _=>bE [ag .u64 (ry ((a.bytes.drop (g+8*i)).take 8):Int),ag .i64 0]):=by
 refine In 29 Tryz.func32 fun _ _ _=>?_;have hmo:=hp1.most;refine dN ?_;refine .p (vm (.t rfl)) rfl ?_;refine .n ((cE (h:=z6 (sb:=sb) (X:=X) (pb:=pb) (m:=m) (num:=num) (g:=(g:Int)) (t:=t) (mv:=mv) (i:=(i:Int)) (by omega) (by omega))).same (fun _ _=>aB.refl _) (fun _ _=>af.refl _)) rfl fun _ _=>?_;refine Z9 ?_;refine CT fun c0=>?_;refine Z3 ?_;refine .bP [(0,0),(1,0),(2,0),(3,1),(4,0),(5,0),(6,0),(7,1),(8,0),(9,0),(10,0),(11,4),(12,0),(13,0)] 14 2 FM.out (by kernel_rfl) (k:= ?_);refine cD ?_;refine .p rfl (fun _=>(eU (.t rfl) (.t rfl) ee).le (af.int (show _=((g+8*i:Nat):Int) by omega))) ?_;refine .a rfl ((kL [_] [1,2,0] (h:=B7 (at_:=g+8*i) (w:=8) hp1 (by omega) (.inl rfl))).same (fun _ _=>aB.perm (Perm.idx [2,0,1] rfl rfl)) (fun _ _=>af.refl _)) (fun _ _=>aB.refl _) fun _ _=>?_;refine Z2 ?_;refine .fin ?_;refine Z5 ?_;refine j4 ?_ ?_
 · exact .z
 exact .z
theorem yd{pg:tF}{g0 t0 mm nn:Nat}{bs:List Nat}{ms:List A1}{Co:Cont}{s:N2}(az:dy X a)(hp1:m.an.length≤60000)(hp2:fq m≤1000)(fI:g0+8*m.an.length≤X.size)(oe:t0+4*fq m≤X.size)(yH:s.gl.length=m.an.length)(Q0:s.tb.length=fq m)(R7:Bh a g0 t0 s)(X7:Gw ms s.ms Co nn)(hp9:bs.length=ms.length)(aq9:ms.length≤60000)(bB9:nn≤5000):cv Tryz.prog 26 [aD sb 0,aC (oP s)] (jl pg.pb bs ms::lB sb X pg.pb m num (g0:Int) (t0:Int) (ai 1 eG bs)::pP X a++[eE pg 64 4096 (fun _=>True) Co mm yl]) (γ:=Unit) (fun _=>True) (fun _=>(jl pg.pb bs ms::lB sb X pg.pb m num (g0:Int) (t0:Int) (ai 1 eG bs)::pP X a++[eE pg 64 4096 (fun _=>True) Co mm yl])) (fun _=>ag .i64 0):=by
 refine In 189 Tryz.func26 fun _ _ _=>?_;have Cy:=X7.len;refine BE ?_;refine .aS (σ:=Nat) (fun _=>(jl pg.pb bs ms::lB sb X pg.pb m num (g0:Int) (t0:Int) (ai 1 eG bs)::pP X a++[eE pg 64 4096 (fun _=>True) Co mm yl])) (fun i=>[(6,ag .i64 (i:Int)),(5,ag .i64 0)]) (fun i=>i≤s.gl.length) (fun i=>s.gl.length-i) 0 (Nat.zero_le _) rfl ?_ ?_
 · exact(.get rfl (af.refl _) (.get rfl (af.refl _) (.refl _ _)))
 rintro i hi;refine cD ?_;refine Cd (fun c0=>?_) fun c0=>?_
 ·
  obtain⟨v,hv⟩:=ah (xs:=s.gl) (k:=i) (by omega);have hgv:=R7.gl i v hv;unfold ej.get at hgv;refine Z8 ?_;refine .n ((kL [_,_] [1,2,3,0,4] (h:=vS (a:=a) (m:=m) (g:=g0) (i:=i) (by omega) az (by omega) hp1)).same (fun _ _=>aB.perm (Perm.idx [3,0,1,2,4] rfl rfl)) (fun _ _=>af.refl _)) rfl fun _ _=>?_;refine jP ?_;refine .p (cI i (h:=hv)) rfl ?_;refine Z8 ?_;refine CT fun c1=>?_;refine Z8 ?_;refine .round (i+1) (by omega) (by omega) rfl ?_;exact(.get rfl (af.int (by(show(i:Int)+1=((i+1:Nat):Int);omega))) (.get rfl (af.refl _) ((.keep 29 rfl rfl))))
 have hie:i=s.gl.length:=by omega
 subst hie;refine dN ?_;refine .aS (σ:=Nat) (fun _=>(jl pg.pb bs ms::lB sb X pg.pb m num (g0:Int) (t0:Int) (ai 1 eG bs)::pP X a++[eE pg 64 4096 (fun _=>True) Co mm yl])) (fun i=>[(9,ag .i64 (i:Int)),(5,ag .i64 0)]) (fun i=>i≤s.tb.length) (fun i=>s.tb.length-i) 0 (Nat.zero_le _) rfl ?_ ?_
 · exact(.get rfl (af.refl _) (.get rfl (af.refl _) (.refl _ _)))
 rintro i hi;refine cD ?_;refine Cd (fun c2=>?_) fun c2=>?_
 ·
  obtain⟨v,hv⟩:=ah (xs:=s.tb) (k:=i) (by omega);have htv:=R7.tb i v hv;unfold ej.get at htv;have hvl:=Gx (a.bytes.drop (t0+4*i));refine Z8 ?_;refine .n ((kL [_,_] [1,2,3,0,4] (h:=Gz (a:=a) (m:=m) (t0:=t0) (i:=i) (by omega) az (by omega))).same (fun _ _=>aB.perm (Perm.idx [3,0,1,2,4] rfl rfl)) (fun _ _=>af.refl _)) rfl fun _ _=>?_;refine BE ?_;refine .g (bU.gF rfl rfl rfl rfl (fun hg=>aP (j:=i) FU.out FC.out rfl (.when (.t rfl) hg) (.when (.t rfl) hg) rfl hv)) rfl rfl ?_;refine Z2 ?_;refine .g (bU.gF rfl rfl rfl rfl (fun hg=>N9 FU.out (.when (.t rfl) hg) (.when (.t rfl) hg))) rfl rfl ?_;refine Z8 ?_;refine .g (bU.hT rfl rfl rfl rfl (fun hg=>aP (j:=i) FU.out FC.out rfl (.when (.t rfl) hg) (.when (.t rfl) hg) rfl hv)) rfl rfl ?_;refine Z7 ?_;refine Cd (fun c3=>?_) fun c3=>?_
  · exfalso;by_cases WE:(ry ((a.bytes.drop (t0+4*i)).take 4))=0<;>simp[WE] at c3 htv<;>omega
  refine Z8 ?_;refine .round (i+1) (by omega) (by omega) rfl ?_;exact(.get rfl (af.int (by(show(i:Int)+1=((i+1:Nat):Int);omega))) (.get rfl (af.refl _) ((.keep 45 rfl rfl))))
 have hie:i=s.tb.length:=by omega
 subst hie;refine Z8 ?_;refine .n ((cE (h:=GA (ms:=ms) (bs:=bs) hp9 aq9)).same (fun _ _=>aB.refl _) (fun _ _=>af.refl _)) rfl fun _ _=>?_;refine jb ?_;refine Cd (fun c4=>?_) fun c4=>?_
 · exfalso;have rC:(MW ms).length=ms.length:=(by simp[MW]);omega
 refine Z9 ?_;refine .aS (σ:=Nat) (fun _=>(jl pg.pb bs ms::lB sb X pg.pb m num (g0:Int) (t0:Int) (ai 1 eG bs)::pP X a++[eE pg 64 4096 (fun _=>True) Co mm yl])) (fun i=>[(14,ag .i64 (i:Int)),(5,ag .i64 0)]) (fun i=>i≤s.ms.length) (fun i=>s.ms.length-i) 0 (Nat.zero_le _) rfl ?_ ?_
 · exact(.get rfl (af.refl _) (.get rfl (af.refl _) (.refl _ _)))
 rintro i hi;refine cD ?_;refine Cd (fun c5=>?_) fun c5=>?_
 ·
  obtain⟨r,hr⟩:=ah (xs:=s.ms) (k:=i) (by omega);obtain⟨M,hM⟩:=ah (xs:=ms) (k:=i) (by omega);obtain⟨b,hb⟩:=ah (xs:=bs) (k:=i) (by omega);have hS:=X7.all i M r hM hr;have hpg:=Qa hM;have RX:=hS.pages;have hpf:=hS.iQ.tG;refine Z8 ?_;refine .n ((kL [_,_,_,_] [1,0,2,3,4] (h:=MX (bs:=bs) (i:=i) (b:=b) hb)).same (fun _ _=>aB.perm (Perm.idx [1,0,2,3,4] rfl rfl)) (fun _ _=>af.refl _)) rfl fun _ _=>?_;refine Z9 ?_;refine .br 13 2 FM.out (by kernel_rfl) (k:= ?_);refine Z5 ?_;refine .cons (bU.gF rfl rfl rfl rfl (fun hg=>aP (j:=i) FU.out FC.out rfl (.when (.t rfl) hg) (.when (.t rfl) hg) rfl hpg)) ?_;refine Z4 ?_;refine .cons (bU.gF rfl rfl rfl rfl (fun hg=>aP (j:=i) FU.out FC.out rfl (.when (.t rfl) hg) (.when (.t rfl) hg) rfl hr)) ?_;refine Z7 ?_;refine Cd (fun c6=>?_) fun c6=>?_
  · exfalso;simp at c6;omega
  refine Z8 ?_;refine .aS (σ:=Nat) (fun _=>(jl pg.pb bs ms::lB sb X pg.pb m num (g0:Int) (t0:Int) (ai 1 eG bs)::pP X a++[eE pg 64 4096 (fun _=>True) Co mm yl])) (fun k=>[(17,ag .i64 (k:Int)),(5,ag .i64 0)]) (fun k=>k≤r.iQ.length) (fun k=>r.iQ.length-k) 0 (Nat.zero_le _) rfl ?_ ?_
  · exact(.get rfl (af.refl _) (.get rfl (af.refl _) (.refl _ _)))
  rintro k hk;refine Z7 ?_;refine .p (cI i (h:=hr)) rfl ?_;refine Z9 ?_;refine Cd (fun c7=>?_) fun c7=>?_
  ·
   obtain⟨y,hy⟩:=ah (xs:=r.iQ) (k:=k) (by omega);have Oh:=List.mem_of_getElem? hy;have O6:=hS.iQ.len y Oh;have YV:=hS.iQ.fit y Oh;have hyp:=hS.iQ.pages;have hld:=hS.load Oh;have hrd:=hS.read y.1 y.2.length;refine Z9 ?_;refine .p (cI i (h:=hr)) rfl ?_;refine Z3 ?_;refine .p (cI k (h:=hy)) rfl ?_;refine .p (bp.le (mX FA.out FC.out rfl (.t rfl) rfl) (af.refl (aC (sD y)))) rfl ?_;refine .n (au FZ.out) rfl fun b18 _=>?_;refine Z3 ?_;refine .share (t:=18) (i:=0) rfl rfl ?_;refine Z1 ?_;refine .own (zS hb hM) ?_;refine Z7 ?_;refine .n (kL [_,_,_,_] [0,5,1,2,3,4] (h:=I9 (mb:=b) (mm:=M) (X:=pg) (z:=64) (q:=4096) (m:=mm) (T:=fun _=>True) (C:=Co) (R:=yl) (a:=y.1) (o:=0) (n:=(y.2.length:Int)) (C3 _) (by decide) (by decide) hS.ok (by omega) (by decide))) rfl fun bC0 bC1=>?_;refine Z9 ?_;refine .own (aB.perm (Perm.idx [0,2,3,4,5,1] rfl rfl)) ?_;refine .own (Dg hb hM) ?_;refine Z1 ?_;refine .br 21 2 FM.out (by kernel_rfl) (k:= ?_);refine dN ?_;refine .cons (bU.gF rfl rfl rfl rfl (fun hg=>aP (j:=i) FU.out FC.out rfl (.when (.t rfl) hg) (.when (.t rfl) hg) rfl hr)) ?_;refine .cons (bU.gF rfl rfl rfl rfl (fun hg=>bp.le (mX FA.out FC.out rfl (.when (.t rfl) hg) rfl) (af.refl (aC (fN r))))) ?_;refine Z5 ?_;refine .cons (bU.gF rfl rfl rfl rfl (fun hg=>bA (Jz (r:=r) (a:=y.1) (n:=y.2.length) (by omega) (by omega) hS.iQ.len O6) FB.out (.cons (.when (.t rfl) hg) (.cons (.when (.t rfl) hg) (.cons (.when (.t rfl) hg) .nil))))) ?_;refine Z6 ?_;refine Cd (fun c8=>?_) fun c8=>?_
   · exfalso;simp[hld,hrd] at c8
   refine Z8 ?_;refine .round (k+1) (by omega) (by omega) rfl ?_;exact(.get rfl (af.int (by(show(k:Int)+1=((k+1:Nat):Int);omega))) (.get rfl (af.refl _) ((.keep 65 rfl rfl))))
  have hke:k=r.iQ.length:=by(simp only[and_true] at c7;omega)
  subst hke;refine cc ?_;refine .round (i+1) (by omega) (by omega) rfl ?_;exact(.get rfl (af.int (by(show(i:Int)+1=((i+1:Nat):Int);omega))) (.get rfl (af.refl _) ((.keep 48 rfl rfl))))
 have hie:i=s.ms.length:=by omega
 subst hie;refine dN ?_;refine bB ?_;exact .z
theorem No(az:nM m)(hp1:m.bl.length≤4000):cv Tryz.prog 21 [aC (bf m)] [] (γ:=Nat×Nat×Int) (fun r=>od m r) (fun _=>[]) (fun r=>bE [aC (oP (lG m r.1 r.2.1)),ag .i64 r.2.2]):=by
 refine In 121 Tryz.func21 fun _ _ _=>?_;have V7:=az.gl;have hml:=az.ml;have KP:=az.ll;have Hw:=az.dl;have htb:=az.r2.2.2
 have htn:(max m.Table 0)=((fq m:Nat):Int):=by unfold fq;omega
 refine Z3 ?_;refine .n (au FZ.out) rfl fun b2 _=>?_;refine Z5 ?_;refine .n (au FZ.out) rfl fun b4 _=>?_;refine Z9 ?_;refine .own (tH (n:=1) (enc:=dh)) ?_;refine .aS (σ:=SB×Nat) (fun q=>[av q.1 1 dh ((m.an.map (·.Value)).take q.2),ax b4 [aa (bt q.1 ((m.an.map (·.Value)).take q.2).length),aa (.slice none 0 0),aa (.slice none 0 0)],ax b2 [aa (.slice none 0 0),aa (.slice none 0 0),aa (.slice none 0 0)]]) (fun q=>[(5,ag .i64 (q.2:Int))]) (fun q=>q.2≤m.an.length) (fun q=>m.an.length-q.2) (none,0) (Nat.zero_le _) rfl ?_ ?_
 · exact(.get rfl (af.refl _) (.refl _ _))
 rintro⟨s1,k⟩ hk;simp only at hk ⊢;refine cD ?_;refine Cd (fun c0=>?_) fun c0=>?_
 ·
  obtain⟨z,hz⟩:=ah (xs:=m.an) (k:=k) (by omega);have XO:(m.an.map (·.Value))[k]?=some z.Value:=by rw[List.getElem?_map,hz];rfl
  refine Z4 ?_;refine .br 9 3 FM.out (by kernel_rfl) (k:= ?_);refine Z5 ?_;refine .p (cI k (h:=hz)) ?_;refine Z2 ?_;refine .p (cB dh [z.Value]) ?_;refine Z1 ?_;refine .n (aF (i:=0) (xs:=((m.an.map (·.Value)).take k)) (ys:=[z.Value]) FU.out FU.out FC.out rfl FZ.out rfl FY.out (.t rfl) (.t rfl) rfl (by rw[List.length_take];simp only[List.length_cons,List.length_nil];omega) (by rw[List.length_take];simp only[List.length_cons,List.length_nil];omega)) rfl fun Wa _=>?_;refine cD ?_;refine .round (Wa,k+1) (by show k+1≤_;omega) (by show m.an.length-(k+1)<m.an.length-k;omega) (by simp only[←bq XO];try rfl) ?_;exact(.get rfl (af.int (by(show(k:Int)+1=((k+1:Nat):Int);omega))) ((.keep 20 rfl rfl)))
 have hke:k=m.an.length:=by omega
 subst hke;rw[show(m.an.map (·.Value)).take m.an.length=(m.an.map (·.Value)) from List.take_of_length_le (by simp)];refine Z6 ?_;refine .dO (i:=0) (j:=0) (f:=0) rfl rfl rfl ?_;refine Z4 ?_;refine .n (LF (enc:=dc) ((0:Int)) FU.out FC.out FY.out FZ.out rfl (af.refl _) (.t rfl) htn (by omega) (by omega)) rfl fun _ _=>?_;refine cc ?_;refine .own (tH (n:=3) (enc:=fN)) ?_;refine .aS (σ:=SB×Nat) (fun q=>[av q.1 3 fN ((m.bz.map Gu).take q.2),ax b4 [ai 1 dh (m.an.map (·.Value)),ai 1 dc (List.replicate (fq m) (0:Int)),aa (bt q.1 ((m.bz.map Gu).take q.2).length)],ax b2 [aa (.slice none 0 0),aa (.slice none 0 0),aa (.slice none 0 0)]]) (fun q=>[(6,ag .i64 (q.2:Int))]) (fun q=>q.2≤m.bz.length) (fun q=>m.bz.length-q.2) (none,0) (Nat.zero_le _) rfl ?_ ?_
 · exact(.get rfl (af.refl _) (.refl _ _))
 rintro⟨s1,k⟩ hk;simp only at hk ⊢;refine cD ?_;refine Cd (fun c1=>?_) fun c1=>?_
 ·
  obtain⟨z,hz⟩:=ah (xs:=m.bz) (k:=k) (by omega);have XO:(m.bz.map Gu)[k]?=some (Gu z):=by rw[List.getElem?_map,hz];rfl
  have SL:=(KN az (List.mem_of_getElem? hz) (n:=0) (Int.le_refl _)).2.1;refine Z9 ?_;refine .p (cI k (h:=hz)) rfl ?_;refine Z5 ?_;refine .cut (σ:=Unit) (fun _=>[av s1 3 fN ((m.bz.map Gu).take k),ax b4 [ai 1 dh (m.an.map (·.Value)),ai 1 dc (List.replicate (fq m) (0:Int)),aa (bt s1 ((m.bz.map Gu).take k).length)],ax b2 [aa (.slice none 0 0),aa (.slice none 0 0),aa (.slice none 0 0)]]) (fun _=>[(7,ag .i64 (nN z:Int))]) (fun _=>True) ?_ ?_
  ·
   refine Z6 ?_;refine Cd (fun c2=>?_) fun c2=>?_
   ·
    refine Z3 ?_;refine .meet () trivial rfl (.get rfl (af.int (by unfold nN;rw[if_pos (by omega)];rfl)) (.keep 3 rfl rfl))
   refine Z1 ?_;refine .meet () trivial rfl (.get rfl (af.int (by unfold nN;rw[if_neg (by omega)];omega)) (.keep 2 rfl rfl))
  intro _ _;refine .br 11 3 FM.out (by kernel_rfl) (k:= ?_);refine Z5 ?_;refine .p (cI k (h:=hz)) ?_;refine Z1 ?_;refine .p ((mL FA.out (.t rfl)).le (af.int SL)) ?_;refine Z1 ?_;refine .p ((aN FP.out FZ.out (.cons (.t rfl) (.cons (.t rfl) .nil)) rfl).le ((by exact show af _ (aC (fN (Gu z))) from af.agg (.cons (.refl _) (.cons (.refl _) (.cons (aI _ _) .nil)))))) ?_;refine .p (cB fN [Gu z]) ?_;refine Z1 ?_;refine .n (aF (i:=0) (xs:=((m.bz.map Gu).take k)) (ys:=[Gu z]) FU.out FU.out FC.out rfl FZ.out rfl FY.out (.t rfl) (.t rfl) rfl (by rw[List.length_take];simp only[List.length_cons,List.length_nil];omega) (by rw[List.length_take];simp only[List.length_cons,List.length_nil];omega)) rfl fun Dr _=>?_;refine cD ?_;refine .round (Dr,k+1) (by show k+1≤_;omega) (by show m.bz.length-(k+1)<m.bz.length-k;omega) (by simp only[←bq XO];try rfl) ?_;exact(.get rfl (af.int (by(show(k:Int)+1=((k+1:Nat):Int);omega))) ((.keep 30 rfl rfl)))
 have hke:k=m.bz.length:=by omega
 subst hke;rw[show(m.bz.map Gu).take m.bz.length=(m.bz.map Gu) from List.take_of_length_le (by simp)];refine Z6 ?_;refine .dO (i:=0) (j:=0) (f:=2) rfl rfl rfl ?_;refine cc ?_;refine .own (tH (n:=2) (enc:=dS)) ?_;refine .aS (σ:=SB×Nat) (fun q=>[av q.1 2 dS (m.bw.take q.2),ax b4 [ai 1 dh (m.an.map (·.Value)),ai 1 dc (List.replicate (fq m) (0:Int)),ai 3 fN (m.bz.map Gu)],ax b2 [aa (.slice none 0 0),aa (.slice none 0 0),aa (.slice none 0 0)]]) (fun q=>[(8,aa (bt q.1 (m.bw.take q.2).length)),(9,ag .i64 (q.2:Int))]) (fun q=>q.2≤m.bw.length) (fun q=>m.bw.length-q.2) (none,0) (Nat.zero_le _) rfl ?_ ?_
 · exact(.get rfl (af.refl _) (.get rfl (af.refl _) (.refl _ _)))
 rintro⟨s1,k⟩ hk;simp only at hk ⊢;refine cD ?_;refine Cd (fun c3=>?_) fun c3=>?_
 ·
  obtain⟨z,hz⟩:=ah (xs:=m.bw) (k:=k) (by omega);refine Z4 ?_;refine .br 15 2 FM.out (by kernel_rfl) (k:= ?_);refine Z4 ?_;refine .p (cI k (h:=hz)) ?_;refine Z5 ?_;refine .p (cI k (h:=hz)) ?_;refine Z2 ?_;refine .p (bp.le (aN FP.out FZ.out (.cons (.t rfl) (.cons (.t rfl) .nil)) rfl) (af.refl (aC (dS z)))) ?_;refine .p (cB dS [z]) ?_;refine Z1 ?_;refine .n (aF (i:=0) (xs:=m.bw.take k) (ys:=[z]) FU.out FU.out FC.out rfl FZ.out rfl FY.out (.t rfl) (.t rfl) rfl (by rw[List.length_take];simp only[List.length_cons,List.length_nil];omega) (by rw[List.length_take];simp only[List.length_cons,List.length_nil];omega)) rfl fun g85 _=>?_;refine Z9 ?_;refine .round (g85,k+1) (by show k+1≤_;omega) (by show m.bw.length-(k+1)<m.bw.length-k;omega) (by simp only[←bq hz];try rfl) ?_;exact(.get rfl (af.of_eq (by simp only[←bq hz])) (.get rfl (af.int (by(show(k:Int)+1=((k+1:Nat):Int);omega))) ((.keep 27 rfl rfl))))
 have hke:k=m.bw.length:=by omega
 subst hke;rw[List.take_length];refine Z6 ?_;refine .eB (t:=8) (i:=0) rfl rfl ?_;refine cc ?_;refine .own (tH (n:=3) (enc:=eA)) ?_;refine .aS (σ:=SB×Nat) (fun q=>[av q.1 3 eA (m.bl.take q.2),ax b4 [ai 1 dh (m.an.map (·.Value)),ai 1 dc (List.replicate (fq m) (0:Int)),ai 3 fN (m.bz.map Gu)],ax b2 [aa (.slice none 0 0),aa (.slice none 0 0),aa (.slice none 0 0)]]) (fun q=>[(10,aa (bt q.1 (m.bl.take q.2).length)),(11,ag .i64 (q.2:Int))]) (fun q=>q.2≤m.bl.length) (fun q=>m.bl.length-q.2) (none,0) (Nat.zero_le _) rfl ?_ ?_
 · exact(.get rfl (af.refl _) (.get rfl (af.refl _) (.refl _ _)))
 rintro⟨s1,k⟩ hk;simp only at hk ⊢;refine cD ?_;refine Cd (fun c4=>?_) fun c4=>?_
 ·
  obtain⟨z,hz⟩:=ah (xs:=m.bl) (k:=k) (by omega);refine Z4 ?_;refine .br 21 2 FM.out (by kernel_rfl) (k:= ?_);refine Z4 ?_;refine .p (cI k (h:=hz)) ?_;refine Z5 ?_;refine .p (cI k (h:=hz)) ?_;refine Z5 ?_;refine .p (cI k (h:=hz)) ?_;refine Z2 ?_;refine .p (bp.le (aN FP.out FZ.out (.cons (.t rfl) (.cons (.t rfl) (.cons (.t rfl) .nil))) rfl) (af.refl (aC (eA z)))) ?_;refine .p (cB eA [z]) ?_;refine Z1 ?_;refine .n (aF (i:=0) (xs:=m.bl.take k) (ys:=[z]) FU.out FU.out FC.out rfl FZ.out rfl FY.out (.t rfl) (.t rfl) rfl (by rw[List.length_take];simp only[List.length_cons,List.length_nil];omega) (by rw[List.length_take];simp only[List.length_cons,List.length_nil];omega)) rfl fun ar0 _=>?_;refine Z9 ?_;refine .round (ar0,k+1) (by show k+1≤_;omega) (by show m.bl.length-(k+1)<m.bl.length-k;omega) (by simp only[←bq hz];try rfl) ?_;exact(.get rfl (af.of_eq (by simp only[←bq hz])) (.get rfl (af.int (by(show(k:Int)+1=((k+1:Nat):Int);omega))) ((.keep 33 rfl rfl))))
 have hke:k=m.bl.length:=by omega
 subst hke;rw[List.take_length];refine Z6 ?_;refine .eB (t:=10) (i:=0) rfl rfl ?_;refine Z1 ?_;refine .p (bp.le (gG (i:=0) FA.out FC.out rfl (.t rfl) rfl rfl) (af.refl (aC (oP (lG m 0 0))))) rfl ?_;refine Z2 ?_;refine .n (cE (h:=M5 az hp1)) rfl fun Vo ar1=>?_;refine Z7 ?_;refine Post.bk rfl rfl (Vo) (by exact ar1) (aB.dF [] [0,1] rfl rfl) rfl (.cons (.ra (i:=1) FA.out FC.out rfl rfl rfl rfl) ?_ (.cons (.rt rfl) ?_ .nil))
 · exact .z
 exact .z
theorem J1(az:lI m)(hp1:m.aA.length≤60000)(hp2:j8 m)(fI:num<0∨1073741824<num):cQ Tryz.prog 11 [bT (bf m),aD X.ab 0,aD pb 0,ag .i64 num] (bE [Lm,ag .i64 0,ag .i64 1]):=by
 refine In 58 Tryz.func11 fun _ _ _=>?_;refine dN ?_;refine .p (cm FU.out (.t rfl)) rfl ?_;refine Z2 ?_;refine .g (bU.gF rfl rfl rfl rfl (fun hg=>cm FU.out (.when (.t rfl) hg))) rfl rfl ?_;refine Z4 ?_;refine Cd (fun c0=>?_) fun c0=>?_
 · exact(c0.elim id id).elim
 refine Z3 ?_;refine .n (cE (h:=AS az hp1)) rfl fun g24 Hy=>?_;refine Z4 ?_;refine Cd (fun c1=>?_) fun c1=>?_
 · exact absurd hp2 c1
 refine cc ?_;refine CF fun c2=>?_;refine cD ?_;refine LI ?_ ?_ ?_
 · exact af.refl _
 · exact af.refl _
 exact af.refl _
theorem Np{Y:ox}{z q n:Nat}{a0:ej}(az:TM Y a0 a0 (aY z) 0)(hp1:0<n)(hp2:n≤64)(fI:z≤1024)(oe:q≤4096)(yH:a0.height+n*aY z≤Y.size):cv Tryz.prog 18 [aD Y.ab 0,aD sb 0,aU (n:Int)] (dB sb ⟨z,(q:Int),0,0,-1,false,[]⟩::eW Y a0) (γ:=tF×ej) (fun g=>g.1.Y=Y∧g.1.sb=sb∧g.1.n=n∧g.1.lo=a0.height∧g.1.hi=a0.height+n*aY z∧TM Y a0 g.2 (aY z) n∧C0 g.1 z q OU ⟨LZ a0.height (aY z) n,0,[],[],0,false⟩ g.2 ⟨z,(q:Int),0,0,-1,false,[]⟩ (oD z) 0) (fun g=>qw g.1 ⟨LZ a0.height (aY z) n,0,[],[],0,false⟩ g.2 ⟨z,(q:Int),0,0,-1,false,[]⟩) (fun g=>bE [aD g.1.pb 0,aU 0]):=by
 refine In 58 Tryz.func18 fun _ _ _=>?_;refine cc ?_;refine .p (cm FU.out (.t rfl)) rfl ?_;refine Z2 ?_;refine .g (bU.gF rfl rfl rfl rfl (fun hg=>cm FU.out (.when (.t rfl) hg))) rfl rfl ?_;refine Z4 ?_;refine Cd (fun c0=>?_) fun c0=>?_
 · exact(show False by simp at c0).elim
 refine cc ?_;refine CT fun c1=>?_;refine Z7 ?_;refine .n (uY xH aU) rfl fun m27 _=>?_;refine .n (uY xH aU) rfl fun m28 _=>?_;refine Z1 ?_;refine .n (bW (.t rfl)) rfl fun b30 _=>?_;refine Z3 ?_;refine .own (tH (n:=6) (enc:=q7)) ?_;refine .own (aB.perm (Perm.idx [1,0,2,3,4,5,6,7,8] rfl rfl)) ?_;refine Z8 ?_;refine .aS (σ:=SB×ej×Nat) (fun g=>ax b30 [aD Y.ab 0,aD sb 0,aa (bt g.1 (LZ a0.height (aY z) g.2.2).length),aU 0,aa (.map (some m27)),aa (.map (some m28)),aU 0,aa (.bool false)]::av g.1 6 q7 (LZ a0.height (aY z) g.2.2)::jL m28 xH aU ([]:List (bD×Int))::jL m27 xH aU ([]:List (bD×Int))::dB sb ⟨z,(q:Int),0,0,-1,false,[]⟩::eW Y g.2.1) (fun g=>[(32,aU (g.2.2:Int))]) (fun g=>TM Y a0 g.2.1 (aY z) g.2.2∧g.2.2≤n) (fun g=>n-g.2.2) (none,a0,0) ⟨az,Nat.zero_le _⟩ rfl ?_ ?_
 · exact(.get rfl (af.refl _) (.refl _ _))
 rintro⟨gb1,a1,j1⟩ ⟨X8,hj⟩;simp only at X8 hj ⊢;refine Z6 ?_;refine Cd (fun c2=>?_) fun c2=>?_
 ·
  have hj1:a0.height+(j1+1)*aY z≤Y.size:=Nat.le_trans (Nat.add_le_add_left (Nat.mul_le_mul_right _ (by omega)) _) yH;refine Z8 ?_;refine .n ((kL [_,_,_,_,_,_,_,_] [4,0,1,2,3,5,6,7,8] (h:=uv (s:=⟨z,(q:Int),0,0,-1,false,[]⟩))).same (fun _ _=>aB.perm (Perm.idx [1,2,3,4,0,5,6,7,8] rfl rfl)) (fun _ _=>af.refl _)) rfl fun _ _=>?_;refine .n (kL [_,_,_,_,_] [5,6,7,8,0,1,2,3,4] (h:=uq (X:=Y) (a:=a1) (n:=z) X8.ok)) rfl fun QT R4=>?_;refine Z7 ?_;obtain⟨a2,at2,e2⟩:=QT;obtain⟨HN,X9,hA2⟩:=X8.take (n:=z) (by omega) hj1 R4;simp only at HN X9 hA2;subst HN;subst X9;have hfl:=sW a0.height (aY z) j1;refine Z7 ?_;refine CT fun c3=>?_;refine Z7 ?_;refine .p (fK (i:=4) FA.out (.t rfl) rfl rfl) rfl ?_;refine Z1 ?_;refine .p ((aN FP.out FZ.out (.cons (.t rfl) .nil) rfl).le (af.agg (.cons (af.refl _) (.cons (.refl _) (.cons (.refl _) (.cons lP (.cons lP (.cons lP .nil)))))))) rfl ?_;refine .p (cB q7 [(⟨a0.height+j1*aY z,(0,0),false,false,false⟩:Fr)]) rfl ?_;refine .n (aF (i:=5) (xs:=LZ a0.height (aY z) j1) (ys:=[(⟨a0.height+j1*aY z,(0,0),false,false,false⟩:Fr)]) FU.out FU.out FC.out rfl FZ.out rfl FY.out (.t rfl) (.t rfl) rfl (by(simp only[sW,List.length_cons,List.length_nil];omega)) (by(simp only[sW,List.length_cons,List.length_nil];omega))) rfl fun Nf _=>?_;refine Z2 ?_;refine .s (jc (i:=4) FC.out (.t rfl) (.t rfl) rfl rfl) ?_;refine Z7 ?_;refine .own (aB.perm (Perm.idx [4,5,6,7,8,0,1,2,3] rfl rfl)) (bN.round (Nf,a2,j1+1) ⟨hA2,by(show j1+1≤n;omega)⟩ (by(show n-(j1+1)<n-j1;omega)) (by(simp only[OW];rfl)) ?_);exact(.get rfl (af.int (by(show(j1:Int)+1=((j1+1:Nat):Int);omega))) ((.keep 26 rfl rfl)))
 have hjn:j1=n:=by omega
 subst hjn;refine .gL 1 rfl (fun e=>by(have h9:=congrArg List.length e;rw[sW] at h9;simp at h9;omega)) fun fb cap TZ=>?_;subst TZ;refine jP ?_;refine Post.bk rfl rfl ((⟨b30,sb,fb,cap,m27,m28,j1,a0.height,a0.height+j1*aY z,Y⟩,a1)) (by exact⟨rfl,rfl,rfl,rfl,rfl,X8,RB hp1 hp2 fI oe X8 rfl rfl⟩) (aB.trans (aB.cells (.cons (.refl _) (.cons (.refl _) (.cons (af.of_eq (by rw[sW])) (.cons (.refl _) (.cons (.refl _) (.cons (.refl _) (.cons (.refl _) (.cons lP .nil))))))))) (aB.perm (Perm.idx [0,1,3,2,4,5,6,7,8] rfl rfl))) rfl (.cons (.rt rfl) ?_ (.cons (.rt rfl) ?_ .nil))
 · exact .z
 exact .z
theorem nj{fr:Int}:cv Tryz.prog 12 [aU fr] [] (γ:=tF) (fun _=>True) (fun X=>[eE X 64 4096 (fun _=>True) (oD 64) 0 yl]) (fun X=>aD X.pb 0):=by
 refine In 28 Tryz.func12 fun _ _ _=>?_;have U0:aY 64=64:=by decide
 refine Z7 ?_;refine .n (cE (h:=wW (n:=65536) (by decide))) rfl fun g10 h10=>?_;refine Z9 ?_;refine .n (cE (h:=Mp (n:=64) (cap:=4096) (by decide) (by decide) (by decide) (by decide))) rfl fun g14 yI=>?_;refine jP ?_;refine .p (Ex (.t rfl) (.c _)) rfl ?_;refine .p ((eU (.c _) (.t rfl) ee).le (af.int (show _=(((1+min (max fr 0) 63).toNat:Nat):Int) by omega))) rfl ?_;refine .n (cE (h:=Np (Y:=g10) (sb:=g14) (z:=64) (q:=4096) (n:=(1+min (max fr 0) 63).toNat) (a0:=⟨List.replicate 65536 0,0,0,[]⟩) (RD h10 (by decide)) (by omega) (by omega) (by decide) (by decide) (by(show 0+(1+min (max fr 0) 63).toNat*aY 64≤_);rw[h10,U0];omega))) rfl fun g24 Hy=>?_;refine Z7 ?_;obtain⟨X24,a24⟩:=g24;obtain⟨hX,hX2,hX1,hlo,hhi,hAT,hInv⟩:=Hy;simp only at hX hX2 hX1 hlo hhi hAT hInv;subst hX2;refine .own (RA hInv) ?_;refine .own (ve (T':=fun _=>True) fun _ _=>trivial) ?_;refine Z7 ?_;refine Post.aR rfl (X24) (by trivial) (fun _ _ _ h=>h) (.rt rfl) ?_;exact .z
theorem vT:cQ Tryz.prog 8 [] (ak True):=by
 refine In 45 Tryz.func8 fun _ _ _=>?_;refine Z7 ?_;refine .p ((aN FP.out FZ.out (.cons (.c _) (.cons (.c _) .nil)) rfl).le ((by exact show af _ (aC (dX ⟨127,False,5⟩)) from af.agg (.cons (.refl _) (.cons lP (.cons (.refl _) .nil)))))) rfl ?_;refine .p ((aN FP.out FZ.out (.cons (.c _) (.cons (.c _) .nil)) rfl).le ((by exact show af _ (aC (dX ⟨126,False,6⟩)) from af.agg (.cons (.refl _) (.cons lP (.cons (.refl _) .nil)))))) rfl ?_;refine .p (cB dX [⟨127,False,5⟩,⟨126,False,6⟩]) rfl ?_;refine .p ((aN FP.out FZ.out (.cons (.c _) (.cons (.c _) (.cons (.t rfl) .nil))) rfl).le ((by exact show af _ (aC (bf lD)) from af.agg (.cons (aI _ _) (.cons (aI _ _) (.cons (aI _ _) (.cons (.refl _) (.cons (aI _ _) (.cons (.refl _) (.cons (aI _ _) (.cons (.refl _) (.cons (aI _ _) (.cons (aI _ _) .nil))))))))))))) rfl ?_;refine Z6 ?_;refine .n (cE (h:=wW (n:=1000) (by decide))) rfl fun g15 Eo=>?_;refine cc ?_;refine .n (cE (h:=nj (fr:=2))) rfl fun g21 Ms=>?_;refine .n (kL [] [1,2,3,4,0] (h:=yc (a:=lE 1000) (m:=lD) (num:=0) (mm:=0) (Co:=oD 64) (Jr Eo (by decide)) K4 Sz (by decide) Jq (by rw[Eo];exact Gs) (by decide) (by decide) (by decide))) rfl fun g22 Wc=>?_;refine Z9 ?_;obtain⟨b22,bC2,r22⟩:=g22;obtain⟨Re,Q4⟩:=Wc;simp only at Re Q4;have hr:=P5 Q4;subst hr;refine Z3 ?_;refine .n ((kL [_,_,_,_] [1,2,3,0,4,5,6] (h:=vS (m:=lD) (a:=XJ) (g:=0) (i:=1) (by decide) (DJ (Jr Eo (by decide)) K4 (by rw[Eo];exact Gs) 0).1 (by rw[Eo];decide) (by decide))).same (fun _ _=>aB.perm (Perm.idx [3,0,1,2,4,5,6] rfl rfl)) (fun _ _=>af.refl _)) rfl fun _ _=>?_;refine Z1 ?_;refine .p ((lJ (.t rfl) rfl).le (af.int (show _=(6:Int) by rw[Nat.zero_add];exact congrArg Nat.cast XK))) rfl ?_;refine V2 ?_;refine bB ?_;exact af.prop (by simp)
theorem Bo{b:jJ}:cQ Tryz.prog 76 [aC (gw b)] (ag .i64 (sj b)):=by
 refine In 39 Tryz.func76 fun _ _ _=>?_;refine .fact (t:=0) rfl (fun S w v h=>Pe h) fun hlen=>?_;have j7:=hlen.locals;have kX:=hlen.l;refine Z29 ?_;refine .aS (σ:=Nat) (fun _=>[]) (fun k=>[(4,ag .i64 (k:Int)),(3,ag .i64 (max ((b.aW.length:Int)-60) 0+max ((b.L.length:Int)-150) 0+kK (oB b.L qB) k))]) (fun k=>k≤b.L.length∧k≤150) (fun k=>b.L.length-k) 0 ⟨by omega,by omega⟩ rfl ?_ ?_
 · exact(.get rfl (af.refl _) (.get rfl (af.int (by simp[kK])) (.refl _ _)))
 rintro k ⟨hk,hk2⟩;have hq:=lV (by omega) (wR hlen) k;refine jb ?_;refine Cd (fun c0=>?_) fun c0=>?_
 ·
  obtain⟨x,hx⟩:=ah (xs:=b.L) (k:=k) (by omega);have hxl:=hlen.all k x hx;refine Z9 ?_;refine .p (cI _) rfl ?_;refine kR ?_;refine .round (k+1) ⟨by omega,by omega⟩ (by omega) rfl ?_;exact(.get rfl (af.int (by omega)) (.get rfl (af.int (by rw[qA hx];unfold qB;omega)) (.keep 26 rfl rfl)))
 refine dN ?_;refine bB ?_;exact af.int (by unfold sj r9;rw[show min b.L.length 150=k by omega])
theorem J2{x:aT}:cQ Tryz.prog 31 [aC (bf x)] (ag .i64 (qC x)):=by
 refine In 204 Tryz.func31 fun _ _ _=>?_;refine .fact (t:=0) rfl (fun S w v h=>sk h) fun hlen=>?_;have hall:=hlen;obtain⟨⟨hl0,j7,kX,mG,mH,mI,mJ,mK⟩,⟨TY,hi1,hi2,SM,hi4⟩,PA⟩:=hlen;have hb:=pO hall;have hb0:=hb.n0;obtain⟨zk,Qb,Qp,hb4,hb5⟩:=zO hb;refine YZ ?_;refine V2 ?_;refine .aS (σ:=Nat) (fun _=>[]) (fun k0=>[(4,ag .i64 (k0:Int)),(3,ag .i64 (oZ x+kK (oB x.bQ Io) k0))]) (fun k0=>k0≤x.bQ.length∧k0≤60) (fun k0=>x.bQ.length-k0) 0 ⟨by omega,by omega⟩ rfl ?_ ?_
 · exact(.get rfl (af.refl _) (.get rfl (af.int (by simp only[kK];unfold oZ;omega)) (.refl _ _)))
 rintro k0 ⟨N1,hc0⟩;have Ks:=lV (by omega) hb.sig k0;refine jb ?_;refine Cd (fun c0=>?_) fun c0=>?_
 ·
  obtain⟨y,hx⟩:=ah (xs:=x.bQ) (k:=k0) (by omega);have hy1:=TY k0 y hx;refine Z4 ?_;refine .br 18 2 FM.out (by kernel_rfl) (k:= ?_);refine Z4 ?_;refine .p (cI _) ?_;refine Z6 ?_;refine .p (cI _) ?_;refine EX ?_;refine .round (k0+1) ⟨by omega,by omega⟩ (by omega) rfl ?_;exact(.get rfl (af.int (by omega)) (.get rfl (af.int (by rw[qA hx];unfold Io;omega)) (.keep 34 rfl rfl)))
 refine dN ?_;refine .aS (σ:=Nat) (fun _=>[]) (fun k1=>[(5,ag .i64 (k1:Int)),(3,ag .i64 (uf x+kK (oB x.aJ Ip) k1))]) (fun k1=>k1≤x.aJ.length∧k1≤25) (fun k1=>x.aJ.length-k1) 0 ⟨by omega,by omega⟩ rfl ?_ ?_
 · exact(.get rfl (af.refl _) (.get rfl (af.int (by simp only[kK];unfold uf r9;rw[show min x.bQ.length 60=k0 by omega];omega)) (.refl _ _)))
 rintro k1 ⟨CD,hc1⟩;have hq1:=lV (by omega) hb.imp k1;refine jb ?_;refine Cd (fun c1=>?_) fun c1=>?_
 ·
  obtain⟨y,hx⟩:=ah (xs:=x.aJ) (k:=k1) (by omega);have hy1:=hi1 k1 y hx;refine Z4 ?_;refine .br 18 2 FM.out (by kernel_rfl) (k:= ?_);refine Z4 ?_;refine .p (cI _) ?_;refine Z6 ?_;refine .p (cI _) ?_;refine EX ?_;refine .round (k1+1) ⟨by omega,by omega⟩ (by omega) rfl ?_;exact(.get rfl (af.int (by omega)) (.get rfl (af.int (by rw[qA hx];unfold Ip;omega)) (.keep 34 rfl rfl)))
 refine dN ?_;refine .aS (σ:=Nat) (fun _=>[]) (fun k2=>[(6,ag .i64 (k2:Int)),(3,ag .i64 (ug x+kK (oB x.aA V6) k2))]) (fun k2=>k2≤x.aA.length∧k2≤110) (fun k2=>x.aA.length-k2) 0 ⟨by omega,by omega⟩ rfl ?_ ?_
 · exact(.get rfl (af.refl _) (.get rfl (af.int (by simp only[kK];unfold ug r9;rw[show min x.aJ.length 25=k1 by omega];omega)) (.refl _ _)))
 rintro k2 ⟨hk2,VV⟩;have QO:=lV (by omega) hb.fn k2;refine jb ?_;refine Cd (fun c2=>?_) fun c2=>?_
 ·
  obtain⟨y,hx⟩:=ah (xs:=x.aA) (k:=k2) (by omega);have hy1:=hb.fn k2 y hx;unfold V6 at hy1;refine Z9 ?_;refine .p (cI _) rfl ?_;refine Z2 ?_;refine .p (cA (h:=Bo)) rfl ?_;refine cD ?_;refine .round (k2+1) ⟨by omega,by omega⟩ (by omega) rfl ?_;exact(.get rfl (af.int (by omega)) (.get rfl (af.int (by rw[qA hx];unfold V6;omega)) (.keep 24 rfl rfl)))
 refine dN ?_;refine .aS (σ:=Nat) (fun _=>[]) (fun k3=>[(7,ag .i64 (k3:Int)),(3,ag .i64 (uh x+kK (oB x.bK Iq) k3))]) (fun k3=>k3≤x.bK.length∧k3≤60) (fun k3=>x.bK.length-k3) 0 ⟨by omega,by omega⟩ rfl ?_ ?_
 · exact(.get rfl (af.refl _) (.get rfl (af.int (by simp only[kK];unfold uh r9;rw[show min x.aA.length 110=k2 by omega];omega)) (.refl _ _)))
 rintro k3 ⟨Iy,hc3⟩;have hq3:=lV (by omega) hb.exp k3;refine jb ?_;refine Cd (fun c3=>?_) fun c3=>?_
 ·
  obtain⟨y,hx⟩:=ah (xs:=x.bK) (k:=k3) (by omega);have hy1:=hi2 k3 y hx;refine Z9 ?_;refine .p (cI _) rfl ?_;refine kR ?_;refine .round (k3+1) ⟨by omega,by omega⟩ (by omega) rfl ?_;exact(.get rfl (af.int (by omega)) (.get rfl (af.int (by rw[qA hx];unfold Iq;omega)) (.keep 26 rfl rfl)))
 refine dN ?_;refine .aS (σ:=Nat) (fun _=>[]) (fun k4=>[(8,ag .i64 (k4:Int)),(3,ag .i64 (uj x+kK (oB x.bw zN) k4))]) (fun k4=>k4≤x.bw.length∧k4≤25) (fun k4=>x.bw.length-k4) 0 ⟨by omega,by omega⟩ rfl ?_ ?_
 · exact(.get rfl (af.refl _) (.get rfl (af.int (by simp only[kK];unfold uj r9;rw[show min x.bK.length 60=k3 by omega];omega)) (.refl _ _)))
 rintro k4 ⟨Eh,hc4⟩;have hq4:=lV (by omega) hb.elem k4;refine jb ?_;refine Cd (fun c4=>?_) fun c4=>?_
 ·
  obtain⟨y,hx⟩:=ah (xs:=x.bw) (k:=k4) (by omega);have hy1:=SM k4 y hx;refine Z9 ?_;refine .p (cI _) rfl ?_;refine kR ?_;refine .round (k4+1) ⟨by omega,by omega⟩ (by omega) rfl ?_;exact(.get rfl (af.int (by omega)) (.get rfl (af.int (by rw[qA hx];unfold zN;omega)) (.keep 26 rfl rfl)))
 refine dN ?_;refine .aS (σ:=Nat) (fun _=>[]) (fun k5=>[(9,ag .i64 (k5:Int)),(3,ag .i64 (uk x+kK (oB x.bl xN) k5))]) (fun k5=>k5≤x.bl.length∧k5≤25) (fun k5=>x.bl.length-k5) 0 ⟨by omega,by omega⟩ rfl ?_ ?_
 · exact(.get rfl (af.refl _) (.get rfl (af.int (by simp only[kK];unfold uk r9;rw[show min x.bw.length 25=k4 by omega];omega)) (.refl _ _)))
 rintro k5 ⟨RU,hc5⟩;have hq5:=lV (by omega) hb.data k5;refine jb ?_;refine Cd (fun c5=>?_) fun c5=>?_
 ·
  obtain⟨y,hx⟩:=ah (xs:=x.bl) (k:=k5) (by omega);have hy1:=hi4 k5 y hx;refine Z9 ?_;refine .p (cI _) rfl ?_;refine kR ?_;refine .round (k5+1) ⟨by omega,by omega⟩ (by omega) rfl ?_;exact(.get rfl (af.int (by omega)) (.get rfl (af.int (by rw[qA hx];unfold xN;omega)) (.keep 26 rfl rfl)))
 refine dN ?_;refine bB ?_;exact af.int (by unfold qC r9;rw[show min x.bl.length 25=k5 by omega])
theorem uH{l:List UInt8}(az:l.length≤65536):cQ Tryz.prog 33 [ai 1 aj l] (ai 1 aj l):=by
 refine In 19 Tryz.func33 fun _ _ _=>?_;refine EX ?_;refine .eC 1 aj ?_;refine .aS (σ:=Nat×SB) (fun s=>[av s.2 1 aj (l.take s.1)]) (fun s=>[(3,aa (bt s.2 (l.take s.1).length)),(4,ag .i64 (s.1:Int))]) (fun s=>s.1≤l.length) (fun s=>l.length-s.1) (0,none) (by simp) (by simp) ?_ ?_
 · exact(.get rfl (af.of_eq (by simp[bt])) (.get rfl (af.refl _) (.refl _ _)))
 rintro s hk;refine Z9 ?_;refine Cd (fun c0=>?_) fun c0=>?_
 ·
  obtain⟨x,hx⟩:=ah (xs:=l) (k:=s.1) (by omega);refine Z8 ?_;refine .p (cI _) rfl ?_;refine Z1 ?_;refine .p (cB aj [_]) rfl ?_;refine .n (aF (i:=0) FU.out FU.out FC.out rfl FZ.out rfl FY.out (.t rfl) (.t rfl) rfl (by first|omega|(simp<;>omega)) (by first|omega|(simp<;>omega))) rfl fun g17 _=>?_;refine Z9 ?_;refine .round (s.1+1,g17) (by omega) (by omega) (by simp only[bq hx];rfl) ?_;exact(.get rfl (af.of_eq (by simp only[bq hx])) (.get rfl (af.int (by omega)) (.keep 17 rfl rfl)))
 have hall:l.take s.1=l:=List.take_of_length_le (by omega);rw[hall];refine .eB (n:=1) (enc:=aj) (i:=0) (t:=3) rfl rfl ?_;refine dN ?_;refine bB ?_;exact .z
theorem J3{x:ay}(az:x.L.length≤65536):cQ Tryz.prog 108 [aC (aK x)] (aC (aK x)):=by
 refine In 16 Tryz.func108 fun _ _ _=>?_;refine Z3 ?_;refine .n (au FZ.out) rfl fun b2 _=>?_;refine Z3 ?_;refine .br 12 2 FM.out (by kernel_rfl) (k:= ?_);refine Z8 ?_;refine .p (kM FU.out FC.out rfl FZ.out rfl) ?_;refine Z2 ?_;refine .p (sQ FU.out FU.out FC.out rfl FZ.out rfl FY.out (.t rfl) (.t rfl) (by omega)) ?_;refine Z6 ?_;refine Post.aR rfl () trivial (fun _ _ _ _=>trivial) (.ra (i:=0) FA.out FC.out rfl rfl rfl rfl) ?_;exact .z
theorem D2{l:List ay}(az:l.length≤65536)(hp1:∀x∈l,x.L.length≤65536):cQ Tryz.prog 77 [ai 5 aK l] (ai 5 aK l):=by
 refine In 20 Tryz.func77 fun _ _ _=>?_;refine EX ?_;refine .eC 5 aK ?_;refine .aS (σ:=Nat×SB) (fun s=>[av s.2 5 aK (l.take s.1)]) (fun s=>[(3,aa (bt s.2 (l.take s.1).length)),(4,ag .i64 (s.1:Int))]) (fun s=>s.1≤l.length) (fun s=>l.length-s.1) (0,none) (by simp) (by simp) ?_ ?_
 · exact(.get rfl (af.of_eq (by simp[bt])) (.get rfl (af.refl _) (.refl _ _)))
 rintro s hk;refine Z9 ?_;refine Cd (fun c0=>?_) fun c0=>?_
 ·
  obtain⟨x,hx⟩:=ah (xs:=l) (k:=s.1) (by omega);have hxl:=hp1 x (List.mem_of_getElem? hx);refine Z8 ?_;refine .p (cI _) rfl ?_;refine Z1 ?_;refine .p (cA (h:=J3 (by first|assumption|omega))) rfl ?_;refine .p (cB aK [_]) rfl ?_;refine .n (aF (i:=0) FU.out FU.out FC.out rfl FZ.out rfl FY.out (.t rfl) (.t rfl) rfl (by first|omega|(simp<;>omega)) (by first|omega|(simp<;>omega))) rfl fun g18 _=>?_;refine Z9 ?_;refine .round (s.1+1,g18) (by omega) (by omega) (by simp only[bq hx];rfl) ?_;exact(.get rfl (af.of_eq (by simp only[bq hx])) (.get rfl (af.int (by omega)) (.keep 18 rfl rfl)))
 have hall:l.take s.1=l:=List.take_of_length_le (by omega);rw[hall];refine .eB (n:=5) (enc:=aK) (i:=0) (t:=3) rfl rfl ?_;refine dN ?_;refine bB ?_;exact .z
theorem J4{b:jJ}(az:Ii b):cQ Tryz.prog 34 [aC (gw b)] (aC (gw b)):=by
 refine In 10 Tryz.func34 fun _ _ _=>?_;refine Z3 ?_;refine .n (au FZ.out) rfl fun b2 _=>?_;refine Z3 ?_;refine .br 5 3 FM.out (by kernel_rfl) (k:= ?_);refine Z2 ?_;refine .p (cA (h:=uH (by have:=az.locals;omega))) ?_;refine Z3 ?_;refine .p (cA (h:=D2 (by have:=az.l;omega) (fun x hx=>by have:=az.all x hx;omega))) rfl ?_;refine Z5 ?_;refine Post.aR rfl () trivial (fun _ _ _ _=>trivial) (.ra (i:=0) FA.out FC.out rfl rfl rfl rfl) ?_;exact .z
theorem qR{x:aT}(az:wP x):cQ Tryz.prog 10 [aC (bf x)] (bT (bf x)):=by
 refine In 86 Tryz.func10 fun _ _ _=>?_;have hc1:=az.sigs;have VV:=az.funcs;refine V2 ?_;refine .n (bW (.t rfl)) rfl fun b23 _=>?_;refine cD ?_;refine .eC 2 bS ?_;refine .aS (σ:=Nat×SB) (fun s=>[av s.2 2 bS (x.bQ.take s.1),ax b23 (KH x (aa (bt s.2 (x.bQ.take s.1).length)) (aa (.slice none 0 0)))]) (fun s=>[(4,ag .i64 (s.1:Int))]) (fun s=>s.1≤x.bQ.length) (fun s=>x.bQ.length-s.1) (0,none) (by simp) rfl ?_ ?_
 · exact(.get rfl (af.refl _) (.refl _ _))
 rintro s hk;refine cD ?_;refine Cd (fun c0=>?_) fun c0=>?_
 ·
  obtain⟨y,hx⟩:=ah (xs:=x.bQ) (k:=s.1) (by omega);refine Z4 ?_;refine .bP [(0,0),(1,0),(2,0),(3,0),(4,1),(5,0),(6,0),(7,0),(8,0),(9,0),(10,0),(11,0),(12,0),(13,0),(14,0),(15,0),(16,0),(17,0),(18,0),(19,0),(20,0),(21,2)] 22 3 FM.out (by kernel_rfl) (k:= ?_);refine Z8 ?_;refine .p rfl (fun _=>aP FU.out FC.out rfl (.t rfl) (.t rfl) rfl (by assumption)) ?_;refine Z2 ?_;refine .p rfl (fun _=>bA (uH (by have:=az.sig y (List.mem_of_getElem? hx);omega)) FB.out (.cons (.t rfl) .nil)) ?_;refine Z3 ?_;refine .p rfl (fun _=>aP FU.out FC.out rfl (.t rfl) (.t rfl) rfl (by assumption)) ?_;refine Z2 ?_;refine .p rfl (fun _=>bA (uH (by have:=az.sig y (List.mem_of_getElem? hx);omega)) FB.out (.cons (.t rfl) .nil)) ?_;refine Z1 ?_;refine .p rfl (fun _=>bI (enc:=bS) [y] FU.out FC.out rfl FZ.out rfl (.cons (.t rfl) .nil) rfl rfl rfl rfl rfl) ?_;refine .e rfl (aF (i:=0) FU.out FU.out FC.out rfl FZ.out rfl FY.out (.t rfl) (.t rfl) rfl (by first|omega|(simp<;>omega)) (by first|omega|(simp<;>omega))) fun G5 _=>?_;refine .fin ?_;refine cc ?_;refine .round (s.1+1,G5) (by omega) (by omega) (by simp only[bq hx];rfl) ?_;exact(.get rfl (af.int (by omega)) (.keep 33 rfl rfl))
 have hall:x.bQ.take s.1=x.bQ:=List.take_of_length_le (by omega);rw[hall];refine .dO (n:=2) (enc:=bS) (i:=0) (j:=0) (f:=0) rfl rfl rfl ?_;refine dN ?_;refine .eC 3 fo ?_;refine .aS (σ:=Nat×SB) (fun s=>[av s.2 3 fo (x.aA.take s.1),ax b23 (KH x (ai 2 bS x.bQ) (aa (bt s.2 (x.aA.take s.1).length)))]) (fun s=>[(5,ag .i64 (s.1:Int))]) (fun s=>s.1≤x.aA.length) (fun s=>x.aA.length-s.1) (0,none) (by simp) rfl ?_ ?_
 · exact(.get rfl (af.refl _) (.refl _ _))
 rintro s hk;refine cD ?_;refine Cd (fun c1=>?_) fun c1=>?_
 ·
  obtain⟨y,hx⟩:=ah (xs:=x.aA) (k:=s.1) (by omega);refine Z4 ?_;refine .bP [(0,0),(1,0),(2,0),(3,0),(4,1),(5,0),(6,0),(7,0),(8,0),(9,0),(10,0),(11,0),(12,0),(13,0),(14,0),(15,0),(16,0),(17,0),(18,0),(19,0),(20,2)] 21 3 FM.out (by kernel_rfl) (k:= ?_);refine Z8 ?_;refine .p rfl (fun _=>aP FU.out FC.out rfl (.t rfl) (.t rfl) rfl (by assumption)) ?_;refine Z5 ?_;refine .p rfl (fun _=>aP FU.out FC.out rfl (.t rfl) (.t rfl) rfl (by assumption)) ?_;refine Z2 ?_;refine .p rfl (fun _=>bA (J4 (az.fn y (List.mem_of_getElem? hx))) FB.out (.cons (.t rfl) .nil)) ?_;refine Z1 ?_;refine .p rfl (fun _=>bI (enc:=fo) [y] FU.out FC.out rfl FZ.out rfl (.cons (.t rfl) .nil) rfl rfl rfl rfl rfl) ?_;refine .e rfl (aF (i:=0) FU.out FU.out FC.out rfl FZ.out rfl FY.out (.t rfl) (.t rfl) rfl (by first|omega|(simp<;>omega)) (by first|omega|(simp<;>omega))) fun Wn _=>?_;refine .fin ?_;refine cc ?_;refine .round (s.1+1,Wn) (by omega) (by omega) (by simp only[bq hx];rfl) ?_;exact(.get rfl (af.int (by omega)) (.keep 32 rfl rfl))
 have hall:x.aA.take s.1=x.aA:=List.take_of_length_le (by omega);rw[hall];refine .dO (n:=3) (enc:=fo) (i:=0) (j:=0) (f:=2) rfl rfl rfl ?_;refine .share (t:=3) (i:=0) rfl rfl ?_;refine dN ?_;refine bB ?_;exact .z
end Go.Proofs.YtpfobikpggmleaaGreatDoor
end
