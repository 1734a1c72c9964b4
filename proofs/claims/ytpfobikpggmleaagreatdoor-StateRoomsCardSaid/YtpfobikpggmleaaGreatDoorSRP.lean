/-
  What the statement's proof leans on, several texts in one (packed by a program).
-/
import Derived.Test.YtpfobikpggmleaaGreatDoorSRO
set_option linter.all false
set_option maxRecDepth 1000000
set_option maxHeartbeats 4000000
section
namespace Go.Hl
open Go.RowKit
section
variable {P:Program} {hs:List HP} {env:Env} {q:VP} {dst:Option Tmp} {ty T T' E:TypeId} {pos:String} {after:Array Edge} {gd:Option (Nat×Bool)} {x y z:Operand}
theorem FD {α:Type} {n N by_:Nat} {i:Int} {k:IntKind} {enc:α→List VP} {zs:List Value} (hT:P.underlying T=some (.slice E)) (Kq:P.underlying T'=some (.int k)) (hn:P.cellsOf E=N) (h0:Nat.blt 0 N=true)
    (hz:jL P E=some zs) (hzl:zs.length=N) (hb:P.bytesOf E=by_) (hx:bp env x (af (.slice none 0 0))) (hy:bp env y (ag .i64 i)) (hi:i=(n:Int)) (S6:0<n) (hroom:(2*n+256)*by_≤281474976710656) (hlen:n≤281474976710656):
    gL P hs env ⟨dst, .call ⟨.builtin .append, #[x,y], #[T,T']⟩,ty,pos,after,gd⟩ (γ:=Nat×Nat) (fun _=>True) (fun g=>av (some g) N enc ([]:List α)::hs) (fun g=>af (br (some g) n)):=by
  intro c a w S F aC hown oX K Q hk
  have hv:=hx S w a oX;simp only [af] at hv
  have yL:=hy S w a oX;simp only [af] at yL
  subst hi
  have hsz:=run_sizeOf hn h0 w
  obtain ⟨info,hi1,hi2⟩:=dO hn h0 w
  have hbytes:info.bytes=by_:=hi2.trans hb
  have hw:IntKind.i64.wrap (n:Int)=(n:Int):=eM (bN (by omega) (by omega))
  have M6:¬((n:Int)<0):=by omega
  have Kr:=nextslicecap_le (need:=n) (cap:=0) (by omega)
  have hcapB:Builtin.nextslicecap n 0*by_≤281474976710656:=Nat.le_trans (Nat.mul_le_mul_right _ Kr) hroom
  obtain ⟨zv',hz1',hz2'⟩:=gP hz w.drew
  obtain ⟨info',hi1',hi2'⟩:=dO hn h0 w.drew
  generalize v7:Question.cut (.appendCap n 0 E) (w.tape w.drawn (.appendCap n 0 E))=newCap
  have hge:n≤newCap:=by rw [←v7];simp only [Question.cut];omega
  have hN0:0<N:=by simpa using h0
  have hnN:¬(n*N=0):=Nat.mul_ne_zero (by omega) (by omega)
  let row:Array Value:=Builtin.zeroCells zv'.cells n++Builtin.zeroCells zv'.cells (newCap-n)
  have hr:(execOp a.eval ⟨dst, .call ⟨.builtin .append, #[x,y], #[T,T']⟩,ty,pos,after,gd⟩).run P w= .ok (.value (.slice (some ⟨w.heap.size,0,none⟩) n newCap)) (w.drew.alloc (.cells row E)):=by
    have hnot:¬(n≤0):=by omega
    have hn0:¬(n=0):=by omega
    have YS:¬(N=0):=by omega
    have zM:¬((9223372036854775807:Int)<(n:Int)):=by omega
    have v8:¬(281474976710656<Builtin.nextslicecap n 0*by_):=by omega
    have hnb:n*by_≤281474976710656:=Nat.le_trans (Nat.mul_le_mul_right _ (by omega)) hroom
    have Tn:¬((281474976710656:Int)<(n:Int)*(by_:Int)):=by rw [←Int.natCast_mul];omega
    have hvx2':(Builtin.firstCells N 0 (.slice none 0 0)).run P w.drew= .ok #[] w.drew:=by simp [Builtin.firstCells]
    simp [execOp,resolve,invoke,builtin,Builtin.append_,hv,yL,run_underlying hT,run_underlying Kq,hsz,asInt,asIntOf,hw,M6,hn0,YS,zM,hi1,hbytes,v8,Tn,hnN,Question.forced,v7,hi1',hvx2',hz1',newRow,row]
    done
  generalize hw':w.drew.alloc (.cells row E)=w' at hr
  unfold Oper.wp
  rw [hr]
  have oP:ju c w.drew S F:=aC.grow (eB.drew w S)
  have P4:cL hs F S w.drew:=(eB.drew w S).vY aC.bM aC.cc hown
  subst hw'
  refine hk (w.heap.size,newCap) _ _ S _ trivial (oP.fq _) (fun _ h=>h) (fun k hk=>bS w _ k (aC.bM k hk)) (P4.fq aC.bM aC.cc _ ⟨rfl,Nat.zero_le _,by simp,row,E,by show (w.heap.push _)[w.heap.size]?=_;simp, ?_,fun j q h=>by simp at h⟩) rfl
  simp only [row,Array.size_append]
  have Oc:∀m,(Builtin.zeroCells zv'.cells m).size=m*N:=fun m=>by rw [hz2'];simp [Builtin.zeroCells,hzl]
  rw [Oc,Oc,←Nat.add_mul,Nat.add_sub_cancel' hge]
theorem Df {b cap len N:Nat} {i:Int} (hT:P.underlying T=some (.slice E)) (hn:P.cellsOf E=N) (h0:Nat.blt 0 N=true) (hx:bp env x (af (br (some (b,cap)) len))) (hy:bp env y (ag .i64 i)) (hi:i=0):
    bg P hs env ⟨dst, .slice T x none (some y) none,ty,pos,after,gd⟩ (af (br (some (b,cap)) 0)):=
  bg.aI fun ρ w S F _ he=>by
    have hv:=he.o _ _ hx;have h2:=he.o _ _ hy;simp only [af,br] at hv h2
    subst hi
    have hs:=run_sizeOf (T:=E) hn h0 w
    refine ⟨.slice (some ⟨b,0,none⟩) 0 cap, ?_,rfl⟩
    simp [execOp,hv,h2,Instr.sliceAt,Instr.slice,Instr.sliceBounds,Instr.sliceBound,asIntOf,run_underlying hT,hs,Addr.add]
def Py (l:List au):List VP:=[ah 5 aG l]
instance:gN 1 Py:=⟨fun _=>rfl,fun x q h=>by simp only [Py,List.mem_cons,List.not_mem_nil,or_false] at h;subst h;infer_instance⟩
theorem L5 {ats:Array TypeId} (tK:ats[0]?=some T) (hT:P.underlying T=some (.slice E)) (hx:bp env x (af (.slice none 0 0))):bg P hs env ⟨dst, .call ⟨.builtin .cap, #[x],ats⟩,ty,pos,after,gd⟩ (ag .i64 0):=
 bg.aI fun ρ w S F _ he=>by
  have hv:=he.o _ _ hx;simp only [af] at hv
  exact ⟨_,by simp [execOp,resolve,invoke,builtin,Builtin.cap_,tK,hv,run_underlying hT,goInt],rfl⟩
theorem qK {α:Type} {ls:List (List α)} {k:Nat} {l:List α} (h:ls[k]?=some l):(ls.take (k+1)).flatten=(ls.take k).flatten++l:=by
 rw [List.take_add_one,h];simp
theorem zF {α:Type} (ls:List (List α)) (k:Nat):(ls.take k).flatten.length≤ls.flatten.length:=by
 have h:(ls.take k).flatten++(ls.drop k).flatten=ls.flatten:=by rw [←List.flatten_append,List.take_append_drop]
 have:=congrArg List.length h
 rw [List.length_append] at this;omega
end
section
variable {P:Program} {hs:List HP} {env:Env} {q:VP} {dst:Option Tmp} {ty T T' E:TypeId} {pos:String} {after:Array Edge} {gd:Option (Nat×Bool)} {x y z:Operand}
theorem Dg {N:Nat} {i:Int} (hT:P.underlying T=some (.slice E)) (hn:P.cellsOf E=N) (h0:Nat.blt 0 N=true) (hx:bp env x (af (.slice none 0 0))) (hy:bp env y (ag .i64 i)) (hi:i=0):
    bg P hs env ⟨dst, .slice T x none (some y) none,ty,pos,after,gd⟩ (af (.slice none 0 0)):=
  bg.aI fun ρ w S F _ he=>by
    have hv:=he.o _ _ hx;have h2:=he.o _ _ hy;simp only [af] at hv h2
    subst hi
    have hs:=run_sizeOf (T:=E) hn h0 w
    refine ⟨.slice none 0 0, ?_,rfl⟩
    simp [execOp,hv,h2,Instr.sliceAt,Instr.slice,Instr.sliceBounds,Instr.sliceBound,asIntOf,run_underlying hT,hs]
end
def xfS (c:Int):Prop:=if c=172∨c=173 then c=172 else if c=192∨c=193 then True else if c=194∨c=195∨c=196 then True else False
instance (c:Int):Decidable (xfS c):=by unfold xfS;infer_instance
section
variable {l:List au} {i:Nat}
theorem tg {j:Nat} (h:j<l.length):l[j]?=some (gI l j):=by unfold gI;rw [List.getD_eq_getElem?_getD,List.getElem?_eq_getElem h];rfl
end
end Go.Hl
end
section
namespace Go.Proofs.YtpfobikpggmleaaGreatDoor
open Go.Hl Go.RowKit
theorem FE {n:Nat} (aq:n≤65536):cH Tryz.prog 240 [af (.slice none 0 0),ag .i64 (n:Int)] [] (γ:=SB) (fun _=>True) (fun g=>[av g 1 aj ([]:List UInt8)]) (fun g=>af (br g 0)):=by
 refine In 27 Tryz.func240 fun _ _ _=> ?_
 refine dH ?_
 refine Cd (fun c0=> ?_) fun c0=> ?_
 ·
  exfalso
  omega
 refine Z7 ?_
 refine .p (L5 rfl Tryz.underlying95 (.t rfl)) rfl ?_
 refine Z1 ?_
 refine .p (Gx rfl Tryz.underlying95 (.le (.t rfl) (aD 1 aj))) rfl ?_
 refine .p (ja (.t rfl) (.t rfl) (bN (by simp<;>omega) (by simp<;>omega))) rfl ?_
 refine .p ((ja (.t rfl) (.t rfl) (bN (by simp<;>omega) (by simp<;>omega))).le (aa.int (show _=(n:Int) by simp))) rfl ?_
 refine Z9 ?_
 refine Cd (fun c1=> ?_) fun c1=> ?_
 ·
  refine Z3 ?_
  refine .p (L5 rfl Tryz.underlying95 (.t rfl)) rfl ?_
  refine .p (Dg FU.out FC.out rfl (.t rfl) (.t rfl) rfl) rfl ?_
  refine Z1 ?_
  refine .n (FD (α:=UInt8) (N:=1) (enc:=aj) FU.out FU.out FC.out rfl FZ.out rfl FY.out (.t rfl) (.t rfl) rfl (by omega) (by omega) (by omega)) rfl fun MI _=> ?_
  refine Z1 ?_
  refine .p (Gx rfl Tryz.underlying95 (.le (.t rfl) (aD 1 aj))) rfl ?_
  refine .p (Df FU.out FC.out rfl (.t rfl) (.t rfl) rfl) rfl ?_
  refine cJ ?_
  refine Post.aN rfl (some MI) (by trivial) (fun _ _ _ h=>h) (.rt rfl) ?_
  exact aa.refl _
 have hn0:n=0:=by omega
 refine .dQ (α:=UInt8) 1 aj ?_
 refine Z9 ?_
 refine Post.aN rfl (none) (by trivial) (fun _ _ _ h=>h) (.rt rfl) ?_
 exact aa.refl _
theorem AO {ls:List (List UInt8)} (aq:ls.flatten.length≤65536):cQ Tryz.prog 226 [ah 1 dA ls] (ah 1 aj (ls.flatten)):=by
 refine In 36 Tryz.func226 fun _ _ _=> ?_
 refine .fact (t:=0) rfl (fun S w v h=>bH h) fun oY=> ?_
 refine Eh ?_
 refine .aY (σ:=Nat) (fun _=>[]) (fun k=>[(11,ag .i64 (k:Int)),(3,ag .i64 ((ls.take k).flatten.length:Int))]) (fun k=>k≤ls.length) (fun k=>ls.length-k) 0 (Nat.zero_le _) rfl ?_ ?_
 · exact (.get rfl (aa.refl _) (.get rfl (aa.int (by simp)) (.refl _ _)))
 rintro k hk
 refine Z6 ?_
 refine Cd (fun c0=> ?_) fun c0=> ?_
 ·
  obtain ⟨l,hx⟩:=ai (xs:=ls) (k:=k) (by omega)
  have hfp:=zF ls (k+1)
  have hfl:(ls.take (k+1)).flatten.length=(ls.take k).flatten.length+l.length:=by rw [qK hx,List.length_append]
  refine Z6 ?_
  refine .p (cI k (h:=hx)) rfl ?_
  refine Eh ?_
  refine Cd (fun c1=> ?_) fun c1=> ?_
  ·
   exfalso
   omega
  refine Z7 ?_
  refine .round (k+1) (by omega) (by omega) rfl ?_
  exact (.get rfl (aa.int (by (show (k:Int)+1=((k+1:Nat):Int);omega))) (.get rfl (aa.int (by omega)) ((.keep 15 rfl rfl))))
 have DO:ls.take k=ls:=List.take_of_length_le (by omega)
 rw [DO]
 refine Z8 ?_
 refine .n (cE (h:=FE aq)) rfl fun LA DU=> ?_
 refine dH ?_
 refine .aY (σ:=SB×Nat) (fun g=>[av g.1 1 aj (ls.take g.2).flatten]) (fun g=>[(6,af (br g.1 (ls.take g.2).flatten.length)),(27,ag .i64 (g.2:Int))]) (fun g=>g.2≤ls.length) (fun g=>ls.length-g.2) (LA,0) (Nat.zero_le _) rfl ?_ ?_
 · exact (.get rfl (aa.refl _) (.get rfl (aa.refl _) (.refl _ _)))
 rintro ⟨sb,j⟩ hj
 simp only at hj ⊢
 refine Z6 ?_
 refine Cd (fun c2=> ?_) fun c2=> ?_
 ·
  obtain ⟨m,hy⟩:=ai (xs:=ls) (k:=j) (by omega)
  have hfq:=zF ls (j+1)
  have FG:(ls.take (j+1)).flatten.length=(ls.take j).flatten.length+m.length:=by rw [qK hy,List.length_append]
  refine Z6 ?_
  refine .p (cI j (h:=hy)) rfl ?_
  refine Z7 ?_
  refine .n (aH (i:=0) (xs:=(ls.take j).flatten) (ys:=m) FU.out FU.out FC.out rfl FZ.out rfl FY.out (.t rfl) (.t rfl) rfl (by omega) (by omega)) rfl fun WW _=> ?_
  refine Z8 ?_
  refine .round (WW,j+1) (by show j+1≤_;omega) (by (show ls.length-(j+1)<ls.length-j;omega)) (by simp only [qK hy];rfl) ?_
  exact (.get rfl (aa.of_eq (by simp only [qK hy])) (.get rfl (aa.int (by (show (j:Int)+1=((j+1:Nat):Int);omega))) ((.keep 12 rfl rfl))))
 have hjl:ls.take j=ls:=List.take_of_length_le (by omega)
 rw [hjl]
 refine .fu (t:=6) (i:=0) rfl rfl ?_
 refine dH ?_
 refine bJ ?_
 exact aa.refl _
theorem ee {p:Prop} {e:Int} (aq:e≠0):vj Tryz.prog 366 280 [ak p,ag .i64 (e)] [] (¬p) (γ:=Unit) (fun _=>p) (fun _=>[]) (fun _=>bz []):=by
 refine Bm 9 Tryz.func280 fun _ _ _=> ?_
 refine Z6 ?_
 refine Cd (fun c0=> ?_) fun c0=> ?_
 · exact aM.region (.p (DX (.t rfl)) rfl<| .p (aL FP.out FZ.out (.cons (.t rfl) .nil) rfl) rfl<| .p (KO Tryz.underlying366 (.t rfl)) rfl<| .P9 (.t rfl) aq c0)
 refine Z1 ?_
 refine .pN (Post.gV rfl (()) (by exact Classical.not_not.1 c0) (fun _ _ _ h=>h) rfl)
variable {cb:Nat} {m:aU} {f:cK} {gs:SB} {bb:Nat} {bc:Nat} {B:List Kb} {ns:Nat}
theorem uA {b:Kb}:cH Tryz.prog 294 [aJ cb 0] [G8 cb m f gs ns (some (bb,bc)) (B++[b]).length,av (some (bb,bc)) 5 jF (B++[b])] (γ:=Unit) (fun _=>True) (fun _=>[G8 cb m f gs ns (some (bb,bc)) (B++[b]).length,av (some (bb,bc)) 5 jF (B++[b])]) (fun _=>aJ bb (B.length*5)):=by
 refine In 14 Tryz.func294 fun _ _ _=> ?_
 refine .vF 1 rfl fun yb=> ?_
 simp only [List.length_append,List.length_cons,List.length_nil] at yb
 refine Z6 ?_
 refine .bA 10 2 FM.out (by kernel_rfl) (k:= ?_)
 refine Z8 ?_
 refine .p (tT rfl Tryz.underlying338 (.t rfl)) ?_
 refine .p (ja (.t rfl) (.c _) (bN (by simp<;>omega) (by simp<;>omega))) ?_
 refine Z1 ?_
 refine .p (bl B.length FU.out FC.out rfl (.t rfl) (.t rfl) (by simp) (by simp)) rfl ?_
 refine Z4 ?_
 refine bJ ?_
 exact aa.refl _
variable {l:List UInt8} {gb:SB} {nb:Nat}
theorem fN {st tG:List UInt8} (aq:st.length≤60000) (aT:l.length≤60000) (dh:tG=st++l):cH Tryz.prog 276 [aJ cb 0,ah 1 aj (l)] [G8 cb m f gs st.length gb nb,av gs 1 aj st] (γ:=SB) (fun _=>True) (fun g=>[G8 cb m f g tG.length gb nb,av g 1 aj tG]) (fun _=>bz []):=by
 refine In 13 Tryz.func276 fun _ _ _=> ?_
 subst dh
 refine Z7 ?_
 refine .n (aH (i:=1) FU.out FU.out FC.out rfl FZ.out rfl FY.out (.t rfl) (.t rfl) rfl (by omega) (by omega)) rfl fun IQ _=> ?_
 refine Z4 ?_
 refine Post.gV rfl (IQ) (by trivial) (fun _ _ _ h=>h) rfl
variable {L0:List UInt8} {k:dV} {s:cU}
theorem ez {w:UInt8}:vj Tryz.prog 366 270 [aJ cb 0,ag .u8 ((w:UInt8).toNat:Int)] (xD cb m f gs bb bc L0 B k s) (hH s w=none) (γ:=cU×UInt8) (fun g=>hH s w=some g) (fun g=>xD cb m f gs bb bc L0 B k g.1) (fun g=>ag .u8 (g.2.toNat:Int)):=by
 refine Bm 67 Tryz.func270 fun _ _ _=> ?_
 obtain ⟨sl,sd⟩:=s
 refine Z8 ?_
 refine .n ((o7 [_] [0,2,1] (h:=uA)).same (fun _ _=>aB.perm (Perm.idx [0,2,1] rfl rfl)) (fun _ _=>aa.refl _)) rfl fun _ _=> ?_
 refine Z5 ?_
 refine .bA 9 1 FM.out (by kernel_rfl) (k:= ?_)
 refine Z8 ?_
 refine .p (eW (i:=2) (r:=3) FA.out (.t rfl) rfl (kr _ _) rfl) ?_
 refine Z4 ?_
 refine Cd (fun c0=> ?_) fun c0=> ?_
 ·
  have GA:sl=[]:=by (simp [kN] at c0;first|exact c0|exact List.eq_nil_of_length_eq_zero (by omega))
  subst GA
  refine Z5 ?_
  refine .p (eW (i:=2) (r:=4) FA.out (.t rfl) rfl (kr _ _) rfl) rfl ?_
  refine .x (cX (h:=ee (e:=5) (by decide))) rfl (fun h=>xE h) fun Pq h23=> ?_
  refine cJ ?_
  refine .jy (Post.aN rfl ((([],sd),w)) (by exact G9 (by first|exact h23|assumption)) (fun _ _ _ h=>h) (.rt rfl) ?_)
  exact aa.refl _
 obtain ⟨l,x,rfl⟩:=s8 (l:=sl) (fun e=>c0 (by rw [e];simp [kN]))
 refine .vF 1 rfl fun yb=> ?_
 simp only [List.length_append,List.length_cons,List.length_nil] at yb
 refine .jj 1 rfl (by simp) fun sb sc hg=> ?_
 subst hg
 refine Z3 ?_
 refine .bA 10 3 FM.out (by kernel_rfl) (k:= ?_)
 refine Z9 ?_
 refine .p (ja (.t rfl) (.c _) (bN (by simp<;>omega) (by simp<;>omega))) ?_
 refine Z1 ?_
 refine .p (bl (L0++l).length FU.out FC.out rfl (.t rfl) (.t rfl) (by simp<;>omega) (by simp)) rfl ?_
 refine .p (eW (i:=1) (r:=0) FA.out (.t rfl) rfl (show (L0++(l++[x]))[(L0++l).length]?=some x by simp) rfl) rfl ?_
 refine Z4 ?_
 refine .bA 12 3 FM.out (by kernel_rfl) (k:= ?_)
 refine cJ ?_
 refine .p (ja (.t rfl) (.c _) (bN (by simp<;>omega) (by simp<;>omega))) ?_
 refine .p (n7 (i:=1) (h:=(L0++l).length) FU.out FC.out rfl (.t rfl) (.t rfl) (by simp<;>omega) rfl rfl (by simp)) ?_
 refine Z6 ?_
 refine .own (aB.cons _ (aB.KP (L0++l) (by rw [←List.append_assoc];exact vN _ _))) ?_
 refine jN ?_
 refine .x (cX (h:=ee (e:=5) (by decide))) rfl (fun h=>u9 (fun e=>h (Fl.2 e))) fun g62 RU=> ?_
 refine Z9 ?_
 refine Cd (fun c1=> ?_) fun c1=> ?_
 ·
  refine Z8 ?_
  refine .jy (Post.aN rfl (((l,sd),if x=0 then w else x)) (by exact xF (Fl.1 RU)) (fun _ _ _ h=>h) (.rt rfl) ?_)
  exact aa.of_eq (by rw [if_pos ((mT x).1 c1)])
 refine Z9 ?_
 refine .jy (Post.aN rfl (((l,sd),if x=0 then w else x)) (by exact xF (Fl.1 RU)) (fun _ _ _ h=>h) (.rt rfl) ?_)
 exact aa.of_eq (by rw [if_neg (fun e=>c1 ((mT x).2 e))])
theorem iq:vj Tryz.prog 366 274 [aJ cb 0,ah 1 aj (l)] (xD cb m f gs bb bc L0 B k s) (cF s l=none) (γ:=cU) (fun g=>cF s l=some g) (fun g=>xD cb m f gs bb bc L0 B k g) (fun _=>bz []):=by
 refine Bm 18 Tryz.func274 fun _ _ _=> ?_
 refine .fact (t:=1) rfl (fun S w v h=>bH h) fun oY=> ?_
 refine Z9 ?_
 refine .aY (σ:=Nat×cU) (fun g=>xD cb m f gs bb bc L0 B k g.2) (fun g=>[(4,ag .i64 ((g.1:Int)-1))]) (fun g=>g.1≤l.length∧cF g.2 (l.take g.1)=cF s l) (fun g=>g.1) (l.length,s) ⟨Nat.le_refl _,by simp⟩ rfl ?_ ?_
 · exact (.get rfl (aa.refl _) (.refl _ _))
 rintro ⟨j,s1⟩ ⟨hj,hinv⟩
 simp only at hj hinv ⊢
 refine Z7 ?_
 refine Cd (fun c0=> ?_) fun c0=> ?_
 ·
  obtain ⟨t,ht⟩:=ai (xs:=l) (k:=j-1) (by omega)
  have hjt:cF s1 (l.take j)=(hH s1 t).bind fun p=>cF p.1 (l.take (j-1)):=by (have h9:=LP (s:=s1) ht;rwa [show j-1+1=j by omega] at h9)
  refine Z8 ?_
  refine .p (cI (j-1) (h:=ht)) rfl ?_
  refine Z1 ?_
  refine .x (cX (h:=ez (s:=s1) (w:=t))) rfl (fun h=>by rw [←hinv,hjt,h];rfl) fun G4 G5=> ?_
  refine Z8 ?_
  refine .round (j-1,G4.1) ⟨by show j-1≤_;omega,by rw [←hinv,hjt,G5];rfl⟩ (by show j-1<j;omega) rfl ?_
  exact (.get rfl (aa.int (by show (_:Int)=((j-1:Nat):Int)-1;omega)) ((.keep 12 rfl rfl)))
 have hj0:j=0:=by omega
 subst hj0
 refine Z4 ?_
 refine .pN (Post.gV rfl (s1) (by exact (by rw [←hinv];rfl)) (fun _ _ _ h=>h) rfl)
theorem oH:cH Tryz.prog 269 [aJ cb 0] (xD cb m f gs bb bc L0 B k s) (γ:=Unit) (fun _=>True) (fun _=>xD cb m f gs bb bc L0 B k ef) (fun _=>bz []):=by
 refine In 20 Tryz.func269 fun _ _ _=> ?_
 refine Z3 ?_
 refine .n ((o7 [_] [0,2,1] (h:=uA)).same (fun _ _=>aB.perm (Perm.idx [0,2,1] rfl rfl)) (fun _ _=>aa.refl _)) rfl fun _ _=> ?_
 refine Z3 ?_
 refine .bG [(0,0),(1,0),(2,0),(3,0),(4,0),(5,1),(6,0),(7,0),(8,0),(9,1),(10,1),(11,0),(12,0),(13,3)] 14 3 FM.out (by kernel_rfl) (k:= ?_)
 refine Z9 ?_
 refine .o rfl (eW (i:=2) (r:=3) FA.out (.t rfl) rfl (kr _ _) rfl) ?_
 refine .o rfl (n7 (i:=1) (h:=(L0++([]:List UInt8)).length) FU.out FC.out rfl (.t rfl) (.t rfl) (by simp [kN]) rfl rfl (by simp)) ?_
 refine Z2 ?_
 refine .s rfl (gQ (i:=0) FC.out (.t rfl) (.t rfl) rfl rfl) ?_
 refine .fin ?_
 refine Z2 ?_
 refine .s (fS (i:=2) (r:=4) (kN L0.length k ef) rfl FC.out (.t rfl) .ct rfl (kr _ _) rfl rfl) ?_
 refine Z1 ?_
 rw [BW,show (B++[kN L0.length k s]).length=(B++[kN L0.length k ef]).length by simp]
 refine .own (aB.cons _ (aB.KP (L0++([]:List UInt8)) (by simp))) ?_
 refine Post.gV rfl (()) (by trivial) (fun _ _ _ h=>h) rfl
variable {n:Int}
theorem kQ (aq:B.length≤60000) (aT:0≤n):vj Tryz.prog 366 275 [aJ cb 0,ag .u64 (n)] [G8 cb m f gs ns (some (bb,bc)) B.length,av (some (bb,bc)) 5 jF B] (hU (B.map yw) n=none) (γ:=List UInt8) (fun w=>hU (B.map yw) n=some w) (fun _=>[G8 cb m f gs ns (some (bb,bc)) B.length,av (some (bb,bc)) 5 jF B]) (fun w=>ah 1 aj (w)):=by
 refine Bm 34 Tryz.func275 fun _ _ _=> ?_
 refine dH ?_
 refine .p (tT rfl Tryz.underlying338 (.t rfl)) rfl ?_
 refine Z2 ?_
 refine .x (cX (h:=ee (e:=2) (by decide))) rfl (fun h=>zy (fun e=>h (by simpa using e))) fun Po vI=> ?_
 refine Z3 ?_
 have hlt:n<(B.length:Int):=vI
 obtain ⟨b,hb⟩:=ai (xs:=B) (k:=B.length-1-n.toNat) (by omega)
 obtain ⟨w,hw,nS⟩:=C4 (L:=B.map yw) aT (by simpa using hlt)
 have hwb:yw b=w:=by (rw [List.length_map,List.getElem?_map,hb] at nS;exact Option.some.inj nS)
 refine .bG [(0,0),(1,0),(2,0),(3,1),(4,0),(5,0),(6,0),(7,1),(8,0),(9,0),(10,0),(11,0),(12,0),(13,0),(14,1),(15,4)] 16 1 FM.out (by kernel_rfl) (k:= ?_)
 refine Z8 ?_
 refine .p rfl (fun _=>tT rfl Tryz.underlying338 (.t rfl)) ?_
 refine Z4 ?_
 refine .p rfl (fun _=>bl (B.length-1-n.toNat) FU.out FC.out rfl (.t rfl) (.t rfl) (by omega) (by omega)) ?_
 refine .o rfl (lY (i:=1) (r:=0) FA.out FC.out rfl (.t rfl) rfl hb rfl) ?_
 refine .a rfl (az FZ.out) (fun _ _=>aB.drop (aB.refl _)) fun b5 _=> ?_
 refine .fin ?_
 refine Z3 ?_
 refine .share (t:=5) (i:=0) rfl rfl ?_
 refine Z7 ?_
 refine Cd (fun c0=> ?_) fun c0=> ?_
 ·
  refine Z7 ?_
  refine .jy (Post.aN rfl (w) (by exact hw) (fun _ _ _ h=>h) (.rt rfl) ?_)
  exact (show aa (af (.slice none 0 0)) _ from (show w=[] by rw [←hwb];exact if_pos c0)▸aD 1 aj)
 refine cJ ?_
 refine .jy (Post.aN rfl (w) (by exact hw) (fun _ _ _ h=>h) (.rt rfl) ?_)
 exact aa.of_eq (by rw [show w=b.res by rw [←hwb];exact if_neg c0])
variable {x:au}
theorem xV {st:List UInt8} (aq:B.length≤60000) (aT:0≤x.A):cH Tryz.prog 271 [aJ cb 0,aE (aG x)] (LO cb m f gs gb st B) (γ:=SB) (fun _=>True) (fun g=>LO cb m f gs g st (B++[kN st.length ⟨x.Code=3,x.Code=4,dW x,([],False)⟩ ([],False)])) (fun _=>bz []):=by
 refine In 35 Tryz.func271 fun _ _ _=> ?_
 refine Z6 ?_
 refine .bG [(0,0),(1,0),(2,0),(3,0),(4,0),(5,0),(6,0),(7,0),(8,0),(9,1),(10,1),(11,0),(12,4)] 13 1 FM.out (by kernel_rfl) (k:= ?_)
 refine dH ?_
 refine .a rfl (az FZ.out) (fun _ _=>aB.drop (aB.refl _)) fun b4 _=> ?_
 refine .fin ?_
 refine Z3 ?_
 refine .cut (σ:=Unit) (fun _=>[aF b4 [ak (x.Code=3),ak (x.Code=4),ah 1 aj (dW x),ag .i64 (st.length:Int),ak False],G8 cb m f gs st.length gb B.length,av gs 1 aj st,av gb 5 jF B]) (fun _=>[]) (fun _=>True) ?_ ?_
 ·
  refine Z1 ?_
  refine .own (aB.Ee (cs':=[ak (x.Code=3),ak (x.Code=4),ah 1 aj [],ag .i64 (st.length:Int),ak False]) (.cons (.refl _) (.cons (.refl _) (.cons (aD 1 aj) (.cons (.refl _) (.cons uv .nil)))))) ?_
  refine Z6 ?_
  refine Cd (fun c0=> ?_) fun c0=> ?_
  ·
   refine Z3 ?_
   refine .p ((eC FU.out FU.out (.t rfl)).le (aa.int (Hf aT))) rfl ?_
   refine .p (cB aj [UInt8.ofNat x.A.toNat]) rfl ?_
   refine Z3 ?_
   refine .meet () trivial (by first|(rw [show dW x=[UInt8.ofNat x.A.toNat] from if_neg c0];done)|(rw [show dW x=[UInt8.ofNat x.A.toNat] from if_neg c0];rfl)|(rw [show dW x=[] from if_pos (Classical.not_not.1 c0)];done)|(rw [show dW x=[] from if_pos (Classical.not_not.1 c0)];rfl)) (.keep 8 rfl rfl)
  refine Z1 ?_
  refine .meet () trivial (by first|(rw [show dW x=[UInt8.ofNat x.A.toNat] from if_neg c0];done)|(rw [show dW x=[UInt8.ofNat x.A.toNat] from if_neg c0];rfl)|(rw [show dW x=[] from if_pos (Classical.not_not.1 c0)];done)|(rw [show dW x=[] from if_pos (Classical.not_not.1 c0)];rfl)) (.keep 3 rfl rfl)
 intro _ _
 refine .bG [(0,0),(1,0),(2,0),(3,0),(4,1),(5,1),(6,0),(7,2)] 8 3 FM.out (by kernel_rfl) (k:= ?_)
 refine Z6 ?_
 refine .p rfl (fun _=>bu (enc:=jF) [kN st.length ⟨x.Code=3,x.Code=4,dW x,([],False)⟩ ([],False)] FU.out FC.out rfl FZ.out rfl (.cons (.t rfl) .nil) rfl rfl rfl rfl rfl) ?_
 refine .e rfl (aH (i:=3) FU.out FU.out FC.out rfl FZ.out rfl FY.out (.t rfl) (.t rfl) rfl (by simp<;>omega) (by simp<;>omega)) fun MM _=> ?_
 refine .fin ?_
 refine Z4 ?_
 refine Post.gV rfl (MM) (by trivial) (aB.dc [1,2,3] [0] rfl rfl) rfl
theorem vb:vj Tryz.prog 366 295 [aJ cb 0] (xD cb m f gs bb bc L0 B k s) (¬yx k.res s) (γ:=Unit) (fun _=>yx k.res s) (fun _=>LO cb m f gs (some (bb,bc)) L0 B) (fun _=>aE (jF (kN L0.length k s))):=by
 refine Bm 36 Tryz.func295 fun _ _ _=> ?_
 refine Z2 ?_
 refine .n (az FZ.out) rfl fun b2 _=> ?_
 refine Z5 ?_
 refine .n ((o7 [_,_] [1,3,0,2] (h:=uA)).same (fun _ _=>aB.perm (Perm.idx [2,0,3,1] rfl rfl)) (fun _ _=>aa.refl _)) rfl fun _ _=> ?_
 refine Z1 ?_
 refine .p (lY (i:=3) (r:=0) FA.out FC.out rfl (.t rfl) rfl (kr _ _) rfl) rfl ?_
 refine .n (az FZ.out) rfl fun b3 _=> ?_
 refine Z3 ?_
 refine .share (t:=3) (i:=0) rfl rfl ?_
 refine Z5 ?_
 refine .x (HS [_] [1,2,3,0] (h:=iq (l:=k.res))) rfl (fun h=>by (rintro ⟨z,h1,_⟩;rw [h] at h1;cases h1)) fun Od h11=> ?_
 refine Z3 ?_
 refine .vF 2 rfl fun yb=> ?_
 simp only [List.length_append,List.length_cons,List.length_nil] at yb
 refine .bA 7 2 FM.out (by kernel_rfl) (k:= ?_)
 refine Z9 ?_
 refine .x (cX (h:=ee (e:=5) (by decide))) rfl (fun h=>by (rintro ⟨z,h1,h2⟩;rw [h11] at h1;cases h1;exact h (by rw [h2];simp [kN]))) fun YT To=> ?_
 refine Z3 ?_
 have hz:Od.1=[]:=by (simp [kN] at To;first|exact To|exact List.eq_nil_of_length_eq_zero (by omega))
 refine .bA 12 3 FM.out (by kernel_rfl) (k:= ?_)
 refine cJ ?_
 refine .p (ja (.t rfl) (.c _) (bN (by simp<;>omega) (by simp<;>omega))) ?_
 refine .p (n7 (i:=2) (h:=B.length) FU.out FC.out rfl (.t rfl) (.t rfl) (by simp) rfl rfl (by simp)) ?_
 refine Z6 ?_
 rw [show (L0++Od.1).length=L0.length by rw [hz];simp]
 refine .own (aB.cons _ (aB.trans (aB.KP L0 (vN _ _)) (aB.cons _ (aB.KP B (vN _ _))))) ?_
 refine Z3 ?_
 refine .s (fy (i:=3) FC.out rfl (.t rfl) (.t rfl) rfl rfl rfl) ?_
 refine Z3 ?_
 refine .jy (Post.aN rfl (()) (by exact ⟨Od,h11,hz⟩) (aB.dc [0,1,2] [3] rfl rfl) (.ra (i:=3) FA.out FC.out rfl rfl rfl rfl) ?_)
 exact aa.refl _
theorem Dh (aq:B.length≤60000):vj Tryz.prog 366 272 [aJ cb 0] (xD cb m f gs bb bc L0 B k s) (¬yx k.res s) (γ:=SB) (fun _=>yx k.res s) (fun g=>LO cb m f gs g L0 (B++[kN L0.length ⟨k.loop,False,k.res,([],False)⟩ ([],False)])) (fun _=>bz []):=by
 refine Bm 17 Tryz.func272 fun _ _ _=> ?_
 refine Z3 ?_
 refine .x (cX (h:=vb (s:=s))) rfl (fun h=>h) fun g4 h4=> ?_
 refine .n (az FZ.out) rfl fun b2 _=> ?_
 refine dw ?_
 refine .bG [(0,0),(1,0),(2,0),(3,0),(4,1),(5,1),(6,0),(7,2)] 8 3 FM.out (by kernel_rfl) (k:= ?_)
 refine Z6 ?_
 refine .p rfl (fun _=>bu (enc:=jF) [kN L0.length ⟨k.loop,False,k.res,([],False)⟩ ([],False)] FU.out FC.out rfl FZ.out rfl (.cons (.t rfl) .nil) rfl rfl rfl rfl rfl) ?_
 refine .e rfl (aH (i:=3) FU.out FU.out FC.out rfl FZ.out rfl FY.out (.t rfl) (.t rfl) rfl (by simp<;>omega) (by simp<;>omega)) fun Po _=> ?_
 refine .fin ?_
 refine Z4 ?_
 refine .pN (Post.gV rfl (Po) (by exact h4) (aB.dc [1,2,3] [0] rfl rfl) rfl)
theorem Ji (aq:L0.length≤60000) (aT:k.res.length≤60000):vj Tryz.prog 366 273 [aJ cb 0] (xD cb m f gs bb bc L0 B k s) (¬(yx k.res s∧(k.is→k.res=[]))) (γ:=SB) (fun _=>yx k.res s∧(k.is→k.res=[])) (fun g=>LO cb m f g (some (bb,bc)) (L0++k.res) B) (fun _=>bz []):=by
 refine Bm 19 Tryz.func273 fun _ _ _=> ?_
 refine Z3 ?_
 refine .x (cX (h:=vb (s:=s))) rfl (fun h h2=>h h2.1) fun g4 h4=> ?_
 refine .n (az FZ.out) rfl fun b2 _=> ?_
 refine Z3 ?_
 refine .share (t:=2) (i:=0) rfl rfl ?_
 refine dw ?_
 refine .x (cX (h:=ee (e:=5) (by decide))) rfl (fun h h2=>h (by by_cases hk:k.is;exact .inr (show (k.res.length:Int)=0 by rw [h2.2 hk];rfl);exact .inl hk)) fun Po vI=> ?_
 refine Z6 ?_
 refine .n (cE (h:=fN (st:=L0) (l:=k.res) (by omega) aT rfl)) rfl fun xo Pp=> ?_
 refine Z1 ?_
 refine .pN (Post.gV rfl (xo) (by exact ⟨h4,fun hk=>by (rcases vI with h|h;exact absurd hk h;exact List.eq_nil_of_length_eq_zero (by have h9:(k.res.length:Int)=0:=h;omega))⟩) (fun _ _ _ h=>h) rfl)
theorem ql (aq:xG m f) (aT:0≤n):vj Tryz.prog 366 278 [aJ cb 0,ag .u64 (n)] [G8 cb m f gs ns gb nb] (dL (cn m f).aS n=none) (γ:=UInt8) (fun t=>dL (cn m f).aS n=some t) (fun _=>[G8 cb m f gs ns gb nb]) (fun t=>ag .u8 ((t:UInt8).toNat:Int)):=by
 refine Bm 23 Tryz.func278 fun _ _ _=> ?_
 have J9:=aq.lo
 refine BY ?_
 refine .x (cX (h:=ee (e:=2) (by decide))) rfl (fun h=>ta (fun e=>h e)) fun Po vI=> ?_
 refine Z3 ?_
 obtain ⟨t,ht,Tp⟩:=s9 aT vI
 refine Z7 ?_
 refine .p (cI n.toNat (h:=Tp)) rfl ?_
 refine Z5 ?_
 refine .jy (Post.aN rfl (t) (by exact ht) (fun _ _ _ h=>h) (.rt rfl) ?_)
 exact aa.refl _
theorem th (aq:xG m f) (aT:0≤n):vj Tryz.prog 366 279 [aJ cb 0,ag .u64 (n)] [G8 cb m f gs ns gb nb] (dL m.ay n=none) (γ:=iS) (fun t=>dL m.ay n=some t) (fun _=>[G8 cb m f gs ns gb nb]) (fun t=>aE (dZ t)):=by
 refine Bm 29 Tryz.func279 fun _ _ _=> ?_
 have J9:=aq.fits.lens.2.2.2.1
 refine Z2 ?_
 refine .n (az FZ.out) rfl fun b4 _=> ?_
 refine BY ?_
 refine .x (cX (h:=ee (e:=2) (by decide))) rfl (fun h=>ta (fun e=>h e)) fun G4 G5=> ?_
 refine Z3 ?_
 obtain ⟨t,ht,Tp⟩:=s9 aT G5
 refine cJ ?_
 refine .p (cI n.toNat (h:=Tp)) rfl ?_
 refine Z5 ?_
 refine .jy (Post.aN rfl (t) (by exact ht) (aB.dc [1] [0] rfl rfl) (.ra (i:=0) FA.out FC.out rfl rfl rfl rfl) ?_)
 exact aa.refl _
theorem oI (aq:xG m f) (aT:0≤n):vj Tryz.prog 366 281 [aJ cb 0,ag .u64 (n)] [G8 cb m f gs ns gb nb] (dL m.bI n=none) (γ:=dY) (fun t=>dL m.bI n=some t) (fun _=>[G8 cb m f gs ns gb nb]) (fun t=>aE (ew t)):=by
 refine Bm 29 Tryz.func281 fun _ _ _=> ?_
 have J9:=aq.fits.lens.2.2.1
 refine Z2 ?_
 refine .n (az FZ.out) rfl fun b4 _=> ?_
 refine BY ?_
 refine .x (cX (h:=ee (e:=2) (by decide))) rfl (fun h=>ta (fun e=>h e)) fun G4 G5=> ?_
 refine Z3 ?_
 obtain ⟨t,ht,Tp⟩:=s9 aT G5
 refine cJ ?_
 refine .p (cI n.toNat (h:=Tp)) rfl ?_
 refine Z5 ?_
 refine .jy (Post.aN rfl (t) (by exact ht) (aB.dc [1] [0] rfl rfl) (.ra (i:=0) FA.out FC.out rfl rfl rfl rfl) ?_)
 exact aa.refl _
theorem nk {l:dY}:cQ Tryz.prog 283 [aE (ew l)] (ag .u8 ((bL l.bE:UInt8).toNat:Int)):=by
 refine In 5 Tryz.func283 fun _ _ _=> ?_
 refine jN ?_
 refine Cd (fun c0=> ?_) fun c0=> ?_
 ·
  refine Z7 ?_
  refine bJ ?_
  exact aa.of_eq (by unfold bL;rw [if_pos c0];rfl)
 refine Z8 ?_
 refine bJ ?_
 exact aa.of_eq (by unfold bL;rw [if_neg c0];rfl)
theorem mZ {g:mD} (aq:(L0++s.1).length≤60000) (aT:g.R.length≤60000):vj Tryz.prog 366 257 [aJ cb 0,aE (cj g)] (xD cb m f gs bb bc L0 B k s) (nL s g.P g.R=none) (γ:=SB×cU) (fun z=>nL s g.P g.R=some z.2) (fun z=>xD cb m f z.1 bb bc L0 B k z.2) (fun _=>bz []):=by
 refine Bm 12 Tryz.func257 fun _ _ _=> ?_
 refine cJ ?_
 refine .x (cX (h:=iq (s:=s) (l:=g.P))) rfl (fun h=>by unfold nL;rw [h];rfl) fun g7 h7=> ?_
 refine Z6 ?_
 refine .n (cE (h:=fN (st:=L0++g7.1) (l:=g.R) (tG:=L0++(bq g7 g.R).1) (by simp only [List.length_append] at aq ⊢;have:=rW h7;omega) aT (by simp [bq]))) rfl fun Od h11=> ?_
 refine Z1 ?_
 refine .pN (Post.gV rfl ((Od,bq g7 g.R)) (by exact (by unfold nL;rw [h7];rfl)) (fun _ _ _ h=>h) rfl)
theorem xW {labs:List (List UInt8)} (aq:(L0++s.1).length≤60000) (aT:xG m f) (dh:lA x):vj Tryz.prog 366 253 [aJ cb 0,aE (aG x)] (xD cb m f gs bb bc L0 B k s) (dM x.Code∧fP (cn m f) x s labs=none) (γ:=SB×cU) (fun z=>(dM x.Code∧fP (cn m f) x s labs=some z.2)∨(¬dM x.Code∧z=(gs,s))) (fun z=>xD cb m f z.1 bb bc L0 B k z.2) (fun _=>ak (dM x.Code)):=by
 refine Bm 62 Tryz.func253 fun _ _ _=> ?_
 refine J4 ?_
 refine Cd (fun c0=> ?_) fun c0=> ?_
 ·
  refine Z5 ?_
  refine .x (cX (h:=ql aT dh.A0)) rfl (fun h=>⟨by unfold dM;omega,by rw [AE c0,h];rfl⟩) fun vc Bq=> ?_
  refine .p (cB aj [_]) rfl ?_
  refine .n (cE (h:=fN (st:=L0++s.1) (l:=[vc]) (tG:=L0++(bq s [vc]).1) (by simp only [List.length_append] at aq ⊢;omega) (by simp) (by simp [bq]))) rfl fun G4 G5=> ?_
  refine Z9 ?_
  refine .jy (Post.aN rfl ((G4,bq s [vc])) (by exact .inl ⟨by unfold dM;omega,by rw [AE c0,Bq];rfl⟩) (fun _ _ _ h=>h) (.rt rfl) ?_)
  exact aa.prop ⟨fun _=>by unfold dM;omega,fun _=>trivial⟩
 refine Z6 ?_
 refine Cd (fun c1=> ?_) fun c1=> ?_
 ·
  refine Z5 ?_
  refine .x (cX (h:=ql aT dh.A0)) rfl (fun h=>⟨by unfold dM;omega,by rw [xJ c1,h];rfl⟩) fun LA DU=> ?_
  refine .x (cX (h:=ez (s:=s) (w:=LA))) rfl (fun h=>⟨by unfold dM;omega,by rw [xJ c1,DU,Option.bind_some,fm,h];rfl⟩) fun RP QJ=> ?_
  refine Z9 ?_
  refine .jy (Post.aN rfl ((gs,RP.1)) (by exact .inl ⟨by unfold dM;omega,by rw [xJ c1,DU,Option.bind_some,fm,QJ];rfl⟩) (fun _ _ _ h=>h) (.rt rfl) ?_)
  exact aa.prop ⟨fun _=>by unfold dM;omega,fun _=>trivial⟩
 refine Z6 ?_
 refine Cd (fun c2=> ?_) fun c2=> ?_
 ·
  refine Z5 ?_
  refine .x (cX (h:=ql aT dh.A0)) rfl (fun h=>⟨by unfold dM;omega,by rw [xK c2,h];rfl⟩) fun DW MN=> ?_
  refine Z7 ?_
  refine .x (cX (h:=ez (s:=s) (w:=DW))) rfl (fun h=>⟨by unfold dM;omega,by rw [xK c2,MN,Option.bind_some,nL,fm,h];rfl⟩) fun L6 L7=> ?_
  refine Z5 ?_
  refine .p (cB aj [_]) rfl ?_
  refine .n (cE (h:=fN (st:=L0++L6.1.1) (l:=[DW]) (tG:=L0++(bq L6.1 [DW]).1) (by simp only [List.length_append] at aq ⊢;have:=mA L7;omega) (by simp) (by simp [bq]))) rfl fun ME NL=> ?_
  refine Z9 ?_
  refine .jy (Post.aN rfl ((ME,bq L6.1 [DW])) (by exact .inl ⟨by unfold dM;omega,by rw [xK c2,MN,Option.bind_some,nL,fm,L7];rfl⟩) (fun _ _ _ h=>h) (.rt rfl) ?_)
  exact aa.prop ⟨fun _=>by unfold dM;omega,fun _=>trivial⟩
 refine Z6 ?_
 refine Cd (fun c3=> ?_) fun c3=> ?_
 ·
  refine Z5 ?_
  refine .x (cX (h:=th aT dh.A0)) rfl (fun h=>⟨by unfold dM;omega,by rw [AF c3];rw [show (cn m f).ay=m.ay.map (·.Ty) from rfl,bP,h];rfl⟩) fun BG RV=> ?_
  refine .p (bg.le (BX (T:=81) (i:=0) (off:=0) (by kernel_rfl) Tryz.X6.out (.t rfl) rfl) (aa.refl (ag .u8 (BG.Ty.toNat:Int)))) rfl ?_
  refine .p (cB aj [_]) rfl ?_
  refine .n (cE (h:=fN (st:=L0++s.1) (l:=[BG.Ty]) (tG:=L0++(bq s [BG.Ty]).1) (by simp only [List.length_append] at aq ⊢;omega) (by simp) (by simp [bq]))) rfl fun L8 h48=> ?_
  refine Z9 ?_
  refine .jy (Post.aN rfl ((L8,bq s [BG.Ty])) (by exact .inl ⟨by unfold dM;omega,by rw [AF c3];rw [show (cn m f).ay=m.ay.map (·.Ty) from rfl,bP,RV];rfl⟩) (fun _ _ _ h=>h) (.rt rfl) ?_)
  exact aa.prop ⟨fun _=>by unfold dM;omega,fun _=>trivial⟩
 refine Z6 ?_
 refine Cd (fun c4=> ?_) fun c4=> ?_
 ·
  refine Z5 ?_
  refine .x (cX (h:=th aT dh.A0)) rfl (fun h=>⟨by unfold dM;omega,by rw [rY c4];rw [show (cn m f).ay=m.ay.map (·.Ty) from rfl,bP,h];rfl⟩) fun YU Tq=> ?_
  refine .n (az FZ.out) rfl fun b6 _=> ?_
  refine Z3 ?_
  refine .share (t:=6) (i:=0) rfl rfl ?_
  refine Z4 ?_
  refine .x (cX (h:=ee (e:=5) (by decide))) rfl (fun h=>⟨by unfold dM;omega,by rw [rY c4];rw [show (cn m f).ay=m.ay.map (·.Ty) from rfl,show (cn m f).eI=m.ay.map (·.eI) from rfl,bP,bP,Tq];simp only [Option.map_some,Option.bind_some];rw [if_neg h]⟩) fun RS WQ=> ?_
  refine Z6 ?_
  refine .x (cX (h:=ez (s:=s) (w:=YU.Ty))) rfl (fun h=>⟨by unfold dM;omega,by rw [rY c4];rw [show (cn m f).ay=m.ay.map (·.Ty) from rfl,show (cn m f).eI=m.ay.map (·.eI) from rfl,bP,bP,Tq];simp only [Option.map_some,Option.bind_some];rw [if_pos WQ,fm,h];rfl⟩) fun CH NI=> ?_
  refine Z9 ?_
  refine .jy (Post.aN rfl ((gs,CH.1)) (by exact .inl ⟨by unfold dM;omega,by rw [rY c4];rw [show (cn m f).ay=m.ay.map (·.Ty) from rfl,show (cn m f).eI=m.ay.map (·.eI) from rfl,bP,bP,Tq];simp only [Option.map_some,Option.bind_some];rw [if_pos WQ,fm,NI];rfl⟩) (fun _ _ _ h=>h) (.rt rfl) ?_)
  exact aa.prop ⟨fun _=>by unfold dM;omega,fun _=>trivial⟩
 refine Z8 ?_
 refine .jy (Post.aN rfl ((gs,s)) (by exact .inr ⟨by unfold dM;omega,rfl⟩) (fun _ _ _ h=>h) (.rt rfl) ?_)
 exact aa.prop ⟨fun h=>h.elim,fun h=>by unfold dM at h;omega⟩
theorem oU {s:List UInt8}:cQ Tryz.prog 308 [cM l,cM s] (ak (kY l s)):=by
 refine In 21 Tryz.func308 fun _ _ _=> ?_
 refine .fact (t:=0) rfl (fun S w v h=>fR h) fun hl=> ?_
 refine .fact (t:=1) rfl (fun S w v h=>fR h) fun GA=> ?_
 refine Eh ?_
 refine .g (cr.gT rfl rfl rfl rfl (fun hg=>wo FU.out (.when (.t rfl) hg) (.when (.t rfl) hg) (by omega:_=((l.length-s.length:Nat):Int)) (by omega))) rfl rfl ?_
 refine Z7 ?_
 refine bJ ?_
 exact aa.prop (by unfold kY;constructor<;>(rintro ⟨h1,h2⟩;exact ⟨by omega,h2⟩))
theorem vt {s:List UInt8}:cQ Tryz.prog 309 [cM l,cM s] (ak (tQ l s)):=by
 refine In 18 Tryz.func309 fun _ _ _=> ?_
 refine .fact (t:=0) rfl (fun S w v h=>fR h) fun hl=> ?_
 refine .fact (t:=1) rfl (fun S w v h=>fR h) fun GA=> ?_
 refine BY ?_
 refine .g (cr.gT rfl rfl rfl rfl (fun hg=>rz FU.out (.when (.t rfl) hg) (.when (.t rfl) hg) rfl (by omega))) rfl rfl ?_
 refine Z7 ?_
 refine bJ ?_
 exact aa.prop (by unfold tQ;constructor<;>(rintro ⟨h1,h2⟩;exact ⟨by omega,h2⟩))
theorem xX {s:List UInt8}:cQ Tryz.prog 298 [cM l,cM s] (ak (kY l s)):=by
 refine In 8 Tryz.func298 fun _ _ _=> ?_
 refine Z9 ?_
 refine .p (cA (h:=oU)) rfl ?_
 refine Z4 ?_
 refine bJ ?_
 exact aa.refl _
theorem xY {s:List UInt8}:cQ Tryz.prog 299 [cM l,cM s] (ak (tQ l s)):=by
 refine In 8 Tryz.func299 fun _ _ _=> ?_
 refine Z9 ?_
 refine .p (cA (h:=vt)) rfl ?_
 refine Z4 ?_
 refine bJ ?_
 exact aa.refl _
theorem uB {s:List UInt8}:cQ Tryz.prog 307 [cM l,cM s] (cM (qv l s)):=by
 refine In 16 Tryz.func307 fun _ _ _=> ?_
 refine .fact (t:=0) rfl (fun S w v h=>fR h) fun hl=> ?_
 refine .fact (t:=1) rfl (fun S w v h=>fR h) fun GA=> ?_
 refine Z2 ?_
 refine .p (aX (.s [] rfl rfl)) rfl ?_
 refine Z7 ?_
 refine .p (cA (h:=oU)) rfl ?_
 refine Z2 ?_
 refine Cd (fun c0=> ?_) fun c0=> ?_
 ·
  have hle:=c0.1
  refine Z8 ?_
  refine .p (rz FU.out (.t rfl) (.t rfl) (by omega:_=((l.length-s.length:Nat):Int)) (by omega)) rfl ?_
  refine Z5 ?_
  refine bJ ?_
  exact aa.of_eq (by unfold qv;rw [if_pos c0])
 refine Z9 ?_
 refine bJ ?_
 exact aa.of_eq (by unfold qv;rw [if_neg c0])
theorem oV {s:List UInt8}:cQ Tryz.prog 297 [cM l,cM s] (cM (qv l s)):=by
 refine In 8 Tryz.func297 fun _ _ _=> ?_
 refine Z2 ?_
 refine .p (aX (.s [] rfl rfl)) rfl ?_
 refine Z6 ?_
 refine .p (cA (h:=uB)) rfl ?_
 refine Z4 ?_
 refine bJ ?_
 exact aa.refl _
variable {b:UInt8}
theorem AP:cQ Tryz.prog 312 [cM l,ag .u8 (b.toNat:Int)] (ag .i64 (Lib.indexByte l b)):=by
 refine In 8 Tryz.func312 fun _ _ _=> ?_
 refine Z9 ?_
 refine .p (D8 Tryz.SE (.cons (.t rfl) (.cons (.t rfl) .nil))) rfl ?_
 refine Z4 ?_
 refine bJ ?_
 exact aa.refl _
theorem Jj (aq:l≠[b]):cQ Tryz.prog 311 [cM l,cM [b]] (ag .i64 (Lib.indexByte l b)):=by
 refine In 143 Tryz.func311 fun _ _ _=> ?_
 refine XH ?_
 refine Cd (fun c0=> ?_) fun c0=> ?_
 · exfalso;simp at c0;exact aq c0.symm
 refine Z7 ?_
 refine Cd (fun c1=> ?_) fun c1=> ?_
 ·
  refine Z4 ?_
  refine .p (jv FU.out (.t rfl) (.c _) rfl (show [b][0]?=some b from rfl)) rfl ?_
  refine .p (cA (h:=AP)) rfl ?_
  refine Z6 ?_
  refine bJ ?_
  exact aa.refl _
 exact absurd rfl c1
theorem Jk (aq:l≠[b]):cQ Tryz.prog 306 [cM l,cM [b]] (bz [cM (tR l b).1,cM (tR l b).2.1,ak ((tR l b).2.2=true)]):=by
 refine In 23 Tryz.func306 fun _ _ _=> ?_
 refine .fact (t:=0) rfl (fun S w v h=>fR h) fun hl=> ?_
 have hlt:=zR l b
 refine Z2 ?_
 refine .p (aX (.s [] rfl rfl)) rfl ?_
 refine .p (aX (.s [] rfl rfl)) rfl ?_
 refine Z8 ?_
 refine .p (cA (h:=Jj aq)) rfl ?_
 refine Z9 ?_
 refine Cd (fun c0=> ?_) fun c0=> ?_
 ·
  have hj:Lib.indexByte l b=(((Lib.indexByte l b).toNat:Nat):Int):=by omega
  refine Z1 ?_
  refine .bA 10 2 FM.out (by kernel_rfl) (k:= ?_)
  refine Z2 ?_
  refine .p (rz FU.out (.t rfl) (.t rfl) hj (by omega)) ?_
  refine Z4 ?_
  refine .p (eX (.t rfl) (.t rfl) (bN (by simp only [List.length_cons,List.length_nil];omega) (by simp only [List.length_cons,List.length_nil];omega))) ?_
  refine .p (wo FU.out (.t rfl) (.t rfl) (by simp only [List.length_cons,List.length_nil];omega:_=(((Lib.indexByte l b).toNat+1:Nat):Int)) (by omega)) ?_
  refine Z8 ?_
  refine O0 ?_ ?_ ?_
  · exact aa.of_eq (by unfold tR;rw [if_pos c0])
  · exact aa.of_eq (by unfold tR;rw [if_pos c0])
  exact aa.prop (by unfold tR;rw [if_pos c0];simp)
 refine Z6 ?_
 refine .p (aX (.s [] rfl rfl)) rfl ?_
 refine Z4 ?_
 refine O0 ?_ ?_ ?_
 · exact aa.of_eq (by unfold tR;rw [if_neg c0])
 · exact aa.of_eq (by unfold tR;rw [if_neg c0])
 exact aa.prop (by unfold tR;rw [if_neg c0];simp)
theorem L9 (aq:l≠[b]):cQ Tryz.prog 296 [cM l,cM [b]] (bz [cM (tR l b).1,cM (tR l b).2.1,ak ((tR l b).2.2=true)]):=by
 refine In 13 Tryz.func296 fun _ _ _=> ?_
 refine Z2 ?_
 refine .p (aX (.s [] rfl rfl)) rfl ?_
 refine .p (aX (.s [] rfl rfl)) rfl ?_
 refine Z7 ?_
 refine .p (cA (h:=Jk aq)) rfl ?_
 refine Z9 ?_
 refine O0 ?_ ?_ ?_
 · exact aa.refl _
 · exact aa.refl _
 exact aa.refl _
theorem rj:cQ Tryz.prog 303 [] (aE (IW.flatMap iX)):=by
 refine In 2 Tryz.func303 fun _ _ _=> ?_
 refine Z2 ?_
 refine .n (az FZ.out) rfl fun b0 _=> ?_
 refine Z4 ?_
 refine .p (fJ (cs:=IW.flatMap iX) FR.out FZ.out (.cons (.s [97,100,100] rfl rfl) (.cons (.s [115,117,98] rfl rfl) (.cons (.s [109,117,108] rfl rfl) (.cons (.s [100,105,118,95,115] rfl rfl) (.cons (.s [100,105,118,95,117] rfl rfl) (.cons (.s [114,101,109,95,115] rfl rfl) (.cons (.s [114,101,109,95,117] rfl rfl) (.cons (.s [97,110,100] rfl rfl) (.cons (.s [111,114] rfl rfl) (.cons (.s [120,111,114] rfl rfl) (.cons (.s [115,104,108] rfl rfl) (.cons (.s [115,104,114,95,115] rfl rfl) (.cons (.s [115,104,114,95,117] rfl rfl) (.cons (.s [114,111,116,108] rfl rfl) (.cons (.s [114,111,116,114] rfl rfl) .nil))))))))))))))) rfl) rfl ?_
 refine Z4 ?_
 refine Post.aN rfl () trivial (fun _ _ _ _=>trivial) (.ra (i:=0) FA.out FC.out rfl rfl rfl rfl) ?_
 exact aa.refl _
theorem xZ:cQ Tryz.prog 304 [] (aE (zo.flatMap iX)):=by
 refine In 2 Tryz.func304 fun _ _ _=> ?_
 refine Z2 ?_
 refine .n (az FZ.out) rfl fun b0 _=> ?_
 refine Z4 ?_
 refine .p (fJ (cs:=zo.flatMap iX) FR.out FZ.out (.cons (.s [101,113] rfl rfl) (.cons (.s [110,101] rfl rfl) (.cons (.s [108,116,95,115] rfl rfl) (.cons (.s [108,116,95,117] rfl rfl) (.cons (.s [103,116,95,115] rfl rfl) (.cons (.s [103,116,95,117] rfl rfl) (.cons (.s [108,101,95,115] rfl rfl) (.cons (.s [108,101,95,117] rfl rfl) (.cons (.s [103,101,95,115] rfl rfl) (.cons (.s [103,101,95,117] rfl rfl) .nil)))))))))) rfl) rfl ?_
 refine Z4 ?_
 refine Post.aN rfl () trivial (fun _ _ _ _=>trivial) (.ra (i:=0) FA.out FC.out rfl rfl rfl rfl) ?_
 exact aa.refl _
theorem lI:cQ Tryz.prog 305 [] (aE (NP.flatMap iX)):=by
 refine In 2 Tryz.func305 fun _ _ _=> ?_
 refine Z2 ?_
 refine .n (az FZ.out) rfl fun b0 _=> ?_
 refine Z4 ?_
 refine .p (fJ (cs:=NP.flatMap iX) FR.out FZ.out (.cons (.s [99,108,122] rfl rfl) (.cons (.s [99,116,122] rfl rfl) (.cons (.s [112,111,112,99,110,116] rfl rfl) (.cons (.s [101,113,122] rfl rfl) .nil)))) rfl) rfl ?_
 refine Z4 ?_
 refine Post.aN rfl () trivial (fun _ _ _ _=>trivial) (.ra (i:=0) FA.out FC.out rfl rfl rfl rfl) ?_
 exact aa.refl _
theorem Jl:cQ Tryz.prog 290 [] (aE (gG.flatMap fB)):=by
 refine In 49 Tryz.func290 fun _ _ _=> ?_
 refine Z2 ?_
 refine .n (az FZ.out) rfl fun b0 _=> ?_
 refine Z4 ?_
 refine .p (aL FP.out FZ.out (.cons (.c _) (.cons (.s [117,110,114,101,97,99,104,97,98,108,101] rfl rfl) (.cons (.c _) (.cons (.s [] rfl rfl) (.cons (.s [] rfl rfl) .nil))))) rfl) rfl ?_
 refine .p (aL FP.out FZ.out (.cons (.c _) (.cons (.s [110,111,112] rfl rfl) (.cons (.c _) (.cons (.s [] rfl rfl) (.cons (.s [] rfl rfl) .nil))))) rfl) rfl ?_
 refine .p (aL FP.out FZ.out (.cons (.c _) (.cons (.s [98,108,111,99,107] rfl rfl) (.cons (.c _) (.cons (.s [] rfl rfl) (.cons (.s [] rfl rfl) .nil))))) rfl) rfl ?_
 refine .p (aL FP.out FZ.out (.cons (.c _) (.cons (.s [108,111,111,112] rfl rfl) (.cons (.c _) (.cons (.s [] rfl rfl) (.cons (.s [] rfl rfl) .nil))))) rfl) rfl ?_
 refine .p (aL FP.out FZ.out (.cons (.c _) (.cons (.s [105,102] rfl rfl) (.cons (.c _) (.cons (.s [] rfl rfl) (.cons (.s [] rfl rfl) .nil))))) rfl) rfl ?_
 refine .p (aL FP.out FZ.out (.cons (.c _) (.cons (.s [101,108,115,101] rfl rfl) (.cons (.c _) (.cons (.s [] rfl rfl) (.cons (.s [] rfl rfl) .nil))))) rfl) rfl ?_
 refine .p (aL FP.out FZ.out (.cons (.c _) (.cons (.s [101,110,100] rfl rfl) (.cons (.c _) (.cons (.s [] rfl rfl) (.cons (.s [] rfl rfl) .nil))))) rfl) rfl ?_
 refine .p (aL FP.out FZ.out (.cons (.c _) (.cons (.s [98,114] rfl rfl) (.cons (.c _) (.cons (.s [] rfl rfl) (.cons (.s [] rfl rfl) .nil))))) rfl) rfl ?_
 refine .p (aL FP.out FZ.out (.cons (.c _) (.cons (.s [98,114,95,105,102] rfl rfl) (.cons (.c _) (.cons (.s [] rfl rfl) (.cons (.s [] rfl rfl) .nil))))) rfl) rfl ?_
 refine .p (aL FP.out FZ.out (.cons (.c _) (.cons (.s [98,114,95,116,97,98,108,101] rfl rfl) (.cons (.c _) (.cons (.s [] rfl rfl) (.cons (.s [] rfl rfl) .nil))))) rfl) rfl ?_
 refine .p (aL FP.out FZ.out (.cons (.c _) (.cons (.s [114,101,116,117,114,110] rfl rfl) (.cons (.c _) (.cons (.s [] rfl rfl) (.cons (.s [] rfl rfl) .nil))))) rfl) rfl ?_
 refine .p (aL FP.out FZ.out (.cons (.c _) (.cons (.s [99,97,108,108] rfl rfl) (.cons (.c _) (.cons (.s [] rfl rfl) (.cons (.s [] rfl rfl) .nil))))) rfl) rfl ?_
 refine .p (aL FP.out FZ.out (.cons (.c _) (.cons (.s [99,97,108,108,95,105,110,100,105,114,101,99,116] rfl rfl) (.cons (.c _) (.cons (.s [] rfl rfl) (.cons (.s [] rfl rfl) .nil))))) rfl) rfl ?_
 refine .p (aL FP.out FZ.out (.cons (.c _) (.cons (.s [100,114,111,112] rfl rfl) (.cons (.c _) (.cons (.s [] rfl rfl) (.cons (.s [] rfl rfl) .nil))))) rfl) rfl ?_
 refine .p (aL FP.out FZ.out (.cons (.c _) (.cons (.s [115,101,108,101,99,116] rfl rfl) (.cons (.c _) (.cons (.s [] rfl rfl) (.cons (.s [] rfl rfl) .nil))))) rfl) rfl ?_
 refine .p (aL FP.out FZ.out (.cons (.c _) (.cons (.s [108,111,99,97,108,46,103,101,116] rfl rfl) (.cons (.c _) (.cons (.s [] rfl rfl) (.cons (.s [] rfl rfl) .nil))))) rfl) rfl ?_
 refine .p (aL FP.out FZ.out (.cons (.c _) (.cons (.s [108,111,99,97,108,46,115,101,116] rfl rfl) (.cons (.c _) (.cons (.s [] rfl rfl) (.cons (.s [] rfl rfl) .nil))))) rfl) rfl ?_
 refine .p (aL FP.out FZ.out (.cons (.c _) (.cons (.s [108,111,99,97,108,46,116,101,101] rfl rfl) (.cons (.c _) (.cons (.s [] rfl rfl) (.cons (.s [] rfl rfl) .nil))))) rfl) rfl ?_
 refine .p (aL FP.out FZ.out (.cons (.c _) (.cons (.s [103,108,111,98,97,108,46,103,101,116] rfl rfl) (.cons (.c _) (.cons (.s [] rfl rfl) (.cons (.s [] rfl rfl) .nil))))) rfl) rfl ?_
 refine .p (aL FP.out FZ.out (.cons (.c _) (.cons (.s [103,108,111,98,97,108,46,115,101,116] rfl rfl) (.cons (.c _) (.cons (.s [] rfl rfl) (.cons (.s [] rfl rfl) .nil))))) rfl) rfl ?_
 refine .p (aL FP.out FZ.out (.cons (.c _) (.cons (.s [105,51,50,46,108,111,97,100] rfl rfl) (.cons (.c _) (.cons (.s [105] rfl rfl) (.cons (.s [105] rfl rfl) .nil))))) rfl) rfl ?_
 refine .p (aL FP.out FZ.out (.cons (.c _) (.cons (.s [105,54,52,46,108,111,97,100] rfl rfl) (.cons (.c _) (.cons (.s [105] rfl rfl) (.cons (.s [108] rfl rfl) .nil))))) rfl) rfl ?_
 refine .p (aL FP.out FZ.out (.cons (.c _) (.cons (.s [105,51,50,46,108,111,97,100,56,95,115] rfl rfl) (.cons (.c _) (.cons (.s [105] rfl rfl) (.cons (.s [105] rfl rfl) .nil))))) rfl) rfl ?_
 refine .p (aL FP.out FZ.out (.cons (.c _) (.cons (.s [105,51,50,46,108,111,97,100,56,95,117] rfl rfl) (.cons (.c _) (.cons (.s [105] rfl rfl) (.cons (.s [105] rfl rfl) .nil))))) rfl) rfl ?_
 refine .p (aL FP.out FZ.out (.cons (.c _) (.cons (.s [105,51,50,46,108,111,97,100,49,54,95,115] rfl rfl) (.cons (.c _) (.cons (.s [105] rfl rfl) (.cons (.s [105] rfl rfl) .nil))))) rfl) rfl ?_
 refine .p (aL FP.out FZ.out (.cons (.c _) (.cons (.s [105,51,50,46,108,111,97,100,49,54,95,117] rfl rfl) (.cons (.c _) (.cons (.s [105] rfl rfl) (.cons (.s [105] rfl rfl) .nil))))) rfl) rfl ?_
 refine .p (aL FP.out FZ.out (.cons (.c _) (.cons (.s [105,54,52,46,108,111,97,100,56,95,115] rfl rfl) (.cons (.c _) (.cons (.s [105] rfl rfl) (.cons (.s [108] rfl rfl) .nil))))) rfl) rfl ?_
 refine .p (aL FP.out FZ.out (.cons (.c _) (.cons (.s [105,54,52,46,108,111,97,100,56,95,117] rfl rfl) (.cons (.c _) (.cons (.s [105] rfl rfl) (.cons (.s [108] rfl rfl) .nil))))) rfl) rfl ?_
 refine .p (aL FP.out FZ.out (.cons (.c _) (.cons (.s [105,54,52,46,108,111,97,100,49,54,95,115] rfl rfl) (.cons (.c _) (.cons (.s [105] rfl rfl) (.cons (.s [108] rfl rfl) .nil))))) rfl) rfl ?_
 refine .p (aL FP.out FZ.out (.cons (.c _) (.cons (.s [105,54,52,46,108,111,97,100,49,54,95,117] rfl rfl) (.cons (.c _) (.cons (.s [105] rfl rfl) (.cons (.s [108] rfl rfl) .nil))))) rfl) rfl ?_
 refine .p (aL FP.out FZ.out (.cons (.c _) (.cons (.s [105,54,52,46,108,111,97,100,51,50,95,115] rfl rfl) (.cons (.c _) (.cons (.s [105] rfl rfl) (.cons (.s [108] rfl rfl) .nil))))) rfl) rfl ?_
 refine .p (aL FP.out FZ.out (.cons (.c _) (.cons (.s [105,54,52,46,108,111,97,100,51,50,95,117] rfl rfl) (.cons (.c _) (.cons (.s [105] rfl rfl) (.cons (.s [108] rfl rfl) .nil))))) rfl) rfl ?_
 refine .p (aL FP.out FZ.out (.cons (.c _) (.cons (.s [105,51,50,46,115,116,111,114,101] rfl rfl) (.cons (.c _) (.cons (.s [105,105] rfl rfl) (.cons (.s [] rfl rfl) .nil))))) rfl) rfl ?_
 refine .p (aL FP.out FZ.out (.cons (.c _) (.cons (.s [105,54,52,46,115,116,111,114,101] rfl rfl) (.cons (.c _) (.cons (.s [105,108] rfl rfl) (.cons (.s [] rfl rfl) .nil))))) rfl) rfl ?_
 refine .p (aL FP.out FZ.out (.cons (.c _) (.cons (.s [105,51,50,46,115,116,111,114,101,56] rfl rfl) (.cons (.c _) (.cons (.s [105,105] rfl rfl) (.cons (.s [] rfl rfl) .nil))))) rfl) rfl ?_
 refine .p (aL FP.out FZ.out (.cons (.c _) (.cons (.s [105,51,50,46,115,116,111,114,101,49,54] rfl rfl) (.cons (.c _) (.cons (.s [105,105] rfl rfl) (.cons (.s [] rfl rfl) .nil))))) rfl) rfl ?_
 refine .p (aL FP.out FZ.out (.cons (.c _) (.cons (.s [105,54,52,46,115,116,111,114,101,56] rfl rfl) (.cons (.c _) (.cons (.s [105,108] rfl rfl) (.cons (.s [] rfl rfl) .nil))))) rfl) rfl ?_
 refine .p (aL FP.out FZ.out (.cons (.c _) (.cons (.s [105,54,52,46,115,116,111,114,101,49,54] rfl rfl) (.cons (.c _) (.cons (.s [105,108] rfl rfl) (.cons (.s [] rfl rfl) .nil))))) rfl) rfl ?_
 refine .p (aL FP.out FZ.out (.cons (.c _) (.cons (.s [105,54,52,46,115,116,111,114,101,51,50] rfl rfl) (.cons (.c _) (.cons (.s [105,108] rfl rfl) (.cons (.s [] rfl rfl) .nil))))) rfl) rfl ?_
 refine .p (aL FP.out FZ.out (.cons (.c _) (.cons (.s [109,101,109,111,114,121,46,115,105,122,101] rfl rfl) (.cons (.c _) (.cons (.s [] rfl rfl) (.cons (.s [105] rfl rfl) .nil))))) rfl) rfl ?_
 refine .p (aL FP.out FZ.out (.cons (.c _) (.cons (.s [109,101,109,111,114,121,46,103,114,111,119] rfl rfl) (.cons (.c _) (.cons (.s [105] rfl rfl) (.cons (.s [105] rfl rfl) .nil))))) rfl) rfl ?_
 refine .p (aL FP.out FZ.out (.cons (.c _) (.cons (.s [105,51,50,46,99,111,110,115,116] rfl rfl) (.cons (.c _) (.cons (.s [] rfl rfl) (.cons (.s [105] rfl rfl) .nil))))) rfl) rfl ?_
 refine .p (aL FP.out FZ.out (.cons (.c _) (.cons (.s [105,54,52,46,99,111,110,115,116] rfl rfl) (.cons (.c _) (.cons (.s [] rfl rfl) (.cons (.s [108] rfl rfl) .nil))))) rfl) rfl ?_
 refine .p (aL FP.out FZ.out (.cons (.c _) (.cons (.s [105,51,50,46,119,114,97,112,95,105,54,52] rfl rfl) (.cons (.c _) (.cons (.s [108] rfl rfl) (.cons (.s [105] rfl rfl) .nil))))) rfl) rfl ?_
 refine .p (aL FP.out FZ.out (.cons (.c _) (.cons (.s [105,54,52,46,101,120,116,101,110,100,95,105,51,50,95,115] rfl rfl) (.cons (.c _) (.cons (.s [105] rfl rfl) (.cons (.s [108] rfl rfl) .nil))))) rfl) rfl ?_
 refine .p (aL FP.out FZ.out (.cons (.c _) (.cons (.s [105,54,52,46,101,120,116,101,110,100,95,105,51,50,95,117] rfl rfl) (.cons (.c _) (.cons (.s [105] rfl rfl) (.cons (.s [108] rfl rfl) .nil))))) rfl) rfl ?_
 refine .p (aL FP.out FZ.out (.cons (.c _) (.cons (.s [105,51,50,46,101,120,116,101,110,100,56,95,115] rfl rfl) (.cons (.c _) (.cons (.s [105] rfl rfl) (.cons (.s [105] rfl rfl) .nil))))) rfl) rfl ?_
 refine .p (fJ (cs:=gG.flatMap fB) FR.out FZ.out (.cons (.t rfl) (.cons (.t rfl) (.cons (.t rfl) (.cons (.t rfl) (.cons (.t rfl) (.cons (.t rfl) (.cons (.t rfl) (.cons (.t rfl) (.cons (.t rfl) (.cons (.t rfl) (.cons (.t rfl) (.cons (.t rfl) (.cons (.t rfl) (.cons (.t rfl) (.cons (.t rfl) (.cons (.t rfl) (.cons (.t rfl) (.cons (.t rfl) (.cons (.t rfl) (.cons (.t rfl) (.cons (.t rfl) (.cons (.t rfl) (.cons (.t rfl) (.cons (.t rfl) (.cons (.t rfl) (.cons (.t rfl) (.cons (.t rfl) (.cons (.t rfl) (.cons (.t rfl) (.cons (.t rfl) (.cons (.t rfl) (.cons (.t rfl) (.cons (.t rfl) (.cons (.t rfl) (.cons (.t rfl) (.cons (.t rfl) (.cons (.t rfl) (.cons (.t rfl) (.cons (.t rfl) (.cons (.t rfl) (.cons (.t rfl) (.cons (.t rfl) (.cons (.t rfl) (.cons (.t rfl) (.cons (.t rfl) (.cons (.t rfl) (.cons (.t rfl) .nil))))))))))))))))))))))))))))))))))))))))))))))) rfl) rfl ?_
 refine Z4 ?_
 refine Post.aN rfl () trivial (fun _ _ _ _=>trivial) (.ra (i:=0) FA.out FC.out rfl rfl rfl rfl) ?_
 exact aa.refl _
theorem Jm:cQ Tryz.prog 291 [] (aE (iG.flatMap fB)):=by
 refine In 8 Tryz.func291 fun _ _ _=> ?_
 refine Z2 ?_
 refine .n (az FZ.out) rfl fun b0 _=> ?_
 refine Z4 ?_
 refine .p (aL FP.out FZ.out (.cons (.c _) (.cons (.s [105,51,50,46,101,120,116,101,110,100,49,54,95,115] rfl rfl) (.cons (.c _) (.cons (.s [105] rfl rfl) (.cons (.s [105] rfl rfl) .nil))))) rfl) rfl ?_
 refine .p (aL FP.out FZ.out (.cons (.c _) (.cons (.s [105,54,52,46,101,120,116,101,110,100,56,95,115] rfl rfl) (.cons (.c _) (.cons (.s [108] rfl rfl) (.cons (.s [108] rfl rfl) .nil))))) rfl) rfl ?_
 refine .p (aL FP.out FZ.out (.cons (.c _) (.cons (.s [105,54,52,46,101,120,116,101,110,100,49,54,95,115] rfl rfl) (.cons (.c _) (.cons (.s [108] rfl rfl) (.cons (.s [108] rfl rfl) .nil))))) rfl) rfl ?_
 refine .p (aL FP.out FZ.out (.cons (.c _) (.cons (.s [105,54,52,46,101,120,116,101,110,100,51,50,95,115] rfl rfl) (.cons (.c _) (.cons (.s [108] rfl rfl) (.cons (.s [108] rfl rfl) .nil))))) rfl) rfl ?_
 refine .p (aL FP.out FZ.out (.cons (.c _) (.cons (.s [109,101,109,111,114,121,46,99,111,112,121] rfl rfl) (.cons (.c _) (.cons (.s [105,105,105] rfl rfl) (.cons (.s [] rfl rfl) .nil))))) rfl) rfl ?_
 refine .p (aL FP.out FZ.out (.cons (.c _) (.cons (.s [109,101,109,111,114,121,46,102,105,108,108] rfl rfl) (.cons (.c _) (.cons (.s [105,105,105] rfl rfl) (.cons (.s [] rfl rfl) .nil))))) rfl) rfl ?_
 refine .p (fJ (cs:=iG.flatMap fB) FR.out FZ.out (.cons (.t rfl) (.cons (.t rfl) (.cons (.t rfl) (.cons (.t rfl) (.cons (.t rfl) (.cons (.t rfl) .nil)))))) rfl) rfl ?_
 refine Z4 ?_
 refine Post.aN rfl () trivial (fun _ _ _ _=>trivial) (.ra (i:=0) FA.out FC.out rfl rfl rfl rfl) ?_
 exact aa.refl _
theorem FH:cQ Tryz.prog 310 [] (aE (fC.flatMap qG)):=by
 refine In 10 Tryz.func310 fun _ _ _=> ?_
 refine Z2 ?_
 refine .n (az FZ.out) rfl fun b0 _=> ?_
 refine dH ?_
 refine .p (fJ (cs:=fC.flatMap qG) FR.out FZ.out (.cons (.t rfl) (.cons (.t rfl) (.cons (.t rfl) (.cons (.t rfl) (.cons (.t rfl) (.cons (.t rfl) (.cons (.t rfl) (.cons (.t rfl) .nil)))))))) rfl) rfl ?_
 refine Z4 ?_
 refine Post.aN rfl () trivial (fun _ _ _ _=>trivial) (.ra (i:=0) FA.out FC.out rfl rfl rfl rfl) ?_
 exact aa.refl _
variable {code:Int}
theorem AQ:cQ Tryz.prog 302 [ag .i64 code] (bz [ag .i64 ((qf code).getD (0,0,0)).1,ag .i64 ((qf code).getD (0,0,0)).2.1,ag .i64 ((qf code).getD (0,0,0)).2.2,ak (qf code).isSome]):=by
 refine In 37 Tryz.func302 fun _ _ _=> ?_
 refine dw ?_
 refine .p (cA (h:=FH)) rfl ?_
 refine Z4 ?_
 refine .aY (σ:=Nat) (fun _=>[]) (fun k=>[(9,ag .i64 (k:Int))]) (fun k=>k≤fC.length∧cD (fun s=>ni code s=true) fC k) (fun k=>fC.length-k) 0 ⟨by omega,cD.zero _ _⟩ rfl ?_ ?_
 · exact (.get rfl (aa.refl _) (.refl _ _))
 rintro k ⟨hk,hn⟩
 refine Z6 ?_
 refine Cd (fun c0=> ?_) fun c0=> ?_
 ·
  have Di:k<fC.length:=by have:fC.length=8:=rfl;omega
  obtain ⟨x,MO⟩:=ai (xs:=fC) (k:=k) Di
  have hb:=LJ x (List.mem_of_getElem? MO)
  refine Z6 ?_
  refine .p (sF fC FU.out FC.out rfl FA.out (.t rfl) rfl rfl (.t rfl) rfl (by assumption)) rfl ?_
  refine .n (az FZ.out) rfl fun b7 _=> ?_
  refine Z3 ?_
  refine .share (t:=7) (i:=0) rfl rfl ?_
  refine J3 ?_
  refine Cd (fun c1=> ?_) fun c1=> ?_
  ·
   have hno:=NR MO (by simpa [ni] using c1) hn
   refine Z1 ?_
   refine .bA 13 2 FM.out (by kernel_rfl) (k:= ?_)
   refine XG ?_
   refine Rt4 ?_ ?_ ?_ ?_
   · exact aa.int (by rw [hno];rfl)
   · exact aa.int (by rw [hno];rfl)
   · exact aa.int (by rw [hno];rfl)
   exact aa.prop (by rw [hno];simp)
  refine Z7 ?_
  refine .round (k+1) ⟨by omega,hn.succ MO (by simpa [ni] using c1)⟩ (by omega) rfl ?_
  exact (.get rfl (aa.int (by omega)) (.keep 20 rfl rfl))
 have M4:k=fC.length:=by have:fC.length=8:=rfl;omega
 subst M4
 refine iw ?_
 refine Rt4 ?_ ?_ ?_ ?_
 · exact aa.int (by rw [qH hn];rfl)
 · exact aa.int (by rw [qH hn];rfl)
 · exact aa.int (by rw [qH hn];rfl)
 exact aa.prop (by rw [qH hn];simp)
theorem yB:cQ Tryz.prog 292 [ag .i64 code] (bz [aE (fB ((fE code).getD Pu)),ak (fE code).isSome]):=by
 refine In 69 Tryz.func292 fun _ _ _=> ?_
 refine Z2 ?_
 refine .n (az FZ.out) rfl fun b2 _=> ?_
 refine Z6 ?_
 refine .p (cA (h:=AQ)) rfl ?_
 refine DP ?_
 refine Cd (fun c0=> ?_) fun c0=> ?_
 ·
  have hno:qf code=none:=by simpa using c0
  have hnm:=yt hno
  refine Z9 ?_
  refine Post.aZ rfl rfl () trivial (fun _ _ _ _=>trivial) rfl (.cons (.ra (i:=0) FA.out FC.out rfl rfl rfl rfl) ?_ (.cons (.rt rfl) ?_ .nil))
  · simp only [hnm,Option.getD_none];exact aa.agg (.cons (aa.refl _) (.cons pE (.cons (aa.refl _) (.cons pE (.cons pE .nil)))))
  exact aa.prop (by rw [hnm];simp)
 obtain ⟨⟨g,n,b⟩,hno⟩:=Option.isSome_iff_exists.1 (Classical.not_not.1 c0)
 obtain ⟨hn0,hng,hnb⟩:=CU hno
 have hnm:=yq hno
 simp only [hno,Option.getD_some]
 have Bl:=CW b
 have hlb:=s4 CX n.toNat
 have hlt:=s4 zq n.toNat
 have hlu:=s4 AA n.toNat
 refine Z4 ?_
 refine .p (aX (.s [105,51,50,46] rfl rfl)) rfl ?_
 refine .p (aX (.s [105] rfl rfl)) rfl ?_
 refine Z9 ?_
 refine Cd (fun c1=> ?_) fun c1=> ?_
 ·
  refine Z1 ?_
  refine .p (aX (.s [105,54,52,46] rfl rfl)) rfl ?_
  refine .p (aX (.s [108] rfl rfl)) rfl ?_
  refine dw ?_
  refine Cd (fun c2=> ?_) fun c2=> ?_
  ·
   refine Z4 ?_
   refine .p (cA (h:=rj)) rfl ?_
   refine Z1 ?_
   refine .p (iA FU.out FC.out FA.out (.t rfl) rfl (.t rfl) (by omega:_=((n.toNat:Nat):Int)) (lE (by have:IW.length=15:=rfl;omega))) rfl ?_
   refine .p (oN (.t rfl) (.t rfl) (by simp only [List.length_cons,List.length_nil];omega)) rfl ?_
   refine Z2 ?_
   refine .p (oN (.t rfl) (.t rfl) (by simp only [List.length_cons,List.length_nil];omega)) rfl ?_
   refine Z9 ?_
   refine Post.aZ rfl rfl () trivial (fun _ _ _ _=>trivial) rfl (.cons (.ra (i:=0) FA.out FC.out rfl rfl rfl rfl) ?_ (.cons (.rt rfl) ?_ .nil))
   · simp only [hnm,Option.getD_some];exact aa.of_eq (by simp [j4,fB,lz,mF, *];try rfl)
   exact aa.prop (by rw [hnm];simp)
  refine Z7 ?_
  refine Cd (fun c3=> ?_) fun c3=> ?_
  ·
   refine Z4 ?_
   refine .p (cA (h:=xZ)) rfl ?_
   refine Z1 ?_
   refine .p (iA FU.out FC.out FA.out (.t rfl) rfl (.t rfl) (by omega:_=((n.toNat:Nat):Int)) (lE (by have:zo.length=10:=rfl;omega))) rfl ?_
   refine .p (oN (.t rfl) (.t rfl) (by simp only [List.length_cons,List.length_nil];omega)) rfl ?_
   refine Z2 ?_
   refine .p (oN (.t rfl) (.t rfl) (by simp only [List.length_cons,List.length_nil];omega)) rfl ?_
   refine .p (aL FP.out FZ.out (.cons (.t rfl) (.cons (.t rfl) (.cons (.c _) (.cons (.t rfl) (.cons (.s [105] rfl rfl) .nil))))) rfl) rfl ?_
   refine Z7 ?_
   refine Post.aZ rfl rfl () trivial (fun _ _ _ _=>trivial) rfl (.cons (.ra (i:=0) FA.out FC.out rfl rfl rfl rfl) ?_ (.cons (.rt rfl) ?_ .nil))
   · simp only [hnm,Option.getD_some];exact aa.of_eq (by simp [j4,fB,lz,mF, *];try rfl)
   exact aa.prop (by rw [hnm];simp)
  refine Z7 ?_
  refine Cd (fun c4=> ?_) fun c4=> ?_
  ·
   refine Z4 ?_
   refine .p (cA (h:=lI)) rfl ?_
   refine Z1 ?_
   refine .p (iA FU.out FC.out FA.out (.t rfl) rfl (.t rfl) (by omega:_=((n.toNat:Nat):Int)) (lE (by have:NP.length=4:=rfl;omega))) rfl ?_
   refine .p (oN (.t rfl) (.t rfl) (by simp only [List.length_cons,List.length_nil];omega)) rfl ?_
   refine Z1 ?_
   refine .p (aL FP.out FZ.out (.cons (.t rfl) (.cons (.t rfl) (.cons (.c _) (.cons (.t rfl) (.cons (.s [105] rfl rfl) .nil))))) rfl) rfl ?_
   refine Z7 ?_
   refine Post.aZ rfl rfl () trivial (fun _ _ _ _=>trivial) rfl (.cons (.ra (i:=0) FA.out FC.out rfl rfl rfl rfl) ?_ (.cons (.rt rfl) ?_ .nil))
   · simp only [hnm,Option.getD_some];exact aa.of_eq (by simp [j4,fB,lz,mF, *];try rfl)
   exact aa.prop (by rw [hnm];simp)
  refine Z7 ?_
  refine .p (cA (h:=lI)) rfl ?_
  refine Z1 ?_
  refine .p (iA FU.out FC.out FA.out (.t rfl) rfl (.t rfl) (by omega:_=((n.toNat:Nat):Int)) (lE (by have:NP.length=4:=rfl;omega))) rfl ?_
  refine .p (oN (.t rfl) (.t rfl) (by simp only [List.length_cons,List.length_nil];omega)) rfl ?_
  refine Z8 ?_
  refine Post.aZ rfl rfl () trivial (fun _ _ _ _=>trivial) rfl (.cons (.ra (i:=0) FA.out FC.out rfl rfl rfl rfl) ?_ (.cons (.rt rfl) ?_ .nil))
  · simp only [hnm,Option.getD_some];exact aa.of_eq (by simp [j4,fB,lz,mF, *];try rfl)
  exact aa.prop (by rw [hnm];simp)
 refine dw ?_
 refine Cd (fun c5=> ?_) fun c5=> ?_
 ·
  refine Z4 ?_
  refine .p (cA (h:=rj)) rfl ?_
  refine Z1 ?_
  refine .p (iA FU.out FC.out FA.out (.t rfl) rfl (.t rfl) (by omega:_=((n.toNat:Nat):Int)) (lE (by have:IW.length=15:=rfl;omega))) rfl ?_
  refine .p (oN (.t rfl) (.t rfl) (by simp only [List.length_cons,List.length_nil];omega)) rfl ?_
  refine Z2 ?_
  refine .p (oN (.t rfl) (.t rfl) (by simp only [List.length_cons,List.length_nil];omega)) rfl ?_
  refine Z9 ?_
  refine Post.aZ rfl rfl () trivial (fun _ _ _ _=>trivial) rfl (.cons (.ra (i:=0) FA.out FC.out rfl rfl rfl rfl) ?_ (.cons (.rt rfl) ?_ .nil))
  · simp only [hnm,Option.getD_some];exact aa.of_eq (by simp [j4,fB,lz,mF, *];try rfl)
  exact aa.prop (by rw [hnm];simp)
 refine Z7 ?_
 refine Cd (fun c6=> ?_) fun c6=> ?_
 ·
  refine Z4 ?_
  refine .p (cA (h:=xZ)) rfl ?_
  refine Z1 ?_
  refine .p (iA FU.out FC.out FA.out (.t rfl) rfl (.t rfl) (by omega:_=((n.toNat:Nat):Int)) (lE (by have:zo.length=10:=rfl;omega))) rfl ?_
  refine .p (oN (.t rfl) (.t rfl) (by simp only [List.length_cons,List.length_nil];omega)) rfl ?_
  refine Z2 ?_
  refine .p (oN (.t rfl) (.t rfl) (by simp only [List.length_cons,List.length_nil];omega)) rfl ?_
  refine .p (aL FP.out FZ.out (.cons (.t rfl) (.cons (.t rfl) (.cons (.c _) (.cons (.t rfl) (.cons (.s [105] rfl rfl) .nil))))) rfl) rfl ?_
  refine Z7 ?_
  refine Post.aZ rfl rfl () trivial (fun _ _ _ _=>trivial) rfl (.cons (.ra (i:=0) FA.out FC.out rfl rfl rfl rfl) ?_ (.cons (.rt rfl) ?_ .nil))
  · simp only [hnm,Option.getD_some];exact aa.of_eq (by simp [j4,fB,lz,mF, *];try rfl)
  exact aa.prop (by rw [hnm];simp)
 refine Z7 ?_
 refine Cd (fun c7=> ?_) fun c7=> ?_
 ·
  refine Z4 ?_
  refine .p (cA (h:=lI)) rfl ?_
  refine Z1 ?_
  refine .p (iA FU.out FC.out FA.out (.t rfl) rfl (.t rfl) (by omega:_=((n.toNat:Nat):Int)) (lE (by have:NP.length=4:=rfl;omega))) rfl ?_
  refine .p (oN (.t rfl) (.t rfl) (by simp only [List.length_cons,List.length_nil];omega)) rfl ?_
  refine Z1 ?_
  refine .p (aL FP.out FZ.out (.cons (.t rfl) (.cons (.t rfl) (.cons (.c _) (.cons (.t rfl) (.cons (.s [105] rfl rfl) .nil))))) rfl) rfl ?_
  refine Z7 ?_
  refine Post.aZ rfl rfl () trivial (fun _ _ _ _=>trivial) rfl (.cons (.ra (i:=0) FA.out FC.out rfl rfl rfl rfl) ?_ (.cons (.rt rfl) ?_ .nil))
  · simp only [hnm,Option.getD_some];exact aa.of_eq (by simp [j4,fB,lz,mF, *];try rfl)
  exact aa.prop (by rw [hnm];simp)
 refine Z7 ?_
 refine .p (cA (h:=lI)) rfl ?_
 refine Z1 ?_
 refine .p (iA FU.out FC.out FA.out (.t rfl) rfl (.t rfl) (by omega:_=((n.toNat:Nat):Int)) (lE (by have:NP.length=4:=rfl;omega))) rfl ?_
 refine .p (oN (.t rfl) (.t rfl) (by simp only [List.length_cons,List.length_nil];omega)) rfl ?_
 refine Z8 ?_
 refine Post.aZ rfl rfl () trivial (fun _ _ _ _=>trivial) rfl (.cons (.ra (i:=0) FA.out FC.out rfl rfl rfl rfl) ?_ (.cons (.rt rfl) ?_ .nil))
 · simp only [hnm,Option.getD_some];exact aa.of_eq (by simp [j4,fB,lz,mF, *];try rfl)
 exact aa.prop (by rw [hnm];simp)
theorem Hs:cQ Tryz.prog 267 [ag .i64 code] (bz [aE (fB ((qO code).getD Pu)),ak (qO code).isSome]):=by
 refine In 32 Tryz.func267 fun _ _ _=> ?_
 refine Z2 ?_
 refine .n (az FZ.out) rfl fun b2 _=> ?_
 refine Z6 ?_
 refine .p (cA (h:=Jl)) rfl ?_
 refine Z4 ?_
 refine .aY (σ:=Nat) (fun _=>_) (fun k=>[(9,ag .i64 (k:Int))]) (fun k=>k≤gG.length∧cD (fun r:mq=>r.code=code) gG k) (fun k=>gG.length-k) 0 ⟨by omega,cD.zero _ _⟩ rfl ?_ ?_
 · exact (.get rfl (aa.refl _) (.refl _ _))
 rintro k ⟨hk,hn⟩
 refine Z6 ?_
 refine Cd (fun c0=> ?_) fun c0=> ?_
 ·
  have Di:k<gG.length:=by have:gG.length=47:=rfl;omega
  obtain ⟨x,MO⟩:=ai (xs:=gG) (k:=k) Di
  refine Z6 ?_
  refine .p (sF gG FU.out FC.out rfl FA.out (.t rfl) rfl rfl (.t rfl) rfl (by assumption)) rfl ?_
  refine .n (az FZ.out) rfl fun b5 _=> ?_
  refine Z3 ?_
  refine .share (t:=5) (i:=0) rfl rfl ?_
  refine Z8 ?_
  refine Cd (fun c1=> ?_) fun c1=> ?_
  ·
   have hro:=QM MO c1 hn
   refine jN ?_
   refine Post.aZ rfl rfl () trivial (fun _ _ _ _=>trivial) rfl (.cons (.ra (i:=0) FA.out FC.out rfl rfl rfl rfl) ?_ (.cons (.rt rfl) ?_ .nil))
   · rw [hro];exact aa.refl _
   exact aa.prop (by rw [hro];simp)
  refine Z7 ?_
  refine .round (k+1) ⟨by omega,hn.succ MO c1⟩ (by omega) rfl ?_
  exact (.get rfl (aa.int (by omega)) (.keep 11 rfl rfl))
 have M4:k=gG.length:=by have:gG.length=47:=rfl;omega
 subst M4
 refine Z8 ?_
 refine .p (cA (h:=Jm)) rfl ?_
 refine Z4 ?_
 refine .aY (σ:=Nat) (fun _=>_) (fun j=>[(19,ag .i64 (j:Int))]) (fun j=>j≤iG.length∧cD (fun r:mq=>r.code=code) iG j) (fun j=>iG.length-j) 0 ⟨by omega,cD.zero _ _⟩ rfl ?_ ?_
 · exact (.get rfl (aa.refl _) (.refl _ _))
 rintro j ⟨hj,hm⟩
 refine Z6 ?_
 refine Cd (fun c2=> ?_) fun c2=> ?_
 ·
  have YV:j<iG.length:=by have:iG.length=6:=rfl;omega
  obtain ⟨y,hxj⟩:=ai (xs:=iG) (k:=j) YV
  refine Z6 ?_
  refine .p (sF iG FU.out FC.out rfl FA.out (.t rfl) rfl rfl (.t rfl) rfl (by assumption)) rfl ?_
  refine .n (az FZ.out) rfl fun b7 _=> ?_
  refine Z3 ?_
  refine .share (t:=7) (i:=0) rfl rfl ?_
  refine Z8 ?_
  refine Cd (fun c3=> ?_) fun c3=> ?_
  ·
   have hro:=QN hn hxj c3 hm
   refine jN ?_
   refine Post.aZ rfl rfl () trivial (fun _ _ _ _=>trivial) rfl (.cons (.ra (i:=0) FA.out FC.out rfl rfl rfl rfl) ?_ (.cons (.rt rfl) ?_ .nil))
   · rw [hro];exact aa.refl _
   exact aa.prop (by rw [hro];simp)
  refine Z7 ?_
  refine .round (j+1) ⟨by omega,hm.succ hxj c3⟩ (by omega) rfl ?_
  exact (.get rfl (aa.int (by omega)) (.keep 11 rfl rfl))
 have hej:j=iG.length:=by have:iG.length=6:=rfl;omega
 subst hej
 refine Z8 ?_
 refine .p (cA (h:=yB)) rfl ?_
 refine Z7 ?_
 refine Post.aZ rfl rfl () trivial (fun _ _ _ _=>trivial) rfl (.cons (.ra (i:=0) FA.out FC.out rfl rfl rfl rfl) ?_ (.cons (.rt rfl) ?_ .nil))
 · rw [LK hn hm];exact aa.refl _
 exact aa.prop (by rw [LK hn hm])
theorem r9 (aq:oS l) (aT:l.length≤65536):cQ Tryz.prog 293 [cM l] (ah 1 aj (fD l)):=by
 refine In 20 Tryz.func293 fun _ _ _=> ?_
 refine iw ?_
 refine .n (BI FU.out (.t rfl)) rfl fun b7 _=> ?_
 refine Z3 ?_
 refine .dQ 1 aj ?_
 refine .aY (σ:=Nat×SB) (fun s=>[av s.2 1 aj (fD (l.take s.1)),wk b7 l s.1]) (fun s=>[(3,af (br s.2 (fD (l.take s.1)).length))]) (fun s=>s.1≤l.length) (fun s=>l.length-s.1) (0,none) (by simp) (by simp [fD]) ?_ ?_
 · exact (.get rfl (aa.of_eq (by simp [br])) (.refl _ _))
 rintro s hk
 have htl:=xz (l.take s.1)
 have Jn:(l.take s.1).length≤l.length:=by simp;omega
 refine Z2 ?_
 refine .n (GD (i:=1) aq (by omega) (.t rfl) rfl) rfl fun _ _=> ?_
 refine .p (GF (.t rfl)) rfl ?_
 refine Z3 ?_
 refine Cd (fun c0=> ?_) fun c0=> ?_
 ·
  obtain ⟨x,hx⟩:=ai (xs:=l) (k:=s.1) c0
  rw [show min (s.1+1) l.length=s.1+1 by omega]
  refine Z5 ?_
  refine .p (GG (by assumption) (.t rfl)) rfl ?_
  refine Z9 ?_
  refine Cd (fun c1=> ?_) fun c1=> ?_
  ·
   refine Z2 ?_
   refine .p (cB aj [126]) rfl ?_
   refine .n (aH (i:=0) FU.out FU.out FC.out rfl FZ.out rfl FY.out (.t rfl) (.t rfl) rfl (by first|omega|(simp<;>omega)) (by first|omega|(simp<;>omega))) rfl fun vc _=> ?_
   refine Z3 ?_
   refine .round (s.1+1,(by first|exact vc|exact xo)) (by omega) (by omega) (by first|(rw [kL hx c1];rfl)|(rw [kM hx c1];rfl)) ?_
   first|exact (.get rfl (aa.of_eq (by rw [kL hx c1])) (.keep 11 rfl rfl))|exact (.get rfl (aa.of_eq (by rw [kM hx c1])) (.keep 11 rfl rfl))
  refine Z2 ?_
  refine .p (cB aj [127]) rfl ?_
  refine .n (aH (i:=0) FU.out FU.out FC.out rfl FZ.out rfl FY.out (.t rfl) (.t rfl) rfl (by first|omega|(simp<;>omega)) (by first|omega|(simp<;>omega))) rfl fun xo _=> ?_
  refine Z3 ?_
  refine .round (s.1+1,(by first|exact vc|exact xo)) (by omega) (by omega) (by first|(rw [kL hx c1];rfl)|(rw [kM hx c1];rfl)) ?_
  first|exact (.get rfl (aa.of_eq (by rw [kL hx c1])) (.keep 11 rfl rfl))|exact (.get rfl (aa.of_eq (by rw [kM hx c1])) (.keep 11 rfl rfl))
 have hall:l.take s.1=l:=List.take_of_length_le (by omega)
 rw [hall]
 refine .fu (n:=1) (enc:=aj) (i:=0) (t:=3) rfl rfl ?_
 refine dH ?_
 refine bJ ?_
 exact aa.refl _
theorem Jo {r:mq} (aq:CT r):cQ Tryz.prog 268 [aE (fB r)] (aE (qF (rU r))):=by
 refine In 16 Tryz.func268 fun _ _ _=> ?_
 refine Z3 ?_
 refine .n (az FZ.out) rfl fun b2 _=> ?_
 refine Z3 ?_
 refine .bA 12 2 FM.out (by kernel_rfl) (k:= ?_)
 refine Z8 ?_
 refine .p (cA (h:=r9 aq.1 (by have:=aq.2.2.1;omega))) ?_
 refine Z2 ?_
 refine .p (cA (h:=r9 aq.2.1 (by have:=aq.2.2.2;omega))) ?_
 refine Z6 ?_
 refine Post.aN rfl () trivial (fun _ _ _ _=>trivial) (.ra (i:=0) FA.out FC.out rfl rfl rfl rfl) ?_
 exact aa.refl _
theorem find_spec:cQ Tryz.prog 251 [ag .i64 code] (bz [aE (qF ((ec code).getD Te)),ak (ec code).isSome]):=by
 refine In 16 Tryz.func251 fun _ _ _=> ?_
 refine Z2 ?_
 refine .n (az FZ.out) rfl fun b2 _=> ?_
 refine Z6 ?_
 refine .p (cA (h:=Hs)) rfl ?_
 refine Z3 ?_
 refine .n (az FZ.out) rfl fun b4 _=> ?_
 refine Z4 ?_
 refine .share (t:=4) (i:=0) rfl rfl ?_
 refine Z7 ?_
 refine Cd (fun c0=> ?_) fun c0=> ?_
 ·
  have hro:qO code=none:=by simpa using c0
  have sw:ec code=none:=by unfold ec;rw [hro];rfl
  refine Z9 ?_
  refine Post.aZ rfl rfl () trivial (fun _ _ _ _=>trivial) rfl (.cons (.ra (i:=0) FA.out FC.out rfl rfl rfl rfl) ?_ (.cons (.rt rfl) ?_ .nil))
  · rw [sw];exact aa.agg (.cons (aa.refl _) (.cons pE (.cons (aa.refl _) (.cons (aD _ _) (.cons (aD _ _) .nil)))))
  exact aa.prop (by rw [sw];simp)
 obtain ⟨r,hro⟩:=Option.isSome_iff_exists.1 (Classical.not_not.1 c0)
 have sw:ec code=some (rU r):=by unfold ec;rw [hro];rfl
 have hok:=G7 hro
 simp only [hro,Option.getD_some]
 refine Z5 ?_
 refine .p (cA (h:=Jo hok)) rfl ?_
 refine Z5 ?_
 refine Post.aZ rfl rfl () trivial (fun _ _ _ _=>trivial) rfl (.cons (.ra (i:=0) FA.out FC.out rfl rfl rfl rfl) ?_ (.cons (.rt rfl) ?_ .nil))
 · rw [sw];exact aa.refl _
 exact aa.prop (by rw [sw];simp)
theorem FI:cQ Tryz.prog 282 [ag .i64 code] (bz [ag .i64 ((j5 code).getD 0),ak (j5 code).isSome]):=by
 refine In 47 Tryz.func282 fun _ _ _=> ?_
 refine Z9 ?_
 refine .p (cA (h:=find_spec)) rfl ?_
 refine Z3 ?_
 refine .n (az FZ.out) rfl fun b4 _=> ?_
 refine Z4 ?_
 refine .share (t:=4) (i:=0) rfl rfl ?_
 refine dH ?_
 refine Cd (fun c0=> ?_) fun c0=> ?_
 ·
  have Oe:j5 code=none:=by
   cases hf:ec code with
   |none=>exact u7 hf
   |some x=>
    refine CY hf (fun h8=> ?_)
    rw [hf] at c0;simp [h8] at c0
  refine Z8 ?_
  refine jr ?_ ?_
  · exact aa.int (by rw [Oe];rfl)
  exact aa.prop (by rw [Oe];simp)
 obtain ⟨x,sw⟩:∃x,ec code=some x:=Option.isSome_iff_exists.1 (Classical.byContradiction fun h=>c0 (.inl h))
 simp only [sw,Option.getD_some] at c0 ⊢
 have YW:x.Form=8:=by simpa using c0
 have Oe:=Fj sw YW
 obtain ⟨hne,hnl⟩:=NS sw
 refine Z5 ?_
 refine .p (fJ (cs:=gH.flatMap iX) FR.out FZ.out (.cons (.s [56] rfl rfl) (.cons (.s [49,54] rfl rfl) (.cons (.s [51,50] rfl rfl) .nil))) rfl) rfl ?_
 refine Z4 ?_
 refine .aY (σ:=Nat) (fun _=>[]) (fun k=>[(24,ag .i64 (k:Int))]) (fun k=>k≤gH.length∧cD (fun s=>kY (xy x.Name) s) gH k) (fun k=>gH.length-k) 0 ⟨by omega,cD.zero _ _⟩ rfl ?_ ?_
 · exact (.get rfl (aa.refl _) (.refl _ _))
 rintro k ⟨hk,hn⟩
 refine Z6 ?_
 refine Cd (fun c1=> ?_) fun c1=> ?_
 ·
  have Di:k<gH.length:=by have:gH.length=3:=rfl;omega
  obtain ⟨s,MO⟩:=ai (xs:=gH) (k:=k) Di
  have RI:gH.getD k []=s:=by rw [List.getD_eq_getElem?_getD,MO];rfl
  refine Z7 ?_
  refine .p (iA FU.out FC.out FA.out (.t rfl) rfl (.t rfl) rfl (lE Di)) rfl ?_
  refine Z8 ?_
  refine .p (bT (L9 hne) FB.out (.cons (.t rfl) (.cons (.s [46] rfl rfl) .nil))) rfl ?_
  refine dH ?_
  refine .p (bT (oV) FB.out (.cons (.t rfl) (.cons (.s [95,115] rfl rfl) .nil))) rfl ?_
  refine .p (bT (oV) FB.out (.cons (.t rfl) (.cons (.s [95,117] rfl rfl) .nil))) rfl ?_
  refine Z7 ?_
  refine .p (cA (h:=xX)) rfl ?_
  refine Z2 ?_
  refine Cd (fun c2=> ?_) fun c2=> ?_
  ·
   rw [RI] at c2
   refine Z3 ?_
   refine .p (KG (.c _) (.t rfl) (by have h3:k<3:=Di;show k≤64;omega)) rfl ?_
   refine cJ ?_
   refine jr ?_ ?_
   · exact aa.int (by rw [Oe,I0 MO c2 hn];exact YO Di)
   exact aa.prop (by rw [Oe];simp)
  rw [RI] at c2
  refine Z7 ?_
  refine .round (k+1) ⟨by omega,hn.succ MO c2⟩ (by omega) rfl ?_
  exact (.get rfl (aa.int (by omega)) (.keep 25 rfl rfl))
 have M4:k=gH.length:=by have:gH.length=3:=rfl;omega
 subst M4
 refine cJ ?_
 refine .p (bT (xY) FB.out (.cons (.t rfl) (.cons (.s [105,54,52] rfl rfl) .nil))) rfl ?_
 refine Z2 ?_
 refine Cd (fun c3=> ?_) fun c3=> ?_
 ·
  refine Z8 ?_
  refine jr ?_ ?_
  · exact aa.int (by rw [Oe,zu hn,if_pos (by assumption)];rfl)
  exact aa.prop (by rw [Oe];simp)
 refine Z9 ?_
 refine jr ?_ ?_
 · exact aa.int (by rw [Oe,zu hn,if_neg (by assumption)];rfl)
 exact aa.prop (by rw [Oe];simp)
theorem FJ {labs:List (List UInt8)} (aq:(L0++s.1).length≤60000) (aT:xG m f) (dh:lA x):vj Tryz.prog 366 254 [aJ cb 0,aE (aG x)] (xD cb m f gs bb bc L0 B k s) (cq x.Code∧fP (cn m f) x s labs=none) (γ:=SB×cU) (fun z=>(cq x.Code∧fP (cn m f) x s labs=some z.2)∨(¬cq x.Code∧z=(gs,s))) (fun z=>xD cb m f z.1 bb bc L0 B k z.2) (fun _=>ak (cq x.Code)):=by
 refine Bm 93 Tryz.func254 fun _ _ _=> ?_
 have GA:=aT.fits.lens.1
 refine J4 ?_
 refine Cd (fun c0=> ?_) fun c0=> ?_
 ·
  refine Z1 ?_
  refine .bG [(0,0),(1,0),(2,0),(3,0),(4,1),(5,0),(6,0),(7,0),(8,0),(9,0),(10,0),(11,0),(12,4),(13,3)] 14 1 FM.out (by kernel_rfl) (k:= ?_)
  refine Z7 ?_
  refine .p rfl (fun _=>mJ FU.out FU.out (.t rfl) (bN (by have:=dh.A0;omega) (by have:=dh.A16 c0;omega))) ?_
  refine .p rfl (fun _=>bT (qE (m:=m) (f:=x.A)) FB.out (.cons (.t rfl) (.cons (.t rfl) .nil))) ?_
  refine Z3 ?_
  refine .a rfl (az FZ.out) (fun _ _=>aB.drop (aB.refl _)) fun b5 _=> ?_
  refine .s rfl (fy (i:=0) FC.out rfl (.t rfl) (.t rfl) rfl rfl rfl) ?_
  refine .fin ?_
  refine Z3 ?_
  refine .share (t:=5) (i:=0) rfl rfl ?_
  refine Z3 ?_
  refine .x (cX (h:=ee (e:=2) (by decide))) rfl (fun h=>⟨by unfold cq;omega,by rw [xI c0,qI (f:=f) aT.fits,show gM m x.A=none by simpa using h];rfl⟩) fun RP QJ=> ?_
  refine Z2 ?_
  obtain ⟨g,hg⟩:=Option.isSome_iff_exists.1 QJ
  simp only [hg,Option.getD_some]
  have QV:dL (cn m f).ax x.A=some g:=(qI (f:=f) aT.fits).trans hg
  refine Z3 ?_
  refine .x (cX (h:=mZ (s:=s) (g:=g) aq (by have:=(aT.fits.yh g (Af hg)).2;omega))) rfl (fun h=>⟨by unfold cq;omega,by rw [xI c0,QV];exact h⟩) fun WK SZ=> ?_
  refine Z9 ?_
  refine .jy (Post.aN rfl (WK) (by exact .inl ⟨by unfold cq;omega,by rw [xI c0,QV];exact SZ⟩) (fun _ _ _ h=>h) (.rt rfl) ?_)
  exact aa.prop ⟨fun _=>by unfold cq;omega,fun _=>trivial⟩
 refine Z6 ?_
 refine Cd (fun c1=> ?_) fun c1=> ?_
 ·
  refine Z1 ?_
  have m4:=dh.A0
  refine .bA 12 18 FM.out (by kernel_rfl) (k:= ?_)
  refine Z30 ?_
  refine .x (cX (h:=ee (e:=2) (by decide))) rfl (fun h=>⟨by unfold cq;omega,by (rw [ux c1];cases hgg:dL (cn m f).bF x.A with|none=>rfl|some g=>exact if_neg (fun e=>h ⟨⟨(LQ hgg).2.1,e.1⟩,e.2⟩))⟩) fun RW YX=> ?_
  refine Z3 ?_
  obtain ⟨⟨hlt,hB⟩,hTb⟩:=YX
  obtain ⟨g,hg,QV⟩:=s9 (L:=m.bF) dh.A0 hlt
  have YY:dL (cn m f).bF x.A=some g:=hg
  refine Z2 ?_
  refine .x (cX (h:=ez (s:=s) (w:=127))) rfl (fun h=>⟨by unfold cq;omega,by rw [ux c1,YY,Option.bind_some,if_pos ⟨hB,hTb⟩,nL,ig,h];rfl⟩) fun g62 RU=> ?_
  refine Z2 ?_
  refine .bA 13 1 FM.out (by kernel_rfl) (k:= ?_)
  refine dw ?_
  refine .p (cI x.A.toNat (h:=QV) (hi:=by have:=dh.A0;omega)) ?_
  refine Z2 ?_
  refine .x (cX (h:=mZ (s:=g62.1) (g:=g) (by simp only [List.length_append] at aq ⊢;have:=mA RU;omega) (by have:=(aT.fits.yh g (List.mem_of_getElem? QV)).2;omega))) rfl (fun h=>⟨by unfold cq;omega,by rw [ux c1,YY,Option.bind_some,if_pos ⟨hB,hTb⟩,nL,ig,RU];exact h⟩) fun g76 h76=> ?_
  refine Z9 ?_
  refine .jy (Post.aN rfl (g76) (by exact .inl ⟨by unfold cq;omega,by rw [ux c1,YY,Option.bind_some,if_pos ⟨hB,hTb⟩,nL,ig,RU];exact h76⟩) (fun _ _ _ h=>h) (.rt rfl) ?_)
  exact aa.prop ⟨fun _=>by unfold cq;omega,fun _=>trivial⟩
 refine Z6 ?_
 refine Cd (fun c2=> ?_) fun c2=> ?_
 ·
  refine Z2 ?_
  refine .x (cX (h:=ez (s:=s) (w:=0))) rfl (fun h=>⟨by unfold cq;omega,by rw [Fm c2,h];rfl⟩) fun RX Tr=> ?_
  refine Z9 ?_
  refine .jy (Post.aN rfl ((gs,RX.1)) (by exact .inl ⟨by unfold cq;omega,by rw [Fm c2,Tr];rfl⟩) (fun _ _ _ h=>h) (.rt rfl) ?_)
  exact aa.prop ⟨fun _=>by unfold cq;omega,fun _=>trivial⟩
 refine Z6 ?_
 refine Cd (fun c3=> ?_) fun c3=> ?_
 ·
  refine Z3 ?_
  refine .x (cX (h:=ez (s:=s) (w:=127))) rfl (fun h=>⟨by unfold cq;omega,by rw [rX c3,fm,h];rfl⟩) fun g84 Ts=> ?_
  refine Z5 ?_
  refine .x (cX (h:=ez (s:=g84.1) (w:=0))) rfl (fun h=>⟨by unfold cq;omega,by rw [rX c3,fm,Ts];simp only [Option.map_some,Option.bind_some];rw [h];rfl⟩) fun g86 YZ=> ?_
  refine Z7 ?_
  refine .x (cX (h:=ez (s:=g86.1) (w:=g86.2))) rfl (fun h=>⟨by unfold cq;omega,by rw [rX c3,fm,Ts];simp only [Option.map_some,Option.bind_some];rw [YZ,Option.bind_some,h];rfl⟩) fun RY h90=> ?_
  refine .p (cB aj [_]) rfl ?_
  refine .n (cE (h:=fN (st:=L0++RY.1.1) (l:=[RY.2]) (tG:=L0++(bq RY.1 [RY.2]).1) (by simp only [List.length_append] at aq ⊢;have:=mA Ts;have:=mA YZ;have:=mA h90;omega) (by simp) (by simp [bq]))) rfl fun Pz QW=> ?_
  refine Z9 ?_
  refine .jy (Post.aN rfl ((Pz,bq RY.1 [RY.2])) (by exact .inl ⟨by unfold cq;omega,by rw [rX c3,fm,Ts];simp only [Option.map_some,Option.bind_some];rw [YZ,Option.bind_some,h90];rfl⟩) (fun _ _ _ h=>h) (.rt rfl) ?_)
  exact aa.prop ⟨fun _=>by unfold cq;omega,fun _=>trivial⟩
 refine Z8 ?_
 refine .jy (Post.aN rfl ((gs,s)) (by exact .inr ⟨by unfold cq;omega,rfl⟩) (fun _ _ _ h=>h) (.rt rfl) ?_)
 exact aa.prop ⟨fun h=>h.elim,fun h=>by unfold cq at h;omega⟩
theorem AR (aq:B.length≤50000) (aT:lA x):vj Tryz.prog 366 277 [aJ cb 0,aE (aG x)] (xD cb m f gs bb bc L0 B k s) (∀v:mw,x.Code=14→fP v x s ((B++[kN L0.length k s]).map yw)=none) (γ:=Unit) (fun _=>∀v:mw,x.Code=14→fP v x s ((B++[kN L0.length k s]).map yw)=some ef) (fun _=>xD cb m f gs bb bc L0 B k ef) (fun _=>bz []):=by
 refine Bm 45 Tryz.func277 fun _ _ _=> ?_
 have hBl:(B++[kN L0.length k s]).length≤60000:=by simp;omega
 have hLn:=aT.Ln
 refine cJ ?_
 refine .x (HS [_] [0,2,1] (h:=kQ (n:=x.A) hBl aT.A0)) rfl (fun h v vI=>by rw [lp vI,h];rfl) fun o8 h12=> ?_
 refine jN ?_
 refine .aY (σ:=Nat) (fun _=>_) (fun j=>[(16,ag .i64 (j:Int))]) (fun j=>j≤x.L.length) (fun j=>x.L.length-j) 0 (Nat.zero_le _) rfl ?_ ?_
 · exact (.get rfl (aa.refl _) (.refl _ _))
 rintro j hj
 refine Z6 ?_
 refine Cd (fun c0=> ?_) fun c0=> ?_
 ·
  obtain ⟨n0,hn0⟩:=ai (xs:=x.L) (k:=j) (by omega)
  have hnp:=aT.L0 n0 (List.mem_of_getElem? hn0)
  refine Z6 ?_
  refine .p (cI j (h:=hn0)) rfl ?_
  refine Z7 ?_
  refine .x (cX (h:=kQ (n:=n0) hBl hnp)) rfl (fun h v vI=>by rw [lp vI,h12,Option.bind_some,if_neg (fun e=>by have h9:=e n0 (List.mem_of_getElem? hn0);rw [h] at h9;cases h9)]) fun MI RN=> ?_
  refine Z7 ?_
  refine .round (j+1) (by omega) (by omega) rfl ?_
  exact (.get rfl (aa.int (by omega)) ((.keep 10 rfl rfl)))
 refine mM ?_
 refine .aY (σ:=Nat) (fun _=>_) (fun j=>[(27,ag .i64 (j:Int))]) (fun j=>j≤x.L.length∧∀n∈x.L.take j,hU ((B++[kN L0.length k s]).map yw) n=some o8) (fun j=>x.L.length-j) 0 ⟨Nat.zero_le _,fun n hn=>by simp at hn⟩ rfl ?_ ?_
 · exact (.get rfl (aa.refl _) (.refl _ _))
 rintro j ⟨hj,hall⟩
 refine Z6 ?_
 refine Cd (fun c1=> ?_) fun c1=> ?_
 ·
  obtain ⟨n0,hn0⟩:=ai (xs:=x.L) (k:=j) (by omega)
  have hnp:=aT.L0 n0 (List.mem_of_getElem? hn0)
  refine Z6 ?_
  refine .p (cI j (h:=hn0)) rfl ?_
  refine Z7 ?_
  refine .x (cX (h:=kQ (n:=n0) hBl hnp)) rfl (fun h v vI=>by rw [lp vI,h12,Option.bind_some,if_neg (fun e=>by have h9:=e n0 (List.mem_of_getElem? hn0);rw [h] at h9;cases h9)]) fun WW WX=> ?_
  refine Z1 ?_
  refine .p (cA (h:=Cx)) rfl ?_
  refine .x (cX (h:=ee (e:=5) (by decide))) rfl (fun h v vI=>by rw [lp vI,h12,Option.bind_some,if_neg (fun e=>by have h9:=e n0 (List.mem_of_getElem? hn0);rw [WX] at h9;exact h (Option.some.inj h9))]) fun g36 WN=> ?_
  refine Z7 ?_
  refine .round (j+1) ⟨by omega,fun n hn=>by (rw [←bt hn0] at hn;rcases List.mem_append.1 hn with hn|hn;exact hall n hn;(simp only [List.mem_singleton] at hn;subst hn;rw [WX,WN]))⟩ (by omega) rfl ?_
  exact (.get rfl (aa.int (by omega)) ((.keep 13 rfl rfl)))
 have rm:∀n∈x.L,hU ((B++[kN L0.length k s]).map yw) n=some o8:=fun n hn=>hall n (by rw [List.take_of_length_le (by omega)];exact hn)
 refine Z8 ?_
 refine .x (HS [] [0,2,1] (h:=ez (s:=s) (w:=127))) rfl (fun h v vI=>by rw [lp vI,h12,Option.bind_some,if_pos rm,ig,h];rfl) fun WY Of=> ?_
 refine Z6 ?_
 refine .x (cX (h:=iq (s:=WY.1) (l:=o8))) rfl (fun h v vI=>by rw [lp vI,h12,Option.bind_some,if_pos rm,ig,Of,Option.bind_some,h];rfl) fun QK LG=> ?_
 refine Z4 ?_
 refine .n (cE (h:=oH (s:=QK))) rfl fun g44 h44=> ?_
 refine Z1 ?_
 refine .pN (Post.gV rfl (()) (by exact fun v vI=>by rw [lp vI,h12,Option.bind_some,if_pos rm,ig,Of,Option.bind_some,LG];rfl) (fun _ _ _ h=>h) rfl)
theorem Dj (aq:oS l) (aT:l.length≤65536):cH Tryz.prog 293 [cM l] [] (γ:=SB) (fun _=>True) (fun g=>[av g 1 aj (fD l)]) (fun g=>af (br g (fD l).length)):=by
 refine In 20 Tryz.func293 fun _ _ _=> ?_
 refine iw ?_
 refine .n (BI FU.out (.t rfl)) rfl fun b7 _=> ?_
 refine Z3 ?_
 refine .dQ 1 aj ?_
 refine .aY (σ:=Nat×SB) (fun s=>[av s.2 1 aj (fD (l.take s.1)),wk b7 l s.1]) (fun s=>[(3,af (br s.2 (fD (l.take s.1)).length))]) (fun s=>s.1≤l.length) (fun s=>l.length-s.1) (0,none) (by simp) (by simp [fD]) ?_ ?_
 · exact (.get rfl (aa.of_eq (by simp [br])) (.refl _ _))
 rintro s hk
 have htl:=xz (l.take s.1)
 have Jn:(l.take s.1).length≤l.length:=by simp;omega
 refine Z2 ?_
 refine .n (GD (i:=1) aq (by omega) (.t rfl) rfl) rfl fun _ _=> ?_
 refine .p (GF (.t rfl)) rfl ?_
 refine Z3 ?_
 refine Cd (fun c0=> ?_) fun c0=> ?_
 ·
  obtain ⟨x,hx⟩:=ai (xs:=l) (k:=s.1) c0
  rw [show min (s.1+1) l.length=s.1+1 by omega]
  refine Z5 ?_
  refine .p (GG (by assumption) (.t rfl)) rfl ?_
  refine Z9 ?_
  refine Cd (fun c1=> ?_) fun c1=> ?_
  ·
   refine Z2 ?_
   refine .p (cB aj [126]) rfl ?_
   refine .n (aH (i:=0) FU.out FU.out FC.out rfl FZ.out rfl FY.out (.t rfl) (.t rfl) rfl (by first|omega|(simp<;>omega)) (by first|omega|(simp<;>omega))) rfl fun vc _=> ?_
   refine Z3 ?_
   refine .round (s.1+1,(by first|exact vc|exact xo)) (by omega) (by omega) (by first|(rw [kL hx c1];rfl)|(rw [kM hx c1];rfl)) ?_
   first|exact (.get rfl (aa.of_eq (by rw [kL hx c1])) (.keep 11 rfl rfl))|exact (.get rfl (aa.of_eq (by rw [kM hx c1])) (.keep 11 rfl rfl))
  refine Z2 ?_
  refine .p (cB aj [127]) rfl ?_
  refine .n (aH (i:=0) FU.out FU.out FC.out rfl FZ.out rfl FY.out (.t rfl) (.t rfl) rfl (by first|omega|(simp<;>omega)) (by first|omega|(simp<;>omega))) rfl fun xo _=> ?_
  refine Z3 ?_
  refine .round (s.1+1,(by first|exact vc|exact xo)) (by omega) (by omega) (by first|(rw [kL hx c1];rfl)|(rw [kM hx c1];rfl)) ?_
  first|exact (.get rfl (aa.of_eq (by rw [kL hx c1])) (.keep 11 rfl rfl))|exact (.get rfl (aa.of_eq (by rw [kM hx c1])) (.keep 11 rfl rfl))
 have hall:l.take s.1=l:=List.take_of_length_le (by omega)
 rw [hall]
 refine dH ?_
 refine Post.aN rfl (s.2) (by trivial) (aB.dc [0] [1] rfl rfl) (.rt rfl) ?_
 exact aa.refl _
theorem FK {r:mq} (aq:CT r):cH Tryz.prog 268 [aE (fB r)] [] (γ:=SB) (fun _=>True) (fun g=>[av g 1 aj (rU r).sW]) (fun g=>aE (kP (rU r) g)):=by
 refine In 16 Tryz.func268 fun _ _ _=> ?_
 refine Z3 ?_
 refine .n (az FZ.out) rfl fun b2 _=> ?_
 refine Z3 ?_
 refine .bG [(0,0),(1,0),(2,0),(3,0),(4,0),(5,0),(6,0),(7,0),(9,0),(10,0),(8,2),(11,0)] 12 2 FM.out (by kernel_rfl) (k:= ?_)
 refine cJ ?_
 refine .e rfl (cE (h:=Dj aq.1 (by have:=aq.2.2.1;omega))) fun Od h11=> ?_
 refine .p rfl (fun _=>bT (r9 aq.2.1 (by have:=aq.2.2.2;omega)) FB.out (.cons (.t rfl) .nil)) ?_
 refine .fin ?_
 refine .p (bg.le (aL FP.out FZ.out (.cons (.t rfl) (.cons (.t rfl) (.cons (.t rfl) (.cons (.t rfl) (.cons (.t rfl) .nil))))) rfl) (aa.refl (aE (kP (rU r) Od)))) rfl ?_
 refine Z4 ?_
 refine Post.aN rfl (Od) (by trivial) (aB.dc [0] [1] rfl rfl) (.ra (i:=1) FA.out FC.out rfl rfl rfl rfl) ?_
 exact aa.refl _
variable {i:nK}
theorem FL (aq:ec code=some i):cH Tryz.prog 251 [ag .i64 code] [] (γ:=SB) (fun _=>True) (fun g=>[av g 1 aj i.sW]) (fun g=>bz [aE (kP i g),ak True]):=by
 refine In 16 Tryz.func251 fun _ _ _=> ?_
 refine Z2 ?_
 refine .n (az FZ.out) rfl fun b2 _=> ?_
 refine Z6 ?_
 refine .p (cA (h:=Hs)) rfl ?_
 refine Z3 ?_
 refine .n (az FZ.out) rfl fun b4 _=> ?_
 refine Z4 ?_
 refine .share (t:=4) (i:=0) rfl rfl ?_
 refine Z7 ?_
 refine Cd (fun c0=> ?_) fun c0=> ?_
 ·
  exfalso;have hro:qO code=none:=by simpa using c0
  unfold ec at aq;rw [hro] at aq;cases aq
 obtain ⟨r,hro⟩:=Option.isSome_iff_exists.1 (Classical.not_not.1 c0)
 have sw:i=rU r:=by unfold ec at aq;rw [hro] at aq;exact (Option.some.inj aq).symm
 subst sw
 have hok:=G7 hro
 simp only [hro,Option.getD_some]
 refine Z5 ?_
 refine .n (cE (h:=FK hok)) rfl fun vc Bq=> ?_
 refine Z5 ?_
 refine Post.aZ rfl rfl (vc) (by trivial) (aB.dc [0] [1] rfl rfl) rfl (.cons (.ra (i:=1) FA.out FC.out rfl rfl rfl rfl) ?_ (.cons (.rt rfl) ?_ .nil))
 · exact aa.refl _
 exact aa.refl _
theorem AS {gi:SB} (aq:(L0++s.1).length≤60000) (aT:xG m f) (dh:lA x) (fX:aQ x.Code=8) (ox:ec x.Code=some i):vj Tryz.prog 366 255 [aJ cb 0,aE (aG x),aE (kP i gi)] (av gi 1 aj i.sW::xD cb m f gs bb bc L0 B k s) (o5 (cn m f) x s=none) (γ:=SB×cU) (fun z=>o5 (cn m f) x s=some z.2) (fun z=>xD cb m f z.1 bb bc L0 B k z.2) (fun _=>bz []):=by
 refine Bm 50 Tryz.func255 fun _ _ _=> ?_
 obtain ⟨t0,tl,Jn⟩:=Hh fX
 have hin:=lG ox
 have hiT:i.sW=t0::tl:=hin.2.2.2.2.1.trans Jn
 have RK:i.q8.length≤3:=by rw [hin.2.2.2.2.2.1];exact (iE x.Code).2
 unfold kP
 rw [hiT]
 refine Z3 ?_
 refine .n (bV (.t rfl)) rfl fun b5 _=> ?_
 refine Z7 ?_
 refine .x (HS [_,_,_,_] [2,0,1,3,4] (h:=oI aT dh.A0)) rfl (fun h=>by rw [oC fX,show (cn m f).bE=m.bI.map (·.bE) from rfl,bP,h];rfl) fun o8 h12=> ?_
 refine .n (az FZ.out) rfl fun b6 _=> ?_
 refine Z3 ?_
 refine .share (t:=6) (i:=0) rfl rfl ?_
 refine Z9 ?_
 refine .x (cX (h:=ee (e:=2) (by decide))) rfl (fun h=>by rw [oC fX,show (cn m f).bE=m.bI.map (·.bE) from rfl,bP,h12];exact if_pos (.inl ⟨fun hw=>h (.inl hw),by have:¬x.B≤4294967295:=fun hb=>h (.inr hb);omega⟩)) fun YT To=> ?_
 refine Z6 ?_
 refine .p (cA (h:=FI (code:=x.Code))) rfl ?_
 refine mM ?_
 refine .g (cr.gT rfl rfl rfl rfl (fun hg=>(KG (s:=x.cR.toNat) (.c _) (.le (.when (.t rfl) hg) (aa.int (by have:=dh.a0;omega))) (by show _≤64;have:=dh.QS;omega)).le (aa.int (NZ hg)))) rfl rfl ?_
 refine Z3 ?_
 refine .x (cX (h:=ee (e:=5) (by decide))) rfl (fun h=>by rw [oC fX,show (cn m f).bE=m.bI.map (·.bE) from rfl,bP,h12];exact if_pos (.inr (Classical.byContradiction fun hn=>h (xN.2 hn)))) fun WZ Og=> ?_
 refine Z3 ?_
 refine .jj 2 rfl (by simp) fun ib ic QV=> ?_
 subst QV
 refine .bA 4 2 FM.out (by kernel_rfl) (k:= ?_)
 refine Z3 ?_
 refine .p (cA (h:=nk (l:=o8))) ?_
 refine Z1 ?_
 refine .p (bl 0 FU.out FC.out rfl (.t rfl) (.c _) rfl (by simp)) rfl ?_
 refine .s (fS (enc:=aj) (i:=2) (r:=0) (bL o8.bE) rfl FC.out (.t rfl) (.t rfl) rfl (show (t0::tl)[0]?=some t0 from rfl) rfl rfl) ?_
 refine Z2 ?_
 refine .iB (i:=2) (j:=1) (f:=3) rfl rfl rfl ?_
 refine Z7 ?_
 refine .x (HS [_] [0,2,3,1] (h:=mZ (s:=s) (g:=⟨bL o8.bE::tl,i.q8⟩) aq (by show i.q8.length≤60000;omega))) rfl (fun h=>by rw [oC fX,show (cn m f).bE=m.bI.map (·.bE) from rfl,bP,h12];exact (if_neg (by rintro (⟨a,b⟩|a);(rcases To with h9|h9;exact a h9;omega);exact xN.1 Og a)).trans (by rw [Jn,←hin.2.2.2.2.2.1];exact h)) fun QI WM=> ?_
 refine Z1 ?_
 refine .pN (Post.gV rfl (QI) (by exact (by rw [oC fX,show (cn m f).bE=m.bI.map (·.bE) from rfl,bP,h12];exact (if_neg (by rintro (⟨a,b⟩|a);(rcases To with h9|h9;exact a h9;omega);exact xN.1 Og a)).trans (by rw [Jn,←hin.2.2.2.2.2.1];exact WM))) (aB.dc [0,1,2] [3] rfl rfl) rfl)
theorem FN {gi:SB} (aq:(L0++s.1).length≤60000) (aT:xG m f) (dh:lA x) (fX:aQ x.Code=9∨aQ x.Code=10):vj Tryz.prog 366 256 [aJ cb 0,aE (aG x),aE (kP i gi)] (xD cb m f gs bb bc L0 B k s) (o5 (cn m f) x s=none) (γ:=SB×cU) (fun z=>o5 (cn m f) x s=some z.2) (fun z=>xD cb m f z.1 bb bc L0 B k z.2) (fun _=>bz []):=by
 refine Bm 55 Tryz.func256 fun _ _ _=> ?_
 have hcs:x.Code=63∨x.Code=64∨x.Code=64523∨x.Code=64522:=fX.elim (fun h=>by have:=LS h;omega) (fun h=>by have:=Hg h;omega)
 refine dw ?_
 refine .x (cX (h:=oI aT dh.A0)) rfl (fun h=>by (rcases hcs with h9|h9|h9|h9;rw [vP h9,show (cn m f).bE=m.bI.map (·.bE) from rfl,bP,h];rfl;rw [tc h9,show (cn m f).bE=m.bI.map (·.bE) from rfl,bP,h];rfl;rw [nN h9,show (cn m f).bE=m.bI.map (·.bE) from rfl,bP,h];rfl;rw [lP h9,show (cn m f).bE=m.bI.map (·.bE) from rfl,bP,h];rfl)) fun o8 h12=> ?_
 refine .p (cA (h:=nk (l:=o8))) rfl ?_
 refine BY ?_
 refine Cd (fun c0=> ?_) fun c0=> ?_
 ·
  refine Z3 ?_
  refine .p (cB aj [bL o8.bE]) rfl ?_
  refine .n (cE (h:=fN (st:=L0++s.1) (l:=[bL o8.bE]) (tG:=L0++(bq s [bL o8.bE]).1) (by simp only [List.length_append] at aq ⊢;omega) (by simp) (by simp [bq]))) rfl fun ME NL=> ?_
  refine Z2 ?_
  refine .pN (Post.gV rfl ((ME,bq s [bL o8.bE])) (by exact (by rw [vP c0,show (cn m f).bE=m.bI.map (·.bE) from rfl,bP,h12];rfl)) (fun _ _ _ h=>h) rfl)
 refine Z6 ?_
 refine Cd (fun c1=> ?_) fun c1=> ?_
 ·
  refine Z4 ?_
  refine .x (cX (h:=ez (s:=s) (w:=bL o8.bE))) rfl (fun h=>by rw [tc c1,show (cn m f).bE=m.bI.map (·.bE) from rfl,bP,h12];simp only [Option.map_some,Option.bind_some];rw [nL,fm,h];rfl) fun W0 Y0=> ?_
  refine Z5 ?_
  refine .p (cB aj [bL o8.bE]) rfl ?_
  refine .n (cE (h:=fN (st:=L0++W0.1.1) (l:=[bL o8.bE]) (tG:=L0++(bq W0.1 [bL o8.bE]).1) (by simp only [List.length_append] at aq ⊢;have:=mA Y0;omega) (by simp) (by simp [bq]))) rfl fun Tt h47=> ?_
  refine Z2 ?_
  refine .pN (Post.gV rfl ((Tt,bq W0.1 [bL o8.bE])) (by exact (by rw [tc c1,show (cn m f).bE=m.bI.map (·.bE) from rfl,bP,h12];simp only [Option.map_some,Option.bind_some];rw [nL,fm,Y0];rfl)) (fun _ _ _ h=>h) rfl)
 refine Z6 ?_
 refine Cd (fun c2=> ?_) fun c2=> ?_
 ·
  refine Z4 ?_
  refine .p (cB aj [bL o8.bE,127,bL o8.bE]) rfl ?_
  refine .x (cX (h:=iq (s:=s) (l:=[bL o8.bE,127,bL o8.bE]))) rfl (fun h=>by rw [nN c2,show (cn m f).bE=m.bI.map (·.bE) from rfl,bP,h12];exact h) fun YU Tq=> ?_
  refine Z2 ?_
  refine .pN (Post.gV rfl ((gs,YU)) (by exact (by rw [nN c2,show (cn m f).bE=m.bI.map (·.bE) from rfl,bP,h12];exact Tq)) (fun _ _ _ h=>h) rfl)
 refine Z5 ?_
 refine .x (cX (h:=oI aT dh.B0)) rfl (fun h=>by rw [lP (by omega),show (cn m f).bE=m.bI.map (·.bE) from rfl,bP,bP,h12,h];rfl) fun zm MG=> ?_
 refine .p (cA (h:=nk (l:=zm))) rfl ?_
 refine Z8 ?_
 refine .cut (σ:=Unit) (fun _=>xD cb m f gs bb bc L0 B k s) (fun _=>[(8,ag .u8 ((bL (o8.bE∧zm.bE):UInt8).toNat:Int))]) (fun _=>True) ?_ ?_
 ·
  refine cJ ?_
  refine Cd (fun c3=> ?_) fun c3=> ?_
  ·
   refine Z3 ?_
   refine .meet () trivial rfl (.get rfl (aa.of_eq (by rw [show bL (o8.bE∧zm.bE)=126 from if_pos ⟨kO.1 c3.1,kO.1 c3.2⟩];rfl)) (.keep 7 rfl rfl))
  refine Z1 ?_
  refine .meet () trivial rfl (.get rfl (aa.of_eq (by rw [show bL (o8.bE∧zm.bE)=127 from if_neg (fun h=>c3 ⟨kO.2 h.1,kO.2 h.2⟩)];rfl)) (.keep 6 rfl rfl))
 intro _ _
 refine Z5 ?_
 refine .p (cB aj [bL o8.bE,bL zm.bE,bL (o8.bE∧zm.bE)]) rfl ?_
 refine .x (cX (h:=iq (s:=s) (l:=[bL o8.bE,bL zm.bE,bL (o8.bE∧zm.bE)]))) rfl (fun h=>by rw [lP (by omega),show (cn m f).bE=m.bI.map (·.bE) from rfl,bP,bP,h12,MG];exact h) fun MM MF=> ?_
 refine Z2 ?_
 refine .pN (Post.gV rfl ((gs,MM)) (by exact (by rw [lP (by omega),show (cn m f).bE=m.bI.map (·.bE) from rfl,bP,bP,h12,MG];exact MF)) (fun _ _ _ h=>h) rfl)
theorem yC {fs:List dV} {b:dV} (aq:(cN fs++b.st.1).length≤60000) (aT:xG m f) (dh:lA x) (fX:fs.length≤50000) (ox:AH (fs++[b])) (yp:eL x.Code):vj Tryz.prog 366 252 [aJ cb 0,aE (aG x)] (LO cb m f gs (some (bb,bc)) (cN fs++b.st.1) (iQ fs++[kN (cN fs).length b b.st])) (ij m f x fs b=none) (γ:=Pw) (fun z=>Hi m f x fs b z) (fun z=>WV cb m f z) (fun _=>ak True):=by
 refine Bm 74 Tryz.func252 fun _ _ _=> ?_
 have hBl:(iQ fs).length≤50000:=by rw [C1];exact fX
 have QX:(iQ fs++[kN (cN fs).length b b.st]).length≤60000:=by simp;omega
 have hbr:b.res.length≤20:=ox b (by simp)
 have J0:(cN fs).length≤60000:=by simp only [List.length_append] at aq;omega
 unfold eL at yp
 refine J4 ?_
 refine Cd (fun c0=> ?_) fun c0=> ?_
 ·
  refine Z2 ?_
  refine .n (cE (h:=oH (k:=b) (s:=b.st))) rfl fun Od h11=> ?_
  refine Z9 ?_
  refine .jy (Post.aN rfl ((gs,some (bb,bc),cN fs++(ef).1,iQ fs++[kN (cN fs).length b (ef)])) (by exact gj (by omega) (by omega) (by unfold aO;omega) (by rw [←fF fs b b.st,Pv (by omega)])) (fun _ _ _ h=>h) (.rt rfl) ?_)
  exact aa.refl _
 refine Z6 ?_
 refine Cd (fun c1=> ?_) fun c1=> ?_
 ·
  refine Z3 ?_
  refine .x (cX (h:=ez (k:=b) (s:=b.st) (w:=127))) rfl (fun h=>by rw [rZ (by unfold aO;omega),if_pos c1,fm,h];rfl) fun vc Bq=> ?_
  refine Z5 ?_
  refine .n (cE (h:=xV (x:=x) (B:=iQ fs++[kN (cN fs).length b vc.1]) (by simp;omega) dh.A0)) rfl fun xo Pp=> ?_
  refine Z9 ?_
  refine .jy (Post.aN rfl ((gs,xo,cN fs++vc.1.1,(iQ fs++[kN (cN fs).length b vc.1])++[kN (cN fs++vc.1.1).length ⟨x.Code=3,x.Code=4,dW x,([],False)⟩ ([],False)])) (by exact ⟨_,by rw [rZ (by unfold aO;omega),if_pos c1,fm,Bq];rfl,zz fs b vc.1 x⟩) (fun _ _ _ h=>h) (.rt rfl) ?_)
  exact aa.refl _
 refine .cut (σ:=Unit) (fun _=>LO cb m f gs (some (bb,bc)) (cN fs++b.st.1) (iQ fs++[kN (cN fs).length b b.st])) (fun _=>[(19,ak (x.Code=2∨x.Code=3))]) (fun _=>True) ?_ ?_
 ·
  refine Z6 ?_
  refine Cd (fun c2=> ?_) fun c2=> ?_
  ·
   refine Z1 ?_
   refine .meet () trivial rfl (.get rfl (aa.prop (by omega)) (.keep 2 rfl rfl))
  refine Z4 ?_
  refine .meet () trivial rfl (.get rfl (aa.prop (by omega)) (.keep 4 rfl rfl))
 intro _ _
 refine Cd (fun c3=> ?_) fun c3=> ?_
 ·
  refine Z3 ?_
  refine .n (cE (h:=xV (x:=x) (B:=iQ fs++[kN (cN fs).length b b.st]) QX dh.A0)) rfl fun LA DU=> ?_
  refine Z9 ?_
  refine .jy (Post.aN rfl ((gs,LA,cN fs++b.st.1,(iQ fs++[kN (cN fs).length b b.st])++[kN (cN fs++b.st.1).length ⟨x.Code=3,x.Code=4,dW x,([],False)⟩ ([],False)])) (by exact ⟨_,by rw [rZ (by unfold aO;omega),if_neg c1];rfl,zz fs b b.st x⟩) (fun _ _ _ h=>h) (.rt rfl) ?_)
  exact aa.refl _
 refine Z6 ?_
 refine Cd (fun c4=> ?_) fun c4=> ?_
 ·
  refine Z2 ?_
  refine .x (cX (h:=Dh (k:=b) (s:=b.st) (by omega))) rfl (fun h=>yy (by omega) h) fun WK SZ=> ?_
  refine Z9 ?_
  refine .jy (Post.aN rfl ((gs,WK,cN fs,iQ fs++[kN (cN fs).length ⟨b.loop,False,b.res,([],False)⟩ ([],False)])) (by exact ⟨_,Fo (by omega) SZ,I8 fs b⟩) (fun _ _ _ h=>h) (.rt rfl) ?_)
  exact aa.refl _
 refine Z6 ?_
 refine Cd (fun c5=> ?_) fun c5=> ?_
 ·
  refine Z2 ?_
  refine .x (cX (h:=Ji (k:=b) (s:=b.st) J0 (by omega))) rfl (fun h=>AG (by omega) h) fun MM MF=> ?_
  refine Z9 ?_
  refine .jy (Post.aN rfl ((MM,some (bb,bc),cN fs++b.res,iQ fs)) (by exact ⟨_,I7 (by omega) MF,LU fs b.res⟩) (fun _ _ _ h=>h) (.rt rfl) ?_)
  exact aa.refl _
 refine Z6 ?_
 refine Cd (fun c6=> ?_) fun c6=> ?_
 ·
  refine Z6 ?_
  refine .x (HS [_] [0,2,1] (h:=kQ (n:=x.A) QX dh.A0)) rfl (fun h=>dG (by omega) (by omega) (by unfold aO;omega) (by rw [←fF fs b b.st,uw (by omega),h];rfl)) fun WY Of=> ?_
  refine .x (HS [] [0,2,1] (h:=iq (k:=b) (s:=b.st) (l:=WY))) rfl (fun h=>dG (by omega) (by omega) (by unfold aO;omega) (by rw [←fF fs b b.st,uw (by omega),Of,Option.bind_some,h];rfl)) fun tj PA=> ?_
  refine Z4 ?_
  refine .n (cE (h:=oH (k:=b) (s:=tj))) rfl fun QK LG=> ?_
  refine Z9 ?_
  refine .jy (Post.aN rfl ((gs,some (bb,bc),cN fs++(ef).1,iQ fs++[kN (cN fs).length b (ef)])) (by exact gj (by omega) (by omega) (by unfold aO;omega) (by rw [←fF fs b b.st,uw (by omega),Of,Option.bind_some,PA];rfl)) (fun _ _ _ h=>h) (.rt rfl) ?_)
  exact aa.refl _
 refine Z6 ?_
 refine Cd (fun c7=> ?_) fun c7=> ?_
 ·
  refine Z5 ?_
  refine .x (HS [_] [0,2,1] (h:=kQ (n:=x.A) QX dh.A0)) rfl (fun h=>dG (by omega) (by omega) (by unfold aO;omega) (by rw [←fF fs b b.st,qh (by omega),h];rfl)) fun L8 h48=> ?_
  refine Z6 ?_
  refine .x (HS [] [0,2,1] (h:=ez (k:=b) (s:=b.st) (w:=127))) rfl (fun h=>dG (by omega) (by omega) (by unfold aO;omega) (by rw [←fF fs b b.st,qh (by omega),h48,Option.bind_some,nL,ig,h];rfl)) fun Tu Tv=> ?_
  refine Z6 ?_
  refine .x (cX (h:=iq (k:=b) (s:=Tu.1) (l:=L8))) rfl (fun h=>dG (by omega) (by omega) (by unfold aO;omega) (by rw [←fF fs b b.st,qh (by omega),h48,Option.bind_some,nL,ig,Tv,Option.bind_some,h];rfl)) fun Jp QY=> ?_
  refine Z5 ?_
  refine .n (cE (h:=fN (st:=cN fs++Jp.1) (l:=L8) (tG:=cN fs++(bq Jp L8).1) (by simp only [List.length_append] at aq ⊢;have:=mA Tv;have:=rW QY;omega) (by rw [fF] at h48;have:=N1 ox h48;omega) (by simp [bq]))) rfl fun RZ Tw=> ?_
  refine Z9 ?_
  refine .jy (Post.aN rfl ((RZ,some (bb,bc),cN fs++(bq Jp L8).1,iQ fs++[kN (cN fs).length b (bq Jp L8)])) (by exact gj (by omega) (by omega) (by unfold aO;omega) (by rw [←fF fs b b.st,qh (by omega),h48,Option.bind_some,nL,ig,Tv,Option.bind_some,QY];rfl)) (fun _ _ _ h=>h) (.rt rfl) ?_)
  exact aa.refl _
 refine Z6 ?_
 refine Cd (fun c8=> ?_) fun c8=> ?_
 ·
  refine Z3 ?_
  refine .x (cX (h:=AR (k:=b) (s:=b.st) hBl dh)) rfl (fun h=>dG (by omega) (by omega) (by unfold aO;omega) (by rw [←fF fs b b.st];exact h _ (by omega))) fun CH NI=> ?_
  refine Z9 ?_
  refine .jy (Post.aN rfl ((gs,some (bb,bc),cN fs++ef.1,iQ fs++[kN (cN fs).length b ef])) (by exact gj (by omega) (by omega) (by unfold aO;omega) (by rw [←fF fs b b.st];exact NI _ (by omega))) (fun _ _ _ h=>h) (.rt rfl) ?_)
  exact aa.refl _
 refine Z6 ?_
 refine Cd (fun c9=> ?_) fun c9=> ?_
 ·
  refine Z9 ?_
  refine .x (cX (h:=iq (k:=b) (s:=b.st) (l:=(ck m f.fV).R))) rfl (fun h=>dG (by omega) (by omega) (by unfold aO;omega) (by rw [←fF fs b b.st,AD (by omega)];rw [show (cn m f).cL.R=(ck m f.fV).R from rfl,h];rfl)) fun W1 h71=> ?_
  refine Z4 ?_
  refine .n (cE (h:=oH (k:=b) (s:=W1))) rfl fun QZ MP=> ?_
  refine Z9 ?_
  refine .jy (Post.aN rfl ((gs,some (bb,bc),cN fs++(ef).1,iQ fs++[kN (cN fs).length b (ef)])) (by exact gj (by omega) (by omega) (by unfold aO;omega) (by rw [←fF fs b b.st,AD (by omega)];rw [show (cn m f).cL.R=(ck m f.fV).R from rfl,h71];rfl)) (fun _ _ _ h=>h) (.rt rfl) ?_)
  exact aa.refl _
 exfalso;omega
theorem mC (aq:¬eL x.Code):cQ Tryz.prog 252 [iC,aE (aG x)] (ak False):=by
 refine In 74 Tryz.func252 fun _ _ _=> ?_
 unfold eL at aq
 refine J4 ?_
 refine Cd (fun c0=> ?_) fun c0=> ?_
 · exfalso;omega
 refine Z6 ?_
 refine Cd (fun c1=> ?_) fun c1=> ?_
 · exfalso;omega
 refine .cut (σ:=Unit) (fun _=>[]) (fun _=>[(19,ak (x.Code=2∨x.Code=3))]) (fun _=>True) ?_ ?_
 ·
  refine Z6 ?_
  refine Cd (fun c2=> ?_) fun c2=> ?_
  · exfalso;omega
  refine Z4 ?_
  refine .meet () trivial rfl (.get rfl (aa.prop (by omega)) (.keep 4 rfl rfl))
 intro _ _
 refine Cd (fun c3=> ?_) fun c3=> ?_
 · exfalso;omega
 refine Z6 ?_
 refine Cd (fun c4=> ?_) fun c4=> ?_
 · exfalso;omega
 refine Z6 ?_
 refine Cd (fun c5=> ?_) fun c5=> ?_
 · exfalso;omega
 refine Z6 ?_
 refine Cd (fun c6=> ?_) fun c6=> ?_
 · exfalso;omega
 refine Z6 ?_
 refine Cd (fun c7=> ?_) fun c7=> ?_
 · exfalso;omega
 refine Z6 ?_
 refine Cd (fun c8=> ?_) fun c8=> ?_
 · exfalso;omega
 refine Z6 ?_
 refine Cd (fun c9=> ?_) fun c9=> ?_
 · exfalso;omega
 refine Z8 ?_
 refine bJ ?_
 exact .z
theorem oW (aq:¬dM x.Code):cQ Tryz.prog 253 [iC,aE (aG x)] (ak False):=by
 refine In 62 Tryz.func253 fun _ _ _=> ?_
 unfold dM at aq
 refine J4 ?_
 refine Cd (fun c0=> ?_) fun c0=> ?_
 · exfalso;omega
 refine Z6 ?_
 refine Cd (fun c1=> ?_) fun c1=> ?_
 · exfalso;omega
 refine Z6 ?_
 refine Cd (fun c2=> ?_) fun c2=> ?_
 · exfalso;omega
 refine Z6 ?_
 refine Cd (fun c3=> ?_) fun c3=> ?_
 · exfalso;omega
 refine Z6 ?_
 refine Cd (fun c4=> ?_) fun c4=> ?_
 · exfalso;omega
 refine Z8 ?_
 refine bJ ?_
 exact .z
theorem Dk (aq:¬cq x.Code):cQ Tryz.prog 254 [iC,aE (aG x)] (ak False):=by
 refine In 93 Tryz.func254 fun _ _ _=> ?_
 unfold cq at aq
 refine J4 ?_
 refine Cd (fun c0=> ?_) fun c0=> ?_
 · exfalso;omega
 refine Z6 ?_
 refine Cd (fun c1=> ?_) fun c1=> ?_
 · exfalso;omega
 refine Z6 ?_
 refine Cd (fun c2=> ?_) fun c2=> ?_
 · exfalso;omega
 refine Z6 ?_
 refine Cd (fun c3=> ?_) fun c3=> ?_
 · exfalso;omega
 refine Z8 ?_
 refine bJ ?_
 exact .z
theorem FO {fs:List dV} {b:dV} (aq:(cN fs++b.st.1).length≤60000) (aT:xG m f) (dh:lA x) (fX:fs.length≤50000) (ox:AH (fs++[b])) (yp:hJ x.Code≠[]):vj Tryz.prog 366 233 [aJ cb 0,aE (aG x)] (LO cb m f gs (some (bb,bc)) (cN fs++b.st.1) (iQ fs++[kN (cN fs).length b b.st])) (ij m f x fs b=none) (γ:=Pw) (fun z=>Hi m f x fs b z) (fun z=>WV cb m f z) (fun _=>bz []):=by
 refine Bm 54 Tryz.func233 fun _ _ _=> ?_
 obtain ⟨i,hi⟩:∃i,ec x.Code=some i:=Option.isSome_iff_exists.1 (LM.2 yp)
 have hin:=lG hi
 have RK:i.q8.length≤3:=by rw [hin.2.2.2.2.2.1];exact (iE x.Code).2
 refine Z9 ?_
 refine .n (cE (h:=FL hi)) rfl fun g9 h9=> ?_
 refine Z3 ?_
 refine .n (az FZ.out) rfl fun b4 _=> ?_
 refine Z6 ?_
 have hcase:eL x.Code∨(¬eL x.Code∧dM x.Code)∨(¬eL x.Code∧¬dM x.Code∧cq x.Code)∨(¬eL x.Code∧¬dM x.Code∧¬cq x.Code):=by by_cases h1:eL x.Code<;>by_cases h2:dM x.Code<;>by_cases h3:cq x.Code<;>simp [h1,h2,h3]
 rcases hcase with hc|⟨hc,hv⟩|⟨hc,hv,hk⟩|⟨hc,hv,hk⟩
 ·
  refine Z3 ?_
  refine .x (HS [_,_] [2,3,4,0,1] (h:=yC aq aT dh fX ox hc)) rfl (fun h=>h) fun MI RN=> ?_
  refine Z3 ?_
  refine .KN rfl rfl rfl rfl rfl (by simp) rfl ?_
  refine .p (zV (.t rfl) trivial .ct) rfl ?_
  refine Z3 ?_
  refine .KN rfl rfl rfl rfl rfl (by simp) rfl ?_
  refine .p (zV (.t rfl) trivial .ct) rfl ?_
  refine Z3 ?_
  refine Cd (fun c0=> ?_) fun c0=> ?_
  ·
   refine Z2 ?_
   refine .pN (Post.gV rfl (MI) (by exact RN) (aB.dc [0,1,2] [3,4] rfl rfl) rfl)
  exact absurd trivial c0
 ·
  refine Z3 ?_
  refine .p (bT (mC hc) FB.out (.cons (.le (.t rfl) aa.any) (.cons (.t rfl) .nil))) rfl ?_
  refine Z3 ?_
  refine .gx rfl rfl rfl (by simp) (wD (rest:=[_,_]) (xW (k:=b) (s:=b.st) (labs:=((fs++[b]).map qd)) aq aT dh) FB.out (.cons (.when (.t rfl) (fun h=>h)) (.cons (.when (.t rfl) (fun h=>h)) .nil)) (Perm.idx [2,3,4,0,1] rfl rfl)) rfl (fun h=>dG (by unfold dM at hv;omega) (by unfold dM at hv;omega) (by unfold dM at hv;unfold aO;omega) h.2) fun Q0 Tx=> ?_
  refine .p (GJ (.t rfl) (fun h=>h) (.t rfl)) rfl ?_
  refine Z3 ?_
  refine .KN rfl rfl rfl rfl rfl (by simpa using hv) rfl ?_
  refine .p (zV (.t rfl) hv .ct) rfl ?_
  refine Z3 ?_
  refine Cd (fun c0=> ?_) fun c0=> ?_
  ·
   refine Z2 ?_
   refine .pN (Post.gV rfl ((Q0.1,some (bb,bc),cN fs++Q0.2.1,iQ fs++[kN (cN fs).length b Q0.2])) (by (rcases Tx with ⟨_,h⟩|⟨h,_⟩;exact gj (by unfold dM at hv;omega) (by unfold dM at hv;omega) (by unfold dM at hv;unfold aO;omega) h;exact absurd hv h)) (aB.dc [0,1,2] [3,4] rfl rfl) rfl)
  exact absurd trivial c0
 ·
  refine Z3 ?_
  refine .p (bT (mC hc) FB.out (.cons (.le (.t rfl) aa.any) (.cons (.t rfl) .nil))) rfl ?_
  refine Z3 ?_
  refine .g (cr.gF rfl rfl rfl rfl (fun hg=>bT (oW hv) FB.out (.cons (.le (.when (.t rfl) hg) aa.any) (.cons (.when (.t rfl) hg) .nil)))) rfl rfl ?_
  refine Z4 ?_
  refine .gx rfl rfl rfl (by simp) (wD (rest:=[_,_]) (FJ (k:=b) (s:=b.st) (labs:=((fs++[b]).map qd)) aq aT dh) FB.out (.cons (.when (.t rfl) (fun h=>h.elim id id)) (.cons (.when (.t rfl) (fun h=>h.elim id id)) .nil)) (Perm.idx [2,3,4,0,1] rfl rfl)) rfl (fun h=>dG (by unfold cq at hk;omega) (by unfold cq at hk;omega) (by unfold cq at hk;unfold aO;omega) h.2) fun DW MN=> ?_
  refine .p (GJ (.t rfl) (fun h=>h.elim id id) (.t rfl)) rfl ?_
  refine Z3 ?_
  refine Cd (fun c0=> ?_) fun c0=> ?_
  ·
   refine Z2 ?_
   refine .pN (Post.gV rfl ((DW.1,some (bb,bc),cN fs++DW.2.1,iQ fs++[kN (cN fs).length b DW.2])) (by (rcases MN with ⟨_,h⟩|⟨h,_⟩;exact gj (by unfold cq at hk;omega) (by unfold cq at hk;omega) (by unfold cq at hk;unfold aO;omega) h;exact absurd hk h)) (aB.dc [0,1,2] [3,4] rfl rfl) rfl)
  exact absurd hk c0
 refine Z3 ?_
 refine .p (bT (mC hc) FB.out (.cons (.le (.t rfl) aa.any) (.cons (.t rfl) .nil))) rfl ?_
 refine Z3 ?_
 refine .g (cr.gF rfl rfl rfl rfl (fun hg=>bT (oW hv) FB.out (.cons (.le (.when (.t rfl) hg) aa.any) (.cons (.when (.t rfl) hg) .nil)))) rfl rfl ?_
 refine Z4 ?_
 refine .g (cr.gF rfl rfl rfl rfl (fun hg=>bT (Dk hk) FB.out (.cons (.le (.when (.t rfl) hg) aa.any) (.cons (.when (.t rfl) hg) .nil)))) rfl rfl ?_
 refine Z4 ?_
 refine Cd (fun c0=> ?_) fun c0=> ?_
 · exfalso;simp at c0
 refine Z8 ?_
 refine Cd (fun c1=> ?_) fun c1=> ?_
 ·
  have hxf:=hin.2.2.2.1
  refine Z4 ?_
  refine .x (HS [_] [1,2,3,4,0] (h:=AS (k:=b) (s:=b.st) aq aT dh (hin.2.2.2.1.symm.trans c1) hi)) rfl (fun h=>dG (by unfold eL at hc;omega) (by unfold eL at hc;omega) (by unfold eL at hc;unfold aO;omega) ((fo hc hv hk (by omega)).trans h)) fun tj PA=> ?_
  refine Z2 ?_
  refine .pN (Post.gV rfl ((tj.1,some (bb,bc),cN fs++tj.2.1,iQ fs++[kN (cN fs).length b tj.2])) (by exact gj (by unfold eL at hc;omega) (by unfold eL at hc;omega) (by unfold eL at hc;unfold aO;omega) ((fo hc hv hk (by omega)).trans PA)) (aB.dc [0,1,2] [3] rfl rfl) rfl)
 have hxf:=hin.2.2.2.1
 refine jN ?_
 refine Cd (fun c2=> ?_) fun c2=> ?_
 ·
  refine Z4 ?_
  refine .x (HS [_,_] [2,3,4,0,1] (h:=FN (k:=b) (s:=b.st) aq aT dh (c2.imp (fun h=>hin.2.2.2.1.symm.trans h) (fun h=>hin.2.2.2.1.symm.trans h)))) rfl (fun h=>dG (by unfold eL at hc;omega) (by unfold eL at hc;omega) (by unfold eL at hc;unfold aO;omega) ((fo hc hv hk (by omega)).trans h)) fun Jp QY=> ?_
  refine Z2 ?_
  refine .pN (Post.gV rfl ((Jp.1,some (bb,bc),cN fs++Jp.2.1,iQ fs++[kN (cN fs).length b Jp.2])) (by exact gj (by unfold eL at hc;omega) (by unfold eL at hc;omega) (by unfold eL at hc;unfold aO;omega) ((fo hc hv hk (by omega)).trans QY)) (aB.dc [0,1,2] [3,4] rfl rfl) rfl)
 have hff:aQ x.Code<8∨10<aQ x.Code:=by have:¬(i.Form=9∨i.Form=10):=c2;omega
 refine .iB (i:=1) (j:=0) (f:=3) rfl rfl rfl ?_
 refine Z7 ?_
 refine .x (HS [_] [1,2,3,0] (h:=mZ (k:=b) (s:=b.st) (g:=⟨i.sW,i.q8⟩) aq (by show i.q8.length≤60000;omega))) rfl (fun h=>dG (by unfold eL at hc;omega) (by unfold eL at hc;omega) (by unfold eL at hc;unfold aO;omega) ((xL hc hv hk hff).trans (by rw [←hin.2.2.2.2.1,←hin.2.2.2.2.2.1];exact h))) fun xo Pp=> ?_
 refine Z2 ?_
 refine .pN (Post.gV rfl ((xo.1,some (bb,bc),cN fs++xo.2.1,iQ fs++[kN (cN fs).length b xo.2])) (by exact gj (by unfold eL at hc;omega) (by unfold eL at hc;omega) (by unfold eL at hc;unfold aO;omega) ((xL hc hv hk hff).trans (by rw [←hin.2.2.2.2.1,←hin.2.2.2.2.2.1];exact Pp))) (aB.dc [0,1,2] [3] rfl rfl) rfl)
theorem FQ (w:World):(Instr.typeAssert Value.nilIface 20 366 true).run Tryz.prog w= .ok (.tuple #[.agg #[.int .i64 0], .bool false]) w:=by
 kernel_rfl
theorem AT (e:Int) (w:World):(Instr.typeAssert (ld 366 e) 20 366 true).run Tryz.prog w= .ok (.tuple #[.agg #[.int .i64 e], .bool true]) w:=by
 kernel_rfl
theorem FT (p:Value) (w:World):
    CallsD Tryz.prog 232 #[p] .returning w fun e u' w'=>e= .returned (.tuple #[])∧u'= .returning∧Below w.heap.size w w':=by
  refine callsD_of_wpS Tryz.func232 rfl fun c₀ cs hu=> ?_
  apply wpS_seq
  apply wpS_region
  simp [wpOpsS,go_sem,recoverD,hu,Tryz.ntmps232,Exit.thenS,FQ]
  apply wpS_seq
  apply wpS_region
  simp [wpOpsS,go_sem,Exit.thenS]
  refine wpS_cond (t:=false) (by simp [Act.eval,Array.replicate]) ?_
  simp only [Bool.false_eq_true,if_false]
  refine wpS_of_wp (wp_skip ?_)
  have hb:Below w.heap.size w (w.alloc (Obj.cells #[Value.int IntKind.i64 0] 366)):=(Below.refl _ _).alloc (Nat.le_refl _) _
  generalize w.alloc (Obj.cells #[Value.int IntKind.i64 0] 366)=w1 at hb
  cases c₀
  simp_all [bodyPostS,results,Tryz.results232]
theorem FV {eb:Nat} {ch:List PanicEntry} (hc:wC 366 ch):
    Catch Tryz.prog 232 (.pointer (some ⟨eb,0,none⟩)) ch [aF eb [ag .i64 0]] (δ:=Int) (fun e=>e≠0) (fun e=>[aF eb [ag .i64 e]]):=by
  obtain ⟨e,he,rfl⟩:=hc
  intro w S F hS hF hSF hown
  obtain ⟨F1,F2,f1,f2,⟨hFb,arr,T,hh,hn,hcs⟩,_⟩:=hown
  obtain ⟨u0,Ut,MA⟩:=hcs 0 _ rfl
  simp only [af] at MA
  subst MA
  have sy:arr= #[.int .i64 0]:=by
    refine Array.ext (by simpa using hn) fun i h1 h2=> ?_
    have:i=0:=by simp at h2;omega
    subst this
    have h3:arr[0]?=some arr[0]:=by simp at hn;simp [hn]
    rw [h3] at Ut
    simpa using Ut
  subst sy
  refine callsD_of_wpS Tryz.func232 rfl fun c₀ cs hu=> ?_
  apply wpS_seq
  apply wpS_region
  have Tz:recoverD (c₀::cs)=some (ld 366 e,{c₀ with mode:= .panicking [{v:=ld 366 e,recovered:=true}]}::cs):=by simp only [recoverD,hu]
  generalize Xw:ld 366 e=fv at Tz
  have Y1:∀w:World,(Instr.typeAssert fv 20 366 true).run Tryz.prog w= .ok (.tuple #[.agg #[.int .i64 e], .bool true]) w:=fun w=>by rw [←Xw];exact AT e w
  simp [wpOpsS,go_sem,Tz,Tryz.ntmps232,Exit.thenS,Y1]
  generalize Y2:({fn:=c₀.fn,tmps:=c₀.tmps,todo:=c₀.todo,defers:=c₀.defers,mode:=FrameMode.panicking [{v:=fv,recovered:=true}],kind:=c₀.kind,roundOf:=c₀.roundOf}::cs:List Frame)=cs1
  generalize hw1:w.alloc (Obj.cells #[Value.int IntKind.i64 e] 366)=w1
  apply wpS_seq
  apply wpS_region
  simp [wpOpsS,go_sem,Exit.thenS]
  refine wpS_cond (t:=true) (by simp [Act.eval,Array.replicate]) ?_
  simp only [if_true]
  have aC:ju ⟨w,S,F,11,none,[]⟩ w1 S (fun k=>k=w.heap.size∨F k):=by
    rw [←hw1];exact (show ju ⟨w,S,F,11,none,[]⟩ w S F from ⟨rfl,rfl,rfl,Nat.le_refl _,fun _ _ _=>rfl,hSF,hS,hF,fun k hk=> .inl hk,fun k hk=> .inl hk,fun _ hk=>hk⟩).fq _
  have qw:∀k,F1 k→F k:=fun k hk=>(f1 k hk).1
  have TA:cL [aF w.heap.size [ag .i64 e],aF eb [ag .i64 0]] (fun k=>k=w.heap.size∨F k) S w1:=by
    rw [←hw1]
    refine cL.fq ?_ hS hF _ (rq hS rfl fun j q hj=> ?_)
    · exact ⟨F1,fun _=>False,fun k hk=>⟨qw k hk,fun h=>h⟩,fun k hk=>hk.elim,⟨hFb,_,T,hh,hn,hcs⟩,trivial⟩
    · match j,hj with
      |0,hj=>simp at hj;subst hj;exact ⟨_,rfl,rfl⟩
      |j+1,hj=>simp at hj
  refine wpS_of_wp (wpIn_wide.1 (show Code.wpIn Fence.wide 0 _ _ _ _ _ from ?_))
  have key:∀{Q:Exit→Act→World→Prop},(∀a w',St ⟨w,S,F,11,none,[]⟩ [aF eb [ag .i64 e],aF w.heap.size [ag .i64 e]] [] a w'→Q .normal a w')→
      aM Tryz.prog Q ⟨w,S,F,11,none,[]⟩ (Code.region 2 #[⟨some 9, .fieldAddr 366 (.tmp 1) 0,0,"check.go:328", #[],none⟩,⟨some 10, .load 36 (.tmp 9),36,"check.go:328", #[⟨0, .data⟩],none⟩,⟨none, .store 36 (.tmp 0) (.tmp 10),0,"check.go:328", #[⟨1, .data⟩,⟨0, .phase⟩,⟨1, .phase⟩],none⟩] false)
        [aF eb [ag .i64 0],aF w.heap.size [ag .i64 e]] [(0,aJ eb 0),(1,aJ w.heap.size 0)]:=by
    intro Q hQ
    refine aM.region (.p (By FF.out (.t rfl)) rfl<| .p (eR (i:=1) FA.out (.t rfl) rfl rfl) rfl<| .s (gQ (i:=0) FC.out (.t rfl) (.t rfl) rfl rfl)<| .nil ?_)
    exact fun a w' hst=>hQ a w' (hst.mono (fun _ _ _ _ t q h=>by cases h))
  refine key (fun a w' hst=> ?_) _ _ ⟨rfl,by simp,S,_,aC,TA.perm (List.Perm.swap _ _ _), ?_⟩
  · obtain ⟨h1,h2,S',F',h3,h4,h5⟩:=hst
    refine ⟨h1,_,Y2.symm, .tuple #[], ?_,rfl,⟨fv,rfl⟩,S',F',e,he,⟨h3.os,h3.tape,h3.output,h3.size,h3.kept,h3.di,h3.bM,h3.cc,h3.own,h3.shr,h3.base⟩, ?_⟩
    · simp [results,Tryz.results232]
    · obtain ⟨G1,G2,g1,g2,g3,g4⟩:=h4
      exact ⟨G1,fun _=>False,fun k hk=>⟨(g1 k hk).1,fun h=>h⟩,fun k hk=>hk.elim,g3,trivial⟩
  · intro t q hl
    rw [bx,bx] at hl
    split at hl
    · rename_i h0;subst h0;cases hl;simp [Array.replicate,af]
    split at hl
    · rename_i h1;subst h1;cases hl;simp [Array.replicate,af]
    · cases hl
end Go.Proofs.YtpfobikpggmleaaGreatDoor
end
