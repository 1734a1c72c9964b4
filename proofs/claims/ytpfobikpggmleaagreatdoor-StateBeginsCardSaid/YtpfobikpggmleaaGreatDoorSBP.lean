/-
  What the statement's proof leans on, several texts in one (packed by a program).
-/
import Derived.Test.YtpfobikpggmleaaGreatDoorSBO
set_option linter.all false
set_option maxRecDepth 1000000
set_option maxHeartbeats 4000000
section
namespace Go.Hl
abbrev dD:=List UInt8×Prop
open Classical in
noncomputable def jm(s:dD)(want:UInt8):Option (dD×UInt8):=
 match s.1.getLast? with
 |none=>if s.2 then some (s,want) else none
 |some got=>if got=want∨got=0∨want=0 then some ((s.1.dropLast,s.2),if got=0 then want else got) else none
noncomputable def Dv(s:dD):List UInt8→Option dD
 |[]=>some s
 |t::l=>(jm s t).bind fun p=>Dv p.1 l
noncomputable def cU(s:dD)(l:List UInt8):Option dD:=Dv s l.reverse
def bG(s:dD)(l:List UInt8):dD:=(s.1++l,s.2)
def eZ:dD:=([],True)
structure eX where
 loop:Prop
 is:Prop
 res:List UInt8
 st:dD
open Classical in
noncomputable def sw(b:eX):List UInt8:=if b.loop then[] else b.res
def sx(fs:List eX):Nat:=(fs.map fun b=>b.st.1.length).sum
section
variable {ι:Type} (cd:ι→Int) (rr:ι→List UInt8) (pl:ι→dD→List (List UInt8)→Option dD)
open Classical
noncomputable def o5(b:eX):Prop:=∃s,cU b.st b.res=some s∧s.1=[]
noncomputable def dU(x:ι)(fs:List eX)(b:eX):Option (List eX):=
 if cd x=11 then
  if o5 b∧(b.is→b.res=[]) then some (match fs.getLast? with
   |none=>[]
   |some t=>fs.dropLast++[{t with st:=bG t.st b.res}]) else none
 else if cd x=5 then if o5 b then some (fs++[{b with is:=False,st:=([],False)}]) else none
 else if aQ (cd x) then(if cd x=4 then cU b.st [127] else some b.st).map fun s=>fs++[{b with st:=s}]++[⟨cd x=3,cd x=4,rr x,([],False)⟩]
 else(pl x b.st ((fs++[b]).map sw)).map fun s=>fs++[{b with st:=s}]
noncomputable def oh:List ι→List eX→Option (List Nat)
 |[],_=>some []
 |x::r,fs=>match fs.getLast? with
  |none=>none
  |some b=>(dU cd rr pl x fs.dropLast b).bind fun fs'=>(oh r fs').map (sx fs:: ·)
noncomputable def jS:Nat→List ι→List (List UInt8)→List UInt8→dD→Nat→Option (List Nat×List ι)
 |0,_,_,_,_,_=>none
 |_+1,[],_,_,_,_=>some ([],[])
 | f +1,x::r,labs,res,s,base=>
  if cd x=11∨cd x=5 then
   if ∃s',cU s res=some s'∧s'.1=[] then some ([base+s.1.length],x::r) else none
  else if aQ (cd x) then
   (if cd x=4 then cU s [127] else some s).bind fun s1=>
   (jS f r (labs++[if cd x=3 then[] else rr x]) (rr x) ([],False) (base+s1.1.length)).bind fun p=>
   match p.2 with
   |[]=>none
   | x2::r2=>
    if cd x2=5 then
     (jS f r2 (labs++[if cd x=3 then[] else rr x]) (rr x) ([],False) (base+s1.1.length)).bind fun p2=>
     match p2.2 with
     |[]=>none
     |_::r3=>(jS f r3 labs res (bG s1 (rr x)) base).map fun p3=>((base+s.1.length)::p.1++p2.1++p3.1,p3.2)
    else if cd x=4∧rr x≠[] then none
    else(jS f r2 labs res (bG s1 (rr x)) base).map fun p3=>((base+s.1.length)::p.1++p3.1,p3.2)
  else(pl x s labs).bind fun s1=>(jS f r labs res s1 base).map fun p=>((base+s.1.length)::p.1,p.2)
theorem w6(x:ι)(r:List ι)(fs:List eX)(b:eX):oh cd rr pl (x::r) (fs++[b])=(dU cd rr pl x fs b).bind fun fs'=>(oh cd rr pl r fs').map (sx (fs++[b]):: ·):=by
 simp[oh]
theorem iJ(fs:List eX)(b:eX):sx (fs++[b])=sx fs+b.st.1.length:=by simp[sx]
theorem Mw : ∀        (f:Nat) (s:List ι) (d:Nat) (labs:List (List UInt8)) (res:List UInt8) (st:dD) (base:Nat) (fs:List eX) (loop is:Prop) (iU:List Int),
    s.length<f→dY f (s.map cd) d=some iU→iU≠[]→labs=(fs++[eX.mk loop is res st]).map sw→base=sx fs→
    (jS cd rr pl f s labs res st base=none→oh cd rr pl s (fs++[eX.mk loop is res st])=none)∧
    (∀hs rest,jS cd rr pl f s labs res st base=some (hs,rest)→rest.map cd=iU∧∃st',(∃s',cU st' res=some s'∧s'.1=[])∧
      ∀x r,rest=x::r→oh cd rr pl s (fs++[eX.mk loop is res st])=(dU cd rr pl x fs ⟨loop,is,res,st'⟩).bind fun fs'=>(oh cd rr pl r fs').map (hs++ ·)):=by
  intro f
  induction f with
  |zero=>intro s _ _ _ _ _ _ _ _ _ h;omega
  | succ f ih =>
    intro s d labs res st base fs loop is iU h hr hne hl hb;cases s with
    |nil=>simp[dY] at hr;exact absurd hr hne
    | cons x r =>
      simp only[List.length_cons] at h;rw[w6,iJ,←hb];simp only[List.map_cons,dY] at hr;by_cases h1:cd x=11∨cd x=5
      · simp only[h1,if_true,Option.some.injEq] at hr
        simp only[jS,h1,if_true];by_cases hc:∃s',cU st res=some s'∧s'.1=[]
        · simp only[hc,if_true]
          refine⟨by simp,fun hs rest e=>?_⟩;simp only[Option.some.injEq,Prod.mk.injEq] at e;obtain⟨rfl,rfl⟩:=e;refine⟨by simpa using hr,st,hc,fun x' r' e=>?_⟩;cases e;rfl
        · simp only[hc,if_false]
          refine⟨fun _=>?_,by simp⟩
          have:dU cd rr pl x fs ⟨loop,is,res,st⟩=none:=by
            unfold dU;rcases h1 with h1|h1<;>simp[h1,o5]<;>intros<;>simp_all
          rw[this];rfl
      simp only[h1,if_false] at hr;have h11:cd x≠11:=fun e=>h1 (.inl e);have h5:cd x≠5:=fun e=>h1 (.inr e);by_cases h2:aQ (cd x)
      · simp only [h2,if_true] at hr
        by_cases h3:64≤d
        · simp[h3] at hr
        simp only[h3,if_false] at hr
        have hx0:dU cd rr pl x fs (eX.mk loop is res st)=(if cd x=4 then cU st [127] else some st).map fun s=>fs++[eX.mk loop is res s]++[eX.mk (cd x=3) (cd x=4) (rr x) ([],False)]:=by
          simp only[dU,h11,h5,h2,if_true,if_false]
        rw[hx0];simp only[jS,h1,if_false,h2,if_true];generalize (if cd x=4 then cU st [127] else some st)=o1
        match o1 with
        |none=>simp
        | some s1 =>
          simp only[Option.map_some,Option.bind_some];cases Em:dY f (r.map cd) (d+1) with
          |none=>simp[Em] at hr
          | some F4 =>
            simp only[Em] at hr;have Xy:F4≠[]:=by intro e;simp[e] at hr
            have i1:=ih r (d+1) (labs++[if cd x=3 then[] else rr x]) (rr x) ([],False) (base+s1.1.length) (fs++[eX.mk loop is res s1]) (cd x=3) (cd x=4) F4 (by omega) Em Xy
              (by rw[hl];simp[sw]) (by rw[iJ,hb])
            obtain⟨Xz,k1,_⟩:=(nq f (r.map cd) (d+1) (by simpa using(by omega:r.length<f)) (by omega)).2 F4 Em;simp only[List.length_map] at Xz;generalize jS cd rr pl f r (labs++[if cd x=3 then[] else rr x]) (rr x) ([],False) (base+s1.1.length)=o2 at i1
            match o2,i1 with
            |none,i1=>rw[i1.1 rfl];simp
            |some (hs1,[]),i1=>exact absurd (i1.2 hs1 [] rfl).1.symm (by simpa using Xy)
            | some (hs1, x2 ::r2),i1=>
              obtain⟨e1,st1,qf,q1⟩:=i1.2 _ _ rfl;have q1:=q1 x2 r2 rfl;simp only[Option.bind_some];rw[q1];subst e1;simp only[List.map_cons,List.length_cons,List.length_map] at hr Xz
              have key:∀(f':Prop) (st2:dD) (r3:List ι) (hsA:List Nat) (x3:ι),cd x3=11→(∃s',cU st2 (rr x)=some s'∧s'.1=[])→r3.length<f→dY f (r3.map cd) d=some iU→
                  ((f'∧rr x≠[]→(((dU cd rr pl x3 (fs++[eX.mk loop is res s1]) (eX.mk (cd x=3) f' (rr x) st2)).bind fun fs'=>(oh cd rr pl r3 fs').map (hsA++ ·))=none))∧
                  (¬ (f'∧rr x≠[])→(jS cd rr pl f r3 labs res (bG s1 (rr x)) base=none→(((dU cd rr pl x3 (fs++[eX.mk loop is res s1]) (eX.mk (cd x=3) f' (rr x) st2)).bind fun fs'=>(oh cd rr pl r3 fs').map (hsA++ ·))=none))∧
                    (∀TP KR,jS cd rr pl f r3 labs res (bG s1 (rr x)) base=some (TP,KR)→KR.map cd=iU∧∃st',(∃s',cU st' res=some s'∧s'.1=[])∧
                      ∀y r',KR=y::r'→((dU cd rr pl x3 (fs++[eX.mk loop is res s1]) (eX.mk (cd x=3) f' (rr x) st2)).bind fun fs'=>(oh cd rr pl r3 fs').map (hsA++ ·))=(dU cd rr pl y fs ⟨loop,is,res,st'⟩).bind fun fs'=>(oh cd rr pl r' fs').map ((hsA++TP)++ ·)))):=by
                intro f' st2 r3 hsA x3 h3 hc3 hlen hr3
                have hst:dU cd rr pl x3 (fs++[eX.mk loop is res s1]) (eX.mk (cd x=3) f' (rr x) st2)=if (f'→rr x=[]) then some (fs++[eX.mk loop is res (bG s1 (rr x))]) else none:=by
                  have Rp:o5 (eX.mk (cd x=3) f' (rr x) st2):=hc3;simp[dU,h3,Rp]
                rw[hst];refine⟨fun hf=>by rw[if_neg (fun e=>hf.2 (e hf.1))];rfl,fun hf=>?_⟩;rw[if_pos (fun e=>Classical.byContradiction fun e'=>hf ⟨e,e'⟩)];simp only[Option.bind_some];have i3:=ih r3 d labs res (bG s1 (rr x)) base fs loop is iU hlen hr3 hne (by rw[hl];simp[sw]) hb;refine⟨fun e=>by rw[i3.1 e];rfl,fun TP KR e=>?_⟩;obtain⟨a1,st',a2,a3⟩:=i3.2 _ _ e;refine⟨a1,st',a2,fun y r' e'=>?_⟩;rw[a3 y r' e'];cases dU cd rr pl y fs ⟨loop,is,res,st'⟩ with
                |none=>rfl
                |some z=>simp only[Option.bind_some,Option.map_map];congr 1;funext l;simp
              have done:∀{o:Option (List Nat)} {z:Nat} {g:List Nat→List Nat},(Option.map (z:: ·) (Option.map g o))=Option.map (fun l=>z::g l) o:=fun{o z g}=>by cases o<;>rfl
              rcases k1 (cd x2) _ rfl with e|e
              · have hr':dY f (r2.map cd) d=some iU:=by simpa[e] using hr
                obtain⟨kA,kB⟩:=key (cd x=4) st1 r2 hs1 x2 e qf (by omega) hr';simp only[e,show ¬((11:Int)=5) by decide,if_false];by_cases hf:cd x=4∧rr x≠[]
                · rw[if_pos hf,kA hf]
                  exact⟨fun _=>rfl,by simp⟩
                · rw[if_neg hf]
                  obtain⟨kC,kD⟩:=kB hf;refine⟨fun e'=>?_,fun hs rest e'=>?_⟩
                  · rw[kC (by simpa using e')];rfl
                  · obtain⟨p3,e3,e4⟩:=Option.map_eq_some_iff.1 e'
                    simp only[Prod.mk.injEq] at e4;obtain⟨rfl,rfl⟩:=e4;obtain⟨a1,st',a2,a3⟩:=kD _ _ (by rw[e3]);refine⟨a1,st',a2,fun y r' e5=>?_⟩;rw[a3 y r' e5];cases dU cd rr pl y fs ⟨loop,is,res,st'⟩ with
                    |none=>rfl
                    |some z=>simp only[Option.bind_some];rw[done];rfl
              · simp only [e,if_true] at hr ⊢
                by_cases h4:cd x=4
                · simp only [h4,if_true] at hr
                  cases Dw:dY f (r2.map cd) (d+1) with
                  |none=>simp[Dw] at hr
                  | some xX=>
                    simp only[Dw] at hr;have XA:xX≠[]:=by intro e;simp[e] at hr
                    have i2:=ih r2 (d+1) (labs++[if cd x=3 then[] else rr x]) (rr x) ([],False) (base+s1.1.length) (fs++[eX.mk loop is res s1]) (cd x=3) False xX (by omega) Dw XA
                      (by rw[hl];simp[sw]) (by rw[iJ,hb])
                    obtain⟨XB,k2,_⟩:=(nq f (r2.map cd) (d+1) (by simpa using(by omega:r2.length<f)) (by omega)).2 xX Dw;simp only[List.length_map] at XB
                    have ap6:dU cd rr pl x2 (fs++[eX.mk loop is res s1]) (eX.mk (cd x=3) (cd x=4) (rr x) st1)=some (fs++[eX.mk loop is res s1]++[eX.mk (cd x=3) False (rr x) ([],False)]):=by
                      have Rp:o5 (eX.mk (cd x=3) (cd x=4) (rr x) st1):=qf;simp only[dU,e,show ¬((5:Int)=11) by decide,if_false,if_true,Rp]
                    rw[ap6];simp only[Option.bind_some];generalize jS cd rr pl f r2 (labs++[if cd x=3 then[] else rr x]) (rr x) ([],False) (base+s1.1.length)=o3 at i2
                    match o3,i2 with
                    |none,i2=>rw[i2.1 rfl];simp
                    |some (hs2,[]),i2=>exact absurd (i2.2 hs2 [] rfl).1.symm (by simpa using XA)
                    | some (hs2,x3::r3),i2=>
                      obtain⟨e2,st2,ap7,q2⟩:=i2.2 _ _ rfl;rw[q2 x3 r3 rfl];subst e2;simp only[List.map_cons,List.length_cons,List.length_map] at hr XB;rcases k2 (cd x3) _ rfl with e3|e3
                      · have hr':dY f (r3.map cd) d=some iU:=by simpa[e3] using hr
                        obtain⟨kA,kB⟩:=key False st2 r3 (hs1++hs2) x3 e3 ap7 (by omega) hr';obtain⟨kC,kD⟩:=kB (fun h=>h.1)
                        have hmm:(Option.map (hs1++ ·) ((dU cd rr pl x3 (fs++[eX.mk loop is res s1]) (eX.mk (cd x=3) False (rr x) st2)).bind fun fs'=>(oh cd rr pl r3 fs').map (hs2++ ·)))=
                            ((dU cd rr pl x3 (fs++[eX.mk loop is res s1]) (eX.mk (cd x=3) False (rr x) st2)).bind fun fs'=>(oh cd rr pl r3 fs').map (hs1++hs2++ ·)):=by
                          cases dU cd rr pl x3 (fs++[eX.mk loop is res s1]) (eX.mk (cd x=3) False (rr x) st2) with
                          |none=>rfl
                          |some z=>simp only[Option.bind_some];cases oh cd rr pl r3 z<;>simp
                        rw[hmm];simp only[Option.bind_some];refine⟨fun e'=>?_,fun hs rest e'=>?_⟩
                        · rw[kC (by simpa using e')];rfl
                        · obtain⟨p3,e3,e4⟩:=Option.map_eq_some_iff.1 e'
                          simp only[Prod.mk.injEq] at e4;obtain⟨rfl,rfl⟩:=e4;obtain⟨a1,st',a2,a3⟩:=kD _ _ (by rw[e3]);refine⟨a1,st',a2,fun y r' e5=>?_⟩;rw[a3 y r' e5];cases dU cd rr pl y fs ⟨loop,is,res,st'⟩ with
                          |none=>rfl
                          |some z=>simp only[Option.bind_some];rw[done];rfl
                      · simp[e3] at hr
                · simp[h4] at hr
      · simp only[h2,if_false] at hr
        have hx0:dU cd rr pl x fs (eX.mk loop is res st)=(pl x st labs).map fun s=>fs++[eX.mk loop is res s]:=by
          simp only[dU,h11,h5,h2,if_false,hl]
        rw[hx0];simp only[jS,h1,if_false,h2];cases pl x st labs with
        |none=>simp
        | some s1=>
          simp only[Option.map_some,Option.bind_some];have i1:=ih r d labs res s1 base fs loop is iU (by omega) hr hne (by rw[hl];simp[sw]) hb;refine⟨fun e'=>?_,fun hs rest e'=>?_⟩
          · rw[i1.1 (by simpa using e')];rfl
          · obtain⟨p3,e3,e4⟩:=Option.map_eq_some_iff.1 e'
            simp only[Prod.mk.injEq] at e4;obtain⟨rfl,rfl⟩:=e4;obtain⟨a1,st',a2,a3⟩:=i1.2 _ _ (by rw[e3]);refine⟨a1,st',a2,fun y r' e5=>?_⟩;rw[a3 y r' e5];cases dU cd rr pl y fs ⟨loop,is,res,st'⟩ with
            |none=>rfl
            |some z=>simp only[Option.bind_some];cases oh cd rr pl r' z<;>rfl
theorem Mx{f:Nat}{s:List ι}{res:List UInt8}(h:s.length<f)(hr:dY f (s.map cd) 0=some [11]):
    oh cd rr pl s [eX.mk False False res ([],False)]=(jS cd rr pl f s [res] res ([],False) 0).map Prod.fst:=by
  have i:=Mw cd rr pl f s 0 [res] res ([],False) 0 [] False False [11] h hr (by simp) (by simp[sw]) rfl;generalize jS cd rr pl f s [res] res ([],False) 0=o at i
  match o,i with
  |none,i=>simpa using i.1 rfl
  | some (hs,rest),i=>
    obtain⟨e,st',hc,q⟩:=i.2 _ _ rfl
    obtain⟨x,rfl⟩:∃x,rest=[x]:=by
      cases rest with
      |nil=>simp at e
      | cons x t=>cases t with
        |nil=>exact⟨x,rfl⟩
        |cons y t=>simp at e
    have q:=q x [] rfl;simp only[List.nil_append] at q;have hx:cd x=11:=by simpa using e
    have Rp:o5 (eX.mk False False res st'):=hc;rw[q];simp[dU,hx,Rp,oh]
end
end Go.Hl
end
section
namespace Go.Hl
structure pR where
 Code:Int
 Name:List UInt8
 Form:Int
 vw:List UInt8
 tL:List UInt8
 deriving DecidableEq
structure nR where
 code:Int
 name:List UInt8
 form:Int
 takes:List UInt8
 xY:List UInt8
 deriving DecidableEq
structure F5 where
 first:Int
 many:Int
 group:Int
 bits:Int
 from_:Int
 deriving DecidableEq
def s9(x:pR):List VP:=[ag .i64 x.Code,cZ x.Name,ag .i64 x.Form,ai 1 aj x.vw,ai 1 aj x.tL]
def gN(x:nR):List VP:=[ag .i64 x.code,cZ x.name,ag .i64 x.form,cZ x.takes,cZ x.xY]
def ta(x:F5):List VP:=[ag .i64 x.first,ag .i64 x.many,ag .i64 x.group,ag .i64 x.bits,ag .i64 x.from_]
def vz(x:Int×Int):List VP:=[ag .i64 x.1,ag .i64 x.2]
def jW(x:List UInt8):List VP:=[cZ x]
instance:gZ 5 s9:=⟨fun _=>rfl,fun x q h=>by simp only[s9,List.mem_cons,List.not_mem_nil,or_false] at h;rcases h with h|h|h|h|h<;>rw[h]<;>infer_instance⟩
instance:gZ 5 gN:=⟨fun _=>rfl,fun x q h=>by simp only[gN,List.mem_cons,List.not_mem_nil,or_false] at h;rcases h with h|h|h|h|h<;>rw[h]<;>infer_instance⟩
instance:gZ 5 ta:=⟨fun _=>rfl,fun x q h=>by simp only[ta,List.mem_cons,List.not_mem_nil,or_false] at h;rcases h with h|h|h|h|h<;>rw[h]<;>infer_instance⟩
instance:gZ 2 vz:=⟨fun _=>rfl,fun x q h=>by simp only[vz,List.mem_cons,List.not_mem_nil,or_false] at h;rcases h with h|h<;>rw[h]<;>infer_instance⟩
instance:gZ 1 jW:=⟨fun _=>rfl,fun x q h=>by simp only[jW,List.mem_cons,List.not_mem_nil,or_false] at h;rw[h];infer_instance⟩
instance (x:pR):bH (s9 x):=⟨fun q h=>(inferInstance:gZ 5 s9).flat x q h⟩
instance (x:nR):bH (gN x):=⟨fun q h=>(inferInstance:gZ 5 gN).flat x q h⟩
instance (x:F5):bH (ta x):=⟨fun q h=>(inferInstance:gZ 5 ta).flat x q h⟩
instance (x:Int×Int):bH (vz x):=⟨fun q h=>(inferInstance:gZ 2 vz).flat x q h⟩
def iW:List nR:=[
 ⟨0,[117,110,114,101,97,99,104,97,98,108,101],0,[],[]⟩,
 ⟨1,[110,111,112],0,[],[]⟩,
 ⟨2,[98,108,111,99,107],1,[],[]⟩,
 ⟨3,[108,111,111,112],1,[],[]⟩,
 ⟨4,[105,102],1,[],[]⟩,
 ⟨5,[101,108,115,101],0,[],[]⟩,
 ⟨11,[101,110,100],0,[],[]⟩,
 ⟨12,[98,114],2,[],[]⟩,
 ⟨13,[98,114,95,105,102],2,[],[]⟩,
 ⟨14,[98,114,95,116,97,98,108,101],3,[],[]⟩,
 ⟨15,[114,101,116,117,114,110],0,[],[]⟩,
 ⟨16,[99,97,108,108],4,[],[]⟩,
 ⟨17,[99,97,108,108,95,105,110,100,105,114,101,99,116],5,[],[]⟩,
 ⟨26,[100,114,111,112],0,[],[]⟩,
 ⟨27,[115,101,108,101,99,116],0,[],[]⟩,
 ⟨32,[108,111,99,97,108,46,103,101,116],6,[],[]⟩,
 ⟨33,[108,111,99,97,108,46,115,101,116],6,[],[]⟩,
 ⟨34,[108,111,99,97,108,46,116,101,101],6,[],[]⟩,
 ⟨35,[103,108,111,98,97,108,46,103,101,116],7,[],[]⟩,
 ⟨36,[103,108,111,98,97,108,46,115,101,116],7,[],[]⟩,
 ⟨40,[105,51,50,46,108,111,97,100],8,[105],[105]⟩,
 ⟨41,[105,54,52,46,108,111,97,100],8,[105],[108]⟩,
 ⟨44,[105,51,50,46,108,111,97,100,56,95,115],8,[105],[105]⟩,
 ⟨45,[105,51,50,46,108,111,97,100,56,95,117],8,[105],[105]⟩,
 ⟨46,[105,51,50,46,108,111,97,100,49,54,95,115],8,[105],[105]⟩,
 ⟨47,[105,51,50,46,108,111,97,100,49,54,95,117],8,[105],[105]⟩,
 ⟨48,[105,54,52,46,108,111,97,100,56,95,115],8,[105],[108]⟩,
 ⟨49,[105,54,52,46,108,111,97,100,56,95,117],8,[105],[108]⟩,
 ⟨50,[105,54,52,46,108,111,97,100,49,54,95,115],8,[105],[108]⟩,
 ⟨51,[105,54,52,46,108,111,97,100,49,54,95,117],8,[105],[108]⟩,
 ⟨52,[105,54,52,46,108,111,97,100,51,50,95,115],8,[105],[108]⟩,
 ⟨53,[105,54,52,46,108,111,97,100,51,50,95,117],8,[105],[108]⟩,
 ⟨54,[105,51,50,46,115,116,111,114,101],8,[105,105],[]⟩,
 ⟨55,[105,54,52,46,115,116,111,114,101],8,[105,108],[]⟩,
 ⟨58,[105,51,50,46,115,116,111,114,101,56],8,[105,105],[]⟩,
 ⟨59,[105,51,50,46,115,116,111,114,101,49,54],8,[105,105],[]⟩,
 ⟨60,[105,54,52,46,115,116,111,114,101,56],8,[105,108],[]⟩,
 ⟨61,[105,54,52,46,115,116,111,114,101,49,54],8,[105,108],[]⟩,
 ⟨62,[105,54,52,46,115,116,111,114,101,51,50],8,[105,108],[]⟩,
 ⟨63,[109,101,109,111,114,121,46,115,105,122,101],9,[],[105]⟩,
 ⟨64,[109,101,109,111,114,121,46,103,114,111,119],9,[105],[105]⟩,
 ⟨65,[105,51,50,46,99,111,110,115,116],11,[],[105]⟩,
 ⟨66,[105,54,52,46,99,111,110,115,116],11,[],[108]⟩,
 ⟨167,[105,51,50,46,119,114,97,112,95,105,54,52],0,[108],[105]⟩,
 ⟨172,[105,54,52,46,101,120,116,101,110,100,95,105,51,50,95,115],0,[105],[108]⟩,
 ⟨173,[105,54,52,46,101,120,116,101,110,100,95,105,51,50,95,117],0,[105],[108]⟩,
 ⟨192,[105,51,50,46,101,120,116,101,110,100,56,95,115],0,[105],[105]⟩]
def jK:List nR:=[
 ⟨193,[105,51,50,46,101,120,116,101,110,100,49,54,95,115],0,[105],[105]⟩,
 ⟨194,[105,54,52,46,101,120,116,101,110,100,56,95,115],0,[108],[108]⟩,
 ⟨195,[105,54,52,46,101,120,116,101,110,100,49,54,95,115],0,[108],[108]⟩,
 ⟨196,[105,54,52,46,101,120,116,101,110,100,51,50,95,115],0,[108],[108]⟩,
 ⟨64522,[109,101,109,111,114,121,46,99,111,112,121],10,[105,105,105],[]⟩,
 ⟨64523,[109,101,109,111,114,121,46,102,105,108,108],9,[105,105,105],[]⟩]
def gO:List F5:=[⟨69,1,2,32,3⟩,⟨70,10,1,32,0⟩,⟨80,1,2,64,3⟩,⟨81,10,1,64,0⟩,⟨103,3,2,32,0⟩,⟨106,15,0,32,0⟩,⟨121,3,2,64,0⟩,⟨124,15,0,64,0⟩]
def My:List (List UInt8):=[[97,100,100],[115,117,98],[109,117,108],[100,105,118,95,115],[100,105,118,95,117],[114,101,109,95,115],[114,101,109,95,117],[97,110,100],[111,114],[120,111,114],[115,104,108],[115,104,114,95,115],[115,104,114,95,117],[114,111,116,108],[114,111,116,114]]
def B9:List (List UInt8):=[[101,113],[110,101],[108,116,95,115],[108,116,95,117],[103,116,95,115],[103,116,95,117],[108,101,95,115],[108,101,95,117],[103,101,95,115],[103,101,95,117]]
def Sa:List (List UInt8):=[[99,108,122],[99,116,122],[112,111,112,99,110,116],[101,113,122]]
def Ab:List (List UInt8):=[[117,110,114,101,97,99,104,97,98,108,101],
 [110,111,112],
 [98,108,111,99,107],
 [108,111,111,112],
 [105,102],
 [101,108,115,101],
 [],
 [],
 [],
 [],
 [],
 [101,110,100],
 [98,114],
 [98,114,95,105,102],
 [98,114,95,116,97,98,108,101],
 [114,101,116,117,114,110],
 [99,97,108,108],
 [99,97,108,108,95,105,110,100,105,114,101,99,116],
 [],
 [],
 [],
 [],
 [],
 [],
 [],
 [],
 [100,114,111,112],
 [115,101,108,101,99,116],
 [],
 [],
 [],
 [],
 [108,111,99,97,108,46,103,101,116],
 [108,111,99,97,108,46,115,101,116],
 [108,111,99,97,108,46,116,101,101],
 [103,108,111,98,97,108,46,103,101,116],
 [103,108,111,98,97,108,46,115,101,116],
 [],
 [],
 [],
 [105,51,50,46,108,111,97,100],
 [105,54,52,46,108,111,97,100],
 [],
 [],
 [105,51,50,46,108,111,97,100,56,95,115],
 [105,51,50,46,108,111,97,100,56,95,117],
 [105,51,50,46,108,111,97,100,49,54,95,115],
 [105,51,50,46,108,111,97,100,49,54,95,117],
 [105,54,52,46,108,111,97,100,56,95,115],
 [105,54,52,46,108,111,97,100,56,95,117],
 [105,54,52,46,108,111,97,100,49,54,95,115],
 [105,54,52,46,108,111,97,100,49,54,95,117],
 [105,54,52,46,108,111,97,100,51,50,95,115],
 [105,54,52,46,108,111,97,100,51,50,95,117],
 [105,51,50,46,115,116,111,114,101],
 [105,54,52,46,115,116,111,114,101],
 [],
 [],
 [105,51,50,46,115,116,111,114,101,56],
 [105,51,50,46,115,116,111,114,101,49,54],
 [105,54,52,46,115,116,111,114,101,56],
 [105,54,52,46,115,116,111,114,101,49,54],
 [105,54,52,46,115,116,111,114,101,51,50],
 [109,101,109,111,114,121,46,115,105,122,101],
 [109,101,109,111,114,121,46,103,114,111,119],
 [105,51,50,46,99,111,110,115,116],
 [105,54,52,46,99,111,110,115,116],
 [],
 [],
 [105,51,50,46,101,113,122],
 [105,51,50,46,101,113],
 [105,51,50,46,110,101],
 [105,51,50,46,108,116,95,115],
 [105,51,50,46,108,116,95,117],
 [105,51,50,46,103,116,95,115],
 [105,51,50,46,103,116,95,117],
 [105,51,50,46,108,101,95,115],
 [105,51,50,46,108,101,95,117],
 [105,51,50,46,103,101,95,115],
 [105,51,50,46,103,101,95,117],
 [105,54,52,46,101,113,122],
 [105,54,52,46,101,113],
 [105,54,52,46,110,101],
 [105,54,52,46,108,116,95,115],
 [105,54,52,46,108,116,95,117],
 [105,54,52,46,103,116,95,115],
 [105,54,52,46,103,116,95,117],
 [105,54,52,46,108,101,95,115],
 [105,54,52,46,108,101,95,117],
 [105,54,52,46,103,101,95,115],
 [105,54,52,46,103,101,95,117],
 [],
 [],
 [],
 [],
 [],
 [],
 [],
 [],
 [],
 [],
 [],
 [],
 [105,51,50,46,99,108,122],
 [105,51,50,46,99,116,122],
 [105,51,50,46,112,111,112,99,110,116],
 [105,51,50,46,97,100,100],
 [105,51,50,46,115,117,98],
 [105,51,50,46,109,117,108],
 [105,51,50,46,100,105,118,95,115],
 [105,51,50,46,100,105,118,95,117],
 [105,51,50,46,114,101,109,95,115],
 [105,51,50,46,114,101,109,95,117],
 [105,51,50,46,97,110,100],
 [105,51,50,46,111,114],
 [105,51,50,46,120,111,114],
 [105,51,50,46,115,104,108],
 [105,51,50,46,115,104,114,95,115],
 [105,51,50,46,115,104,114,95,117],
 [105,51,50,46,114,111,116,108],
 [105,51,50,46,114,111,116,114],
 [105,54,52,46,99,108,122],
 [105,54,52,46,99,116,122],
 [105,54,52,46,112,111,112,99,110,116],
 [105,54,52,46,97,100,100],
 [105,54,52,46,115,117,98],
 [105,54,52,46,109,117,108],
 [105,54,52,46,100,105,118,95,115],
 [105,54,52,46,100,105,118,95,117],
 [105,54,52,46,114,101,109,95,115],
 [105,54,52,46,114,101,109,95,117],
 [105,54,52,46,97,110,100],
 [105,54,52,46,111,114],
 [105,54,52,46,120,111,114],
 [105,54,52,46,115,104,108],
 [105,54,52,46,115,104,114,95,115],
 [105,54,52,46,115,104,114,95,117],
 [105,54,52,46,114,111,116,108],
 [105,54,52,46,114,111,116,114],
 [],
 [],
 [],
 [],
 [],
 [],
 [],
 [],
 [],
 [],
 [],
 [],
 [],
 [],
 [],
 [],
 [],
 [],
 [],
 [],
 [],
 [],
 [],
 [],
 [],
 [],
 [],
 [],
 [105,51,50,46,119,114,97,112,95,105,54,52],
 [],
 [],
 [],
 [],
 [105,54,52,46,101,120,116,101,110,100,95,105,51,50,95,115],
 [105,54,52,46,101,120,116,101,110,100,95,105,51,50,95,117],
 [],
 [],
 [],
 [],
 [],
 [],
 [],
 [],
 [],
 [],
 [],
 [],
 [],
 [],
 [],
 [],
 [],
 [],
 [105,51,50,46,101,120,116,101,110,100,56,95,115],
 [105,51,50,46,101,120,116,101,110,100,49,54,95,115],
 [105,54,52,46,101,120,116,101,110,100,56,95,115],
 [105,54,52,46,101,120,116,101,110,100,49,54,95,115],
 [105,54,52,46,101,120,116,101,110,100,51,50,95,115]]
def Ac:List (Int×Int):=[(28,28),(37,38),(42,43),(56,57),(67,68),(91,102),(139,166),(168,171),(174,191),(208,210),(253,253),(64512,64519),(64520,64521),(64524,64526),(64527,64529)]
theorem vA{α:Type}{p:α→Bool}:∀{l:List α} {k:Nat} {x:α},l[k]?=some x→p x=true→(∀j y,j<k→l[j]?=some y→p y=false)→l.find? p=some x
 |[],_,_,h,_,_=>by simp at h
 |y::l,0,x,h,hp,_=>by simp at h;subst h;simp[hp]
 |y::l,k+1,x,h,hp,hn=>by
  rw[List.find?_cons_of_neg (by simpa using hn 0 y (by omega) rfl)];exact vA (l:=l) (k:=k) (by simpa using h) hp (fun j z hj hz=>hn (j+1) z (by omega) (by simpa using hz))
def gP(l:List UInt8):List UInt8:=l.map fun c=>if c=108 then 126 else 127
def rj(l:List UInt8):Prop:=∀b∈l,b<128
instance (l:List UInt8):Decidable (rj l):=inferInstanceAs (Decidable (∀b∈l,b<128))
def uw(r:nR):pR:=⟨r.code,r.name,r.form,gP r.takes,gP r.xY⟩
def XC:pR:=⟨0,[],0,[],[]⟩
def TS:nR:=⟨0,[],0,[],[]⟩
def o6(code:Int)(s:F5):Bool:=decide (s.first≤code∧code<s.first+s.many)
def sy(code:Int):Option (Int×Int×Int):=(gO.find? (o6 code)).map fun s=>(s.group,s.from_+code-s.first,s.bits)
def mV(b:Int):List UInt8:=if b=64 then[105,54,52,46] else[105,51,50,46]
def om(b:Int):List UInt8:=if b=64 then[108] else[105]
def lY(code g n b:Int):nR:=
 if g=0 then⟨code,mV b++My.getD n.toNat [],0,om b++om b,om b⟩
 else if g=1 then⟨code,mV b++B9.getD n.toNat [],0,om b++om b,[105]⟩
 else if n=3 then⟨code,mV b++Sa.getD n.toNat [],0,om b,[105]⟩
 else⟨code,mV b++Sa.getD n.toNat [],0,om b,om b⟩
def gQ(code:Int):Option nR:=(sy code).map fun p=>lY code p.1 p.2.1 p.2.2
def jX(code:Int)(r:nR):Bool:=decide (r.code=code)
def tq(code:Int):Option nR:=match iW.find? (jX code) with|some r=>some r|none=>match jK.find? (jX code) with|some r=>some r|none=>gQ code
def eR(code:Int):Option pR:=(tq code).map uw
def sA(code:Int):Prop:=∃r∈Ac,r.1≤code∧code≤r.2
instance (code:Int):Decidable (sA code):=inferInstanceAs (Decidable (∃r∈Ac,r.1≤code∧code≤r.2))
def iX:List (List UInt8):=[[56],[49,54],[51,50]]
def Ad(name:List UInt8):List UInt8:=sU (sU (wC name 46).2.1 [95,115]) [95,117]
def w8(name:List UInt8):Int:=if mN (Ad name) [56] then 1 else if mN (Ad name) [49,54] then 2 else if mN (Ad name) [51,50] then 4 else if wB name [105,54,52] then 8 else 4
def lZ(code:Int):Option Int:=match eR code with|none=>none|some x=>if x.Form=8 then some (w8 x.Name) else none
def jo(code:Int):List UInt8:=if code=64522 then[109,101,109,111,114,121,46,99,111,112,121] else if code=64523 then[109,101,109,111,114,121,46,102,105,108,108] else if code<0∨196<code then[] else Ab.getD code.toNat []
def aV(c:Int):Int:=
 if 2≤c∧c≤4 then 1 else if c=12∨c=13 then 2 else if c=14 then 3 else if c=16 then 4 else if c=17 then 5 else if 32≤c∧c≤34 then 6 else if c=35∨c=36 then 7 else if 40≤c∧c≤62 then 8 else if (c=63∨c=64)∨c=64523 then 9 else if c=64522 then 10 else if c=65∨c=66 then 11 else 0
def aO(c:Int):List UInt8×List UInt8:=
 if c<40 then([],[]) else if c=40∨44≤c∧c≤47 then([127],[127]) else if c=41∨48≤c∧c≤53 then([127],[126]) else if (c=54∨c=58)∨c=59 then([127,127],[])
 else if c≤62 then([127,126],[]) else if c=63∨c=65 then([],[127]) else if c=66 then([],[126]) else if c=80∨c=167 then([126],[127])
 else if (70≤c∧c≤79)∨106≤c∧c≤120 then([127,127],[127]) else if 81≤c∧c≤90 then([126,126],[127]) else if 124≤c∧c≤138 then([126,126],[126])
 else if c=172∨c=173 then([127],[126]) else if (121≤c∧c≤123)∨194≤c∧c≤196 then([126],[126]) else if 64522≤c then([127,127,127],[]) else([127],[127])
def iq(c:Int):Int:=
 if c=40∨c=52∨c=53∨c=54∨c=62 then 4 else if c=41∨c=55 then 8 else if c=44∨c=45∨c=48∨c=49∨c=58∨c=60 then 1 else if c=46∨c=47∨c=50∨c=51∨c=59∨c=61 then 2 else 0
def vB(c:Int):Prop:=
 (c=28∨c=37∨c=38∨c=42∨c=43∨c=56∨c=57∨c=67∨c=68∨c=208∨c=209∨c=210∨c=253)∨(91≤c∧c≤102∨139≤c∧c≤166∨168≤c∧c≤171∨174≤c∧c≤191∨64512≤c∧c≤64521∨64524≤c∧c≤64529)
instance (c:Int):Decidable (vB c):=inferInstanceAs (Decidable (_∨_))
theorem Ja:∀r∈iW,rj r.takes∧rj r.xY∧r.takes.length≤3∧r.xY.length≤3:=by decide
theorem Jb:∀r∈jK,rj r.takes∧rj r.xY∧r.takes.length≤3∧r.xY.length≤3:=by decide
def F6(r:nR):Prop:=rj r.takes∧rj r.xY∧r.takes.length≤3∧r.xY.length≤3
theorem Sb(b:Int):rj (om b)∧(om b).length=1:=by unfold om;split<;>exact⟨by decide,rfl⟩
theorem Jc(b:Int):rj (om b++om b):=by unfold om;split<;>decide
theorem Mz(code g n b:Int):F6 (lY code g n b):=by
 have h:=Sb b;have h2:=Jc b;have h3:rj [105]:=by decide
 unfold lY F6
 split
 · exact⟨h2,h.1,by simp[h.2],by simp[h.2]⟩
 split
 · exact⟨h2,h3,by simp[h.2],by simp⟩
 split
 · exact⟨h.1,h3,by simp[h.2],by simp⟩
 · exact⟨h.1,h.1,by simp[h.2],by simp[h.2]⟩
theorem KS{code:Int}{r:nR}(h:tq code=some r):F6 r:=by
 unfold tq at h
 split at h
 · rename_i r' hr;cases h;exact Ja r (List.mem_of_find?_eq_some hr)
 · split at h
   · rename_i r' hr;cases h;exact Jb r (List.mem_of_find?_eq_some hr)
   · unfold gQ at h
     cases hn:sy code with
     |none=>rw[hn] at h;cases h
     |some p=>rw[hn] at h;cases h;exact Mz _ _ _ _
theorem MA:∀s∈gO,0≤s.from_∧(s.group=0∧s.from_+s.many≤15∨s.group=1∧s.from_+s.many≤10∨s.group=2∧s.from_+s.many≤4)∧(s.bits=32∨s.bits=64):=by decide
theorem F7{code g n b:Int}(h:sy code=some (g,n,b)):0≤n∧(g=0∧n<15∨g=1∧n<10∨g=2∧n<4)∧(b=32∨b=64):=by
 unfold sy at h;cases hs:gO.find? (o6 code) with
 |none=>rw[hs] at h;cases h
 |some s=>
  rw[hs] at h;cases h
  have h1:=MA s (List.mem_of_find?_eq_some hs);have h2:=List.find?_some hs;simp only[o6,decide_eq_true_eq] at h2;omega
end Go.Hl
namespace Go.Hl
theorem PF:∀s∈gO,0≤s.first∧s.first≤200∧0≤s.many∧s.many≤20∧0≤s.from_∧s.from_≤10:=by decide
theorem Sc{code:Int}{k:Nat}{s:F5}(hx:gO[k]?=some s)(hc:o6 code s=true)(hn:cT (fun s=>o6 code s=true) gO k):sy code=some (s.group,s.from_+code-s.first,s.bits):=by
 unfold sy;rw[vA hx hc (fun j y hj hy=>by simpa using hn j y hj hy)];rfl
theorem tc{code:Int}(hn:cT (fun s=>o6 code s=true) gO gO.length):sy code=none:=by
 unfold sy;rw[List.find?_eq_none.2 (fun x hx=>hn.all (Nat.le_refl _) x hx)];rfl
theorem U3{code:Int}{k:Nat}{r:nR}(hx:iW[k]?=some r)(hc:r.code=code)(hn:cT (fun r=>r.code=code) iW k):tq code=some r:=by
 unfold tq;rw[vA hx (by simpa[jX] using hc) (fun j y hj hy=>by simpa[jX] using hn j y hj hy)]
theorem Ca{code:Int}(hn:cT (fun r:nR=>r.code=code) iW iW.length):iW.find? (jX code)=none:=
 List.find?_eq_none.2 (fun x hx=>by have:=hn.all (Nat.le_refl _) x hx;simpa[jX] using this)
theorem MB{code:Int}(hn:cT (fun r:nR=>r.code=code) jK jK.length):jK.find? (jX code)=none:=
 List.find?_eq_none.2 (fun x hx=>by have:=hn.all (Nat.le_refl _) x hx;simpa[jX] using this)
theorem U4{code:Int}{k:Nat}{r:nR}(h1:cT (fun r:nR=>r.code=code) iW iW.length)(hx:jK[k]?=some r)(hc:r.code=code)(hn:cT (fun r=>r.code=code) jK k):tq code=some r:=by
 unfold tq;rw[Ca h1];simp only;rw[vA hx (by simpa[jX] using hc) (fun j y hj hy=>by simpa[jX] using hn j y hj hy)]
theorem PG{code:Int}(h1:cT (fun r:nR=>r.code=code) iW iW.length)(h2:cT (fun r:nR=>r.code=code) jK jK.length):tq code=gQ code:=by
 unfold tq;rw[Ca h1];simp only;rw[MB h2]
theorem Ba{code:Int}{p:Int×Int×Int}(h:sy code=some p):gQ code=some (lY code p.1 p.2.1 p.2.2):=by unfold gQ;rw[h];rfl
theorem Bb{code:Int}(h:sy code=none):gQ code=none:=by unfold gQ;rw[h];rfl
theorem xZ{l:List UInt8}{k:Nat}{x:UInt8}(h:l[k]?=some x):gP (l.take (k+1))=gP (l.take k)++[if x=108 then 126 else 127]:=by
 rw[←bq h];simp[gP]
theorem mA{l:List UInt8}{k:Nat}{x:UInt8}(h:l[k]?=some x)(hc:(x.toNat:Int)=108):gP (l.take (k+1))=gP (l.take k)++[126]:=by
 have:x=108:=UInt8.toNat_inj.1 (by simp;omega);rw[xZ h,if_pos this]
theorem mB{l:List UInt8}{k:Nat}{x:UInt8}(h:l[k]?=some x)(hc:¬(x.toNat:Int)=108):gP (l.take (k+1))=gP (l.take k)++[127]:=by
 have:¬x=108:=fun e=>hc (by subst e;rfl);rw[xZ h,if_neg this]
theorem Ae(l:List UInt8):(gP l).length=l.length:=by simp[gP]
theorem F8:∀l:List (List UInt8),l.flatMap jW=l.map cZ
 |[]=>rfl
 |x::l=>by rw[List.flatMap_cons,List.map_cons,F8 l];rfl
theorem ng{l:List (List UInt8)}{j:Nat}(h:j<l.length):(l.flatMap jW)[j]?=some (cZ (l.getD j [])):=by
 rw[F8,List.getElem?_map,List.getElem?_eq_getElem h,List.getD_eq_getElem?_getD,List.getElem?_eq_getElem h];rfl
theorem F9(b:Int):(mV b).length=4:=by unfold mV;split<;>rfl
theorem Ga:∀s∈My,s.length≤10:=by decide
theorem Cb:∀s∈B9,s.length≤10:=by decide
theorem Dx:∀s∈Sa,s.length≤10:=by decide
theorem vC{l:List (List UInt8)}(h:∀s∈l,s.length≤10)(j:Nat):(l.getD j []).length≤10:=by
 rw[List.getD_eq_getElem?_getD];cases hj:l[j]? with
 |none=>simp
 |some s=>exact h s (List.mem_of_getElem? hj)
end Go.Hl
namespace Go.Hl
theorem Sd{code:Int}{x:pR}(h:eR code=some x):x.Name≠[46]∧x.Name.length≤20:=by
 unfold eR at h;cases hr:tq code with
 |none=>rw[hr] at h;cases h
 | some r=>
  rw[hr] at h;cases h
  show r.name≠[46]∧r.name.length≤20
  have h1:∀r∈iW,r.name≠[46]∧r.name.length≤20:=by decide
  have h2:∀r∈jK,r.name≠[46]∧r.name.length≤20:=by decide
  unfold tq at hr
  split at hr
  · rename_i r' hf;cases hr;exact h1 _ (List.mem_of_find?_eq_some hf)
  · split at hr
    · rename_i r' hf;cases hr;exact h2 _ (List.mem_of_find?_eq_some hf)
    · unfold gQ at hr
      cases hn:sy code with
      |none=>rw[hn] at hr;cases hr
      | some p=>
       rw[hn] at hr;cases hr
       have hk:=F9 p.2.2
       have key:∀(T:List (List UInt8)),(∀s∈T,s.length≤10)→mV p.2.2++T.getD p.2.1.toNat []≠[46]∧(mV p.2.2++T.getD p.2.1.toNat []).length≤20:=fun T hT=>by
        have hl:=vC hT p.2.1.toNat;refine⟨fun e=>?_,by rw[List.length_append];omega⟩;have:=congrArg List.length e;rw[List.length_append] at this;simp at this;omega
       unfold lY
       dsimp only
       split
       · exact key _ Ga
       split
       · exact key _ Cb
       split
       · exact key _ Dx
       · exact key _ Dx
theorem x4{code:Int}(h:eR code=none):lZ code=none:=by unfold lZ;rw[h]
theorem Gb{code:Int}{x:pR}(h:eR code=some x)(hf:x.Form≠8):lZ code=none:=by unfold lZ;rw[h];simp[hf]
theorem Jd{code:Int}{x:pR}(h:eR code=some x)(hf:x.Form=8):lZ code=some (w8 x.Name):=by unfold lZ;rw[h];simp[hf]
theorem MC{name s:List UInt8}{k:Nat}(hs:iX[k]?=some s)(hc:mN (Ad name) s)(hn:cT (fun s=>mN (Ad name) s) iX k):w8 name=2^k:=by
 unfold w8
 match k,hs with
 |0,hs=>cases hs;rw[if_pos hc];rfl
 |1,hs=>cases hs;rw[if_neg (hn 0 _ (by omega) rfl),if_pos hc];rfl
 |2,hs=>cases hs;rw[if_neg (hn 0 _ (by omega) rfl),if_neg (hn 1 _ (by omega) rfl),if_pos hc];rfl
theorem Cc{name:List UInt8}(hn:cT (fun s=>mN (Ad name) s) iX iX.length):w8 name=if wB name [105,54,52] then 8 else 4:=by
 unfold w8;rw[if_neg (hn 0 _ (by decide) rfl),if_neg (hn 1 _ (by decide) rfl),if_neg (hn 2 _ (by decide) rfl)]
theorem MD:Ab.length=197:=by decide+kernel
theorem ap8:∀{k:Nat},k<3→IntKind.i64.wrap (1*2^k)=(2:Int)^k
 |0,_=>rfl
 |1,_=>rfl
 |2,_=>rfl
 |k+3,h=>by omega
end Go.Hl
end
section
namespace Go.Hl
def Ce(c:Int):Prop:=(lZ c=if 0<iq c then some (iq c) else none)∧(sA c↔vB c)∧
 match eR c with
 |none=>jo c=[]
 |some x=>x.Code=c∧x.Name=jo c∧jo c≠[]∧x.Form=aV c∧x.vw=(aO c).1∧x.tL=(aO c).2∧¬sA c
instance (c:Int):Decidable (Ce c):=by unfold Ce;cases eR c<;>infer_instance
theorem Se:∀c:Fin 256,Ce (c.val:Int):=by decide+kernel
theorem Sf:∀c:Fin 18,Ce ((c.val:Int)+64512):=by decide+kernel
variable {c:Int}
theorem Gc(h:c<0∨196<c∧c<64522∨64523<c):eR c=none:=by
 have h1:∀r∈iW,0≤r.code∧r.code≤196:=by decide
 have h2:∀r∈jK,0≤r.code∧r.code≤196∨64522≤r.code∧r.code≤64523:=by decide
 have h3:∀s∈gO,0≤s.first∧s.first+s.many≤197:=by decide
 unfold eR tq gQ sy;rw[List.find?_eq_none.2 (fun r hr=>by have:=h1 r hr;simp[jX];omega)];simp only;rw[List.find?_eq_none.2 (fun r hr=>by have:=h2 r hr;simp[jX];omega)];simp only;rw[List.find?_eq_none.2 (fun s hs=>by have:=h3 s hs;simp[o6];omega)];rfl
theorem PI(h:c<0∨255<c∧c<64512∨64529<c):Ce c:=by
 have hf:eR c=none:=Gc (by omega);have h4:∀r∈Ac,0≤r.1∧r.2≤255∨64512≤r.1∧r.2≤64529:=by decide
 have hno:¬sA c:=fun⟨r,hr,hc⟩=>by have:=h4 r hr;omega
 have XD:¬vB c:=by unfold vB;omega
 have hw:iq c=0:=by unfold iq;repeat rw[if_neg (by omega)]
 refine⟨?_,⟨fun h=>(hno h).elim,fun h=>(XD h).elim⟩,?_⟩
 · rw[x4 hf,hw];rfl
 · rw[hf]
   show jo c=[]
   unfold jo;rw[if_neg (by omega),if_neg (by omega)];by_cases h0:c<0∨196<c
   · rw[if_pos h0]
   · omega
theorem Af(c:Int):Ce c:=by
 by_cases h1:0≤c∧c<256
 · have:=Se ⟨c.toNat,by omega⟩
   rwa [show((⟨c.toNat,by omega⟩:Fin 256).val:Int)=c by simp;omega] at this
 by_cases h2:64512≤c∧c<64530
 · have:=Sf ⟨(c-64512).toNat,by omega⟩
   rwa [show((⟨(c-64512).toNat,by omega⟩:Fin 18).val:Int)+64512=c by simp;omega] at this
 · exact PI (by omega)
theorem qF(h:eR c=none):jo c=[]:=by have:=(Af c).2.2;rw[h] at this;exact this
theorem nh{x:pR}(h:eR c=some x):x.Code=c∧x.Name=jo c∧jo c≠[]∧x.Form=aV c∧x.vw=(aO c).1∧x.tL=(aO c).2∧¬sA c:=by
 have:=(Af c).2.2;rw[h] at this;exact this
theorem PJ:(eR c).isSome↔jo c≠[]:=by
 cases h:eR c with
 |none=>simp[qF h]
 |some x=>simp[(nh h).2.2.1]
theorem ME(c:Int):(lZ c).getD 0=iq c∧((lZ c).isSome↔0<iq c):=by
 rw[(Af c).1];have h0:0≤iq c:=by unfold iq;repeat (first|split|omega)
 split
 · rename_i h;simp[h]
 · rename_i h;simp;omega
theorem PK{α:Type}{P:α→Prop}{c:Prop}[Decidable c]{a b:α}(ha:P a)(hb:P b):P (if c then a else b):=by split<;>assumption
theorem jG(c:Int):(aO c).1.length≤3∧(aO c).2.length≤3:=by
 suffices h:(fun p:List UInt8×List UInt8=>p.1.length≤3∧p.2.length≤3) (aO c) from h
 unfold aO
 iterate 14 refine PK (P:=fun p:List UInt8×List UInt8=>p.1.length≤3∧p.2.length≤3) ⟨by simp,by simp⟩ ?_
 exact⟨by simp,by simp⟩
end Go.Hl
end
section
namespace Go.Hl
structure nS where
 aA:List kY
 bQ:List kY
 bO:List Prop
 an:List UInt8
 eO:List Prop
 Table:Prop
 de:kY
 aW:List UInt8
open Classical
noncomputable def pS(s:dD)(i o:List UInt8):Option dD:=(cU s i).map (bG · o)
noncomputable def bV(w:Prop):UInt8:=if w then 126 else 127
def jq(labs:List (List UInt8))(n:Int):Option (List UInt8):=if n<(labs.length:Int)∧0≤n then labs[labs.length-1-n.toNat]? else none
def eo{α:Type}(l:List α)(n:Int):Option α:=if n<(l.length:Int)∧0≤n then l[n.toNat]? else none
noncomputable def rA(v:nS)(x:ay)(s:dD):Option dD:=
 (eo v.bO x.A).bind fun wa=>
 (if aV x.Code=10 then eo v.bO x.B else some wa).bind fun wb=>
 if aV x.Code=8 then
  if (¬wa∧4294967295<x.B)∨iq x.Code<2^x.dm.toNat then none
  else pS s (bV wa::(aO x.Code).1.tail) (aO x.Code).2
 else if x.Code=63 then pS s (aO x.Code).1 [bV wa]
 else if x.Code=64 then pS s [bV wa] [bV wa]
 else if x.Code=64523 then pS s [bV wa,127,bV wa] (aO x.Code).2
 else pS s [bV wa,bV wb,bV (wa∧wb)] (aO x.Code).2
noncomputable def iy(v:nS)(x:ay)(s:dD)(labs:List (List UInt8)):Option dD:=
 if x.Code=0 then some eZ
 else if x.Code=12 then(jq labs x.A).bind fun w=>(cU s w).map fun _=>eZ
 else if x.Code=13 then(jq labs x.A).bind fun w=>pS s (w++[127]) w
 else if x.Code=14 then(jq labs x.A).bind fun w=>if ∀n∈x.L,jq labs n=some w then(cU s (w++[127])).map fun _=>eZ else none
 else if x.Code=15 then(cU s v.de.R).map fun _=>eZ
 else if x.Code=16 then(eo v.aA x.A).bind fun g=>pS s g.P g.R
 else if x.Code=17 then(eo v.bQ x.A).bind fun g=>if x.B=0∧v.Table then pS s (g.P++[127]) g.R else none
 else if x.Code=26 then(jm s 0).map Prod.fst
 else if x.Code=27 then(cU s [127]).bind fun s=>(jm s 0).bind fun p=>(jm p.1 p.2).map fun p=>bG p.1 [p.2]
 else if x.Code=32 then(eo v.aW x.A).map fun t=>bG s [t]
 else if x.Code=33 then(eo v.aW x.A).bind fun t=>cU s [t]
 else if x.Code=34 then(eo v.aW x.A).bind fun t=>pS s [t] [t]
 else if x.Code=35 then(eo v.an x.A).map fun t=>bG s [t]
 else if x.Code=36 then(eo v.an x.A).bind fun t=>(eo v.eO x.A).bind fun m=>if m then cU s [t] else none
 else if aV x.Code<8∨10<aV x.Code then pS s (aO x.Code).1 (aO x.Code).2
 else rA v x s
end Go.Hl
end
section
namespace Go.Hl
def fO(n:Nat):Nat:=if n<128 then 1 else fO (n/128)+1
termination_by n
decreasing_by omega
def lC(n:Int):Nat:=if-64≤n∧n<64 then 1 else lC (n/128)+1
termination_by n.natAbs
decreasing_by omega
theorem Gd(n:Int):0<lC n:=by unfold lC;split<;>omega
variable {n:Nat}
theorem vD(h:n<128):fO n=1:=by unfold fO;simp[h]
theorem yL(h:128≤n):fO n=fO (n/128)+1:=by rw[fO];simp[Nat.not_lt.2 h]
theorem vE{n:Int}(h: -64≤n∧n<64):lC n=1:=by unfold lC;simp[h]
theorem Ag{n:Int}(h:¬(-64≤n∧n<64)):lC n=lC (n/128)+1:=by rw[lC];simp[h]
theorem Sg:∀(k n:Nat),n<128^(k+1)→fO n≤k+1:=by
 intro k
 induction k with
 |zero=>intro n h;rw[vD (by simpa using h)];omega
 |succ k ih=>
  intro n h;by_cases h1:n<128
  · rw[vD h1];omega
  · rw[yL (by omega)]
    have:=ih (n/128) (by rw[Nat.div_lt_iff_lt_mul (by omega)];rw[←Nat.pow_succ];exact h);omega
theorem dI(h:n<18446744073709551616):fO n≤10:=Sg 9 n (Nat.lt_of_lt_of_le h (by decide))
theorem Sh:∀(k:Nat) (n:Int),-(64*128^k:Int)≤n→n<64*128^k→lC n≤k+1:=by
 intro k
 induction k with
 |zero=>intro n h1 h2;rw[vE (by omega)];omega
 |succ k ih=>
  intro n h1 h2;by_cases h: -64≤n∧n<64
  · rw[vE h];omega
  · rw[Ag h]
    have e:(64*128^(k+1):Int)=(64*128^k)*128:=by rw[Int.pow_succ];omega
    rw[e] at h1 h2;have:=ih (n/128) (by omega) (by omega);omega
theorem yM{n:Int}(h1: -9223372036854775808≤n)(h2:n<9223372036854775808):lC n≤10:=Sh 9 n (by omega) (by omega)
def NZ(m:Nat):Nat:=if m=0 then 0 else Nat.log2 m+1
theorem Si(m:Nat)(h:128≤m):NZ m=NZ (m/128)+7:=by
 have h0:m/128≠0:=by omega
 simp only[NZ,h0,if_false,show m≠0 by omega];have e:m/128=m/2/2/2/2/2/2/2:=by simp[Nat.div_div_eq_div_mul]
 have l:∀k:Nat,2≤k→Nat.log2 k=Nat.log2 (k/2)+1:=fun k hk=>by rw[Nat.log2_def];simp[hk]
 rw[e,l m (by omega),l (m/2) (by omega),l (m/2/2) (by omega),l (m/2/2/2) (by omega),l (m/2/2/2/2) (by omega),l (m/2/2/2/2/2) (by omega),l (m/2/2/2/2/2/2) (by omega)]
variable {k:Nat}
theorem Je{m:Nat}(h:m<2^k):NZ m≤k:=by
 unfold NZ;split
 · omega
 · rename_i h0;have:=(Nat.log2_lt h0).2 h;omega
theorem U5{m:Nat}(h:2^k≤m):k<NZ m:=by
 unfold NZ;have h0:m≠0:=by have:=Nat.two_pow_pos k;omega
 rw[if_neg h0];have:=(Nat.le_log2 h0).2 h;omega
theorem MF:∀(k:Nat) (n:Int),n.natAbs≤k→lC n=(NZ (if n<0 then(-n-1).toNat else n.toNat)+7)/7:=by
  intro k
  induction k with
  | zero => intro n h;have:n=0:=by omega
            subst this;rw[vE (by omega)];simp[NZ]
  | succ k ih=>
    intro n h;generalize hm:(if n<0 then(-n-1).toNat else n.toNat)=m;by_cases h1: -64≤n∧n<64
    · rw[vE h1];have:=Je (m:=m) (k:=6) (by split at hm<;>omega);omega
    · rw[Ag h1,ih (n/128) (by omega)]
      have e:(if n/128<0 then(-(n/128)-1).toNat else(n/128).toNat)=m/128:=by split at hm<;>split<;>omega
      rw[e];by_cases h2:128≤m
      · rw[Si m h2];omega
      · have h3:m/128=0:=by omega
        have a:=Je (m:=m) (k:=7) (by omega);have b:=U5 (m:=m) (k:=6) (by split at hm<;>omega);rw[h3];simp only[NZ,if_true]
        simp only[NZ] at a b;omega
def ux(n:Int):Prop:=n≤4294967295
def iP(x:ay):Prop:=
 jo x.Code≠[]∧¬(aV x.Code≠11∧¬ux x.A∨x.Code=65∧¬ux x.A∨aV x.Code≠8∧¬ux x.B)∧
 ¬(aV x.Code=0∧x.A≠0∨aV x.Code=1∧x.A≠64∧x.A≠126∧x.A≠127)∧
 ¬(aV x.Code≠5∧aV x.Code≠8∧aV x.Code≠10∧x.B≠0∨aV x.Code≠8∧x.dm≠0∨x.dm<0∨31<x.dm)∧
 (∀n∈x.L,ux n)∧(x.L=[]∨aV x.Code=3∧x.L.length≤100)
def bJ(n:Int):Nat:=fO n.toNat
def nT(x:ay):Nat:=
 (if 64512≤x.Code then 1+bJ (x.Code-64512) else 1)+
 (if aV x.Code=1 then 1
  else if aV x.Code=2∨aV x.Code=4∨aV x.Code=6∨aV x.Code=7∨aV x.Code=9 then bJ x.A
  else if aV x.Code=3 then fO x.L.length+(x.L.map bJ).sum+bJ x.A
  else if aV x.Code=5∨aV x.Code=10 then bJ x.A+bJ x.B
  else if aV x.Code=8 then(if x.A=0 then bJ x.dm else bJ (x.dm+64)+bJ x.A)+bJ x.B
  else if aV x.Code=11 then lC (if x.Code=65 then(if x.A<2147483648 then x.A else x.A-4294967296) else(if x.A<9223372036854775808 then x.A else x.A-18446744073709551616))
  else 0)
def gY:List UInt8→List Nat
 |[]=>[]
 |t::l=>match l,gY l with
  |t'::_,n::r=>if t'=t then(n+1)::r else 1::n::r
  |_,_=>[1]
def MG(b:jJ):Nat:=fO (gY b.aW).length+((gY b.aW).map fun n=>fO n+1).sum+(b.L.map nT).sum
def oI(b:jJ):Prop:=
 (∀x∈b.L,iP x)∧(∀t∈b.aW,t=126∨t=127)∧b.aW.length≤50∧fB (b.L.map (·.Code)) []∧MG b≤4096
def cF(m:aT)(n:Int):kY:=(m.bQ[n.toNat]?).getD ⟨[],[]⟩
def cH(m:aT)(f:cN):nS where
 aA:=m.aJ.map (fun i=>cF m i.gX)++m.aA.map (fun g=>cF m g.gX)
 bQ:=m.bQ
 bO:=m.bz.map (·.bO)
 an:=m.an.map (·.Ty)
 eO:=m.an.map (·.eO)
 Table:=0≤m.Table
 de:=cF m f.gX
 aW:=(cF m f.gX).P++f.Body.aW
def eL(x:ay):List UInt8:=if x.A=64 then[] else[UInt8.ofNat x.A.toNat]
noncomputable def jr(m:aT)(f:cN):Option (List Nat):=
 oh (·.Code) eL (iy (cH m f)) f.Body.L [eX.mk False False (cF m f.gX).R ([],False)]
def qG(m:aT)(f:cN):Prop:=oI f.Body∧∃hs,jr m f=some hs
def j8(m:aT):Prop:=dM m∧∀f∈m.aA,qG m f
theorem Dy{m:aT}{f:cN}(h:oI f.Body)(hk:f.Body.L.length<k):
    jr m f=(jS (·.Code) eL (iy (cH m f)) k f.Body.L [(cF m f.gX).R] (cF m f.gX).R ([],False) 0).map Prod.fst:=
  Mx _ _ _ hk ((w5 (by simpa using hk)).1 h.2.2.2.1)
end Go.Hl
end
section
namespace Go.Hl
open Go.RowKit
structure N0 where
 loop:Prop
 is:Prop
 res:List UInt8
 h:Nat
 dead:Prop
def lq(b:N0):List VP:=[ak b.loop,ak b.is,ai 1 aj b.res,ag .i64 (b.h:Int),ak b.dead]
instance:gZ 5 lq:=⟨fun _=>rfl,fun x q h=>by simp only[lq,List.mem_cons,List.not_mem_nil,or_false] at h;rcases h with h|h|h|h|h<;>rw[h]<;>infer_instance⟩
instance (x:N0):bH (lq x):=bH.of x
def mC(h:Nat)(k:eX)(s:dD):N0:=⟨k.loop,k.is,k.res,h,s.2⟩
def di(fs:List eX):List UInt8:=fs.flatMap (·.st.1)
def Bc:Nat→List eX→List N0
 |_,[]=>[]
 |h,k::fs=>mC h k k.st::Bc (h+k.st.1.length) fs
abbrev jT(fs:List eX):List N0:=Bc 0 fs
theorem Cf(k:eX):∀(fs:List eX) (h:Nat),Bc h (fs++[k])=Bc h fs++[mC (h+sx fs) k k.st]
 |[],h=>by simp[Bc,sx]
 |k'::fs,h=>by simp[Bc,Cf k fs,sx,Nat.add_assoc]
theorem Ge:∀(fs:List eX) (h:Nat),(Bc h fs).length=fs.length
 |[],_=>rfl
 |_::fs,h=>by simp[Bc,Ge fs]
theorem Ah(fs:List eX):(di fs).length=sx fs:=by
 induction fs with
 |nil=>rfl
 |cons k fs ih=>simp only[di,List.flatMap_cons,List.length_append] at ih ⊢;rw[ih];simp[sx]
theorem iK(fs:List eX)(k:eX):di (fs++[k])=di fs++k.st.1:=by simp[di]
theorem l5(fs:List eX)(k:eX):jT (fs++[k])=jT fs++[mC (di fs).length k k.st]:=by rw[jT,Cf,Nat.zero_add,Ah]
open Classical in
noncomputable def Bd(b:N0):List UInt8:=if b.loop then[] else b.res
theorem Gf:∀(fs:List eX) (h:Nat),(Bc h fs).map Bd=fs.map sw
 |[],_=>rfl
 |k::fs,h=>by simp only[Bc,List.map_cons,Gf fs];rfl
abbrev KT(cb:Nat)(m:aT)(f:cN)(gs:SB)(ns:Nat)(gb:SB)(nb:Nat):HP:=ax cb [bT (bf m),ai 1 aj (cH m f).aW,ai 1 aj (cF m f.gX).P,ai 1 aj (cF m f.gX).R,aa (bt gs ns),aa (bt gb nb)]
abbrev PL(cb:Nat)(m:aT)(f:cN)(gs gb:SB)(st:List UInt8)(B:List N0):List HP:=[KT cb m f gs st.length gb B.length,av gs 1 aj st,av gb 5 lq B]
abbrev Ai(cb:Nat)(m:aT)(f:cN)(gs:SB)(bb bc:Nat)(S0:List UInt8)(B:List N0)(k:eX)(s:dD):List HP:=PL cb m f gs (some (bb,bc)) (S0++s.1) (B++[mC S0.length k s])
variable {w:UInt8} {d:Prop}
theorem KU(h:d):jm ([],d) w=some (([],d),w):=by simp[jm,h]
theorem Aj(h:¬d):jm ([],d) w=none:=by simp[jm,h]
variable {l:List UInt8}
theorem Ak{g:UInt8}(h:g=w∨g=0∨w=0):jm (l++[g],d) w=some ((l,d),if g=0 then w else g):=by
 simp[jm,h]
theorem x5{g:UInt8}(h:¬(g=w∨g=0∨w=0)):jm (l++[g],d) w=none:=by
 simp only[jm,List.getLast?_append,List.getLast?_singleton,Option.some_or];rw[if_neg h]
theorem oJ(a:UInt8):(a.toNat:Int)=0↔a=0:=by
 rw[←UInt8.toNat_inj];simp
variable {α:Type}
theorem vF{l:List α}(h:l≠[]):∃m x,l=m++[x]:=⟨l.dropLast,l.getLast h,(List.dropLast_concat_getLast h).symm⟩
theorem Gg(s:dD)(a b:List UInt8):Dv s (a++b)=(Dv s a).bind fun s=>Dv s b:=by
 induction a generalizing s with
 |nil=>rfl
 |cons t a ih=>
  simp only[List.cons_append,Dv];cases jm s t with
  |none=>rfl
  |some p=>simp only[Option.bind_some];exact ih _
theorem Sj(s:dD)(a b:List UInt8):cU s (a++b)=(cU s b).bind fun s=>cU s a:=by
 unfold cU;rw[List.reverse_append,Gg]
theorem gC(s:dD)(t:UInt8):cU s [t]=(jm s t).map Prod.fst:=by
 simp only[cU,List.reverse_cons,List.reverse_nil,List.nil_append,Dv];cases jm s t<;>rfl
theorem js(s:dD)(l:List UInt8)(t:UInt8):cU s (l++[t])=(jm s t).bind fun p=>cU p.1 l:=by
 rw[Sj,gC];cases jm s t<;>rfl
variable {s:dD}
theorem PM{i:Nat}{t:UInt8}(h:l[i]?=some t):cU s (l.take (i+1))=(jm s t).bind fun p=>cU p.1 (l.take i):=by
 rw[←bq h,js]
theorem pT(s:dD)(l:List UInt8):(bG s l).1.length=s.1.length+l.length:=by simp[bG]
theorem nU{p:dD×UInt8}(h:jm s w=some p):p.1.1.length≤s.1.length:=by
 unfold jm at h
 split at h
 · split at h
   · cases h;exact Nat.le_refl _
   · cases h
 · split at h
   · cases h;simp
   · cases h
theorem KV:∀(l:List UInt8) {s s':dD},Dv s l=some s'→s'.1.length≤s.1.length
 |[],s,s',h=>by cases h;exact Nat.le_refl _
 |t::l,s,s',h=>by
  simp only[Dv] at h;cases h1:jm s t with
  |none=>rw[h1] at h;cases h
  |some p=>rw[h1] at h;exact Nat.le_trans (KV l h) (nU h1)
theorem uy{s':dD}(h:cU s l=some s'):s'.1.length≤s.1.length:=KV _ h
variable {n:Int}
theorem Gh{L:List (List UInt8)}(h0:0≤n)(h:n<(L.length:Int)):∃w,jq L n=some w∧L[L.length-1-n.toNat]?=some w:=by
 have:L.length-1-n.toNat<L.length:=by omega
 exact⟨L[L.length-1-n.toNat],by unfold jq;rw[if_pos ⟨h,h0⟩];exact List.getElem?_eq_getElem this,List.getElem?_eq_getElem this⟩
theorem Cg{L:List (List UInt8)}(h:¬n<(L.length:Int)):jq L n=none:=by unfold jq;rw[if_neg (fun e=>h e.1)]
variable {L:List α}
theorem vG(h0:0≤n)(h:n<(L.length:Int)):∃w,eo L n=some w∧L[n.toNat]?=some w:=by
 have:n.toNat<L.length:=by omega
 exact⟨L[n.toNat],by unfold eo;rw[if_pos ⟨h,h0⟩];exact List.getElem?_eq_getElem this,List.getElem?_eq_getElem this⟩
theorem vH(h:¬n<(L.length:Int)):eo L n=none:=by unfold eo;rw[if_neg (fun e=>h e.1)]
theorem PN{w:α}(h:eo L n=some w):0≤n∧n<(L.length:Int)∧L[n.toNat]?=some w:=by
 unfold eo at h
 split at h
 · rename_i hc;exact⟨hc.2,hc.1,h⟩
 · cases h
def Be(res:List UInt8)(s:dD):Prop:=∃s',cU s res=some s'∧s'.1=[]
theorem Jf{x:UInt8}:(((x.toNat:Int)=(w.toNat:Int)∨(x.toNat:Int)=0)∨(w.toNat:Int)=0)↔(x=w∨x=0∨w=0):=by
 rw[zL,oJ,oJ,or_assoc]
theorem yN(a b:List α):a<+:a++b:=List.prefix_append a b
theorem KW(h:0≤n):IntKind.u8.wrap n=((UInt8.ofNat n.toNat).toNat:Int):=by
 unfold IntKind.wrap;simp[IntKind.signed,IntKind.bits];omega
theorem w9:af (aa (.bool false)) (ak False):=fun S w v h=>⟨false,h,by simp⟩
structure Al(m:aT)(f:cN):Prop where
 fits:dM m
 lo:(cH m f).aW.length≤60000
 own:cF m f.gX∈m.bQ
structure Am(x:ay):Prop where
 A0:0≤x.A
 yq:x.A<18446744073709551616
 B0:0≤x.B
 B64:x.B<18446744073709551616
 L0:∀n∈x.L,0≤n
 Ln:x.L.length≤60000
structure mW(x:ay):Prop extends Am x where
 A16:x.Code=16→x.A≤4294967295
 a0:0≤x.dm
 a31:x.dm≤31
variable {m:aT}
theorem dM.tG(h:dM m):∀g∈m.bQ,g.P.length≤20∧g.R.length≤20:=fun g hg=>by
 have h1:=fA.1 (bM.1 h.sigs).2 g hg;have h2:C7 g:=Classical.not_not.1 ((cM (by decide)).1 h1);exact⟨h2.1.1,h2.2.1⟩
theorem dM.lens(h:dM m):m.bQ.length≤50∧m.aJ.length≤20∧m.bz.length≤4∧m.an.length≤50∧cO m≤100:=by
 have h1:=(bM.1 h.sigs).1;have h2:=(bM.1 h.imports).1;have h3:=(bM.1 h.ei).1;have h4:=(bM.1 h.globals).1;have h5:=h.funcs;unfold lg at h5
 split at h5
 · cases h5
 · exact⟨by omega,by omega,by omega,by omega,by omega⟩
theorem kr(h:gA n m.bQ.length):m.bQ[n.toNat]?=some (cF m n)∧cF m n∈m.bQ:=by
 obtain⟨h1,h2⟩:=h.at;have:m.bQ[n.toNat]?=some (cF m n):=by unfold cF;rw[List.getElem?_eq_getElem h1];rfl
 exact⟨this,List.mem_of_getElem? this⟩
theorem Gi{s:kY}(h:m.bQ[n.toNat]?=some s):cF m n=s:=by unfold cF;rw[h];rfl
theorem td{f:cN}(h:dM m):eo (cH m f).aA n=ja m n:=by
 have h1:∀z∈m.aJ,gB m z=0:=fA.1 (bM.1 h.imports).2;have h2:∀z∈m.aA,rZ m z=0:=qz h.funcs;have hlen:(cH m f).aA.length=m.aJ.length+m.aA.length:=by simp[cH]
 by_cases hc:gA n (cO m)
 · obtain⟨s,hs⟩:=wQ hc h1 h2
   rw[hs];have Uh:=hc;unfold gA cO at Uh;unfold eo;rw[if_pos (by rw[hlen];omega)];by_cases hl:n<(m.aJ.length:Int)
   · obtain⟨x,hx,hx2,_,_⟩:=zM hs hl
     show(m.aJ.map (fun i=>cF m i.gX)++m.aA.map (fun g=>cF m g.gX))[n.toNat]?=some s
     rw[List.getElem?_append_left (by simp;omega),List.getElem?_map,hx];exact congrArg some (Gi hx2)
   · obtain⟨x,hx,hx2,_,_,_⟩:=Fg hs hl
     show(m.aJ.map (fun i=>cF m i.gX)++m.aA.map (fun g=>cF m g.gX))[n.toNat]?=some s
     rw[List.getElem?_append_right (by simp;omega),List.getElem?_map,List.length_map];rw[show n.toNat-m.aJ.length=(n-(m.aJ.length:Int)).toNat by omega,hx];exact congrArg some (Gi hx2)
 · have hno:¬(ja m n).isSome=true:=fun e=>hc ((KJ h1 h2).1 e)
   have:ja m n=none:=by simpa using hno
   rw[this];unfold eo;rw[if_neg (by rw[hlen];unfold gA cO at hc;omega)]
theorem bY{β:Type}{g:α→β}:eo (L.map g) n=(eo L n).map g:=by
 unfold eo;rw[List.length_map]
 split
 · rw[List.getElem?_map]
 · rfl
theorem gR(fs:List eX)(b:eX)(s:dD):(jT fs++[mC (di fs).length b s]).map Bd=(fs++[b]).map sw:=by
 rw[List.map_append,List.map_append,Gf];rfl
def MH(fs:List eX)(st:List UInt8)(B:List N0):Prop:=B=jT fs∧(fs≠[]→st=di fs)
theorem PO(fs:List eX)(b:eX)(s:dD):MH (fs++[{b with st:=s}]) (di fs++s.1) (jT fs++[mC (di fs).length b s]):=
 ⟨by rw[l5];rfl,fun _=>by rw[iK]⟩
theorem MI(s:dD):bG s []=s:=by simp[bG]
theorem oK(s:dD)(i:List UInt8):pS s i []=cU s i:=by
 unfold pS;cases cU s i<;>simp[MI]
section
variable {v:nS} {x:ay} {s:dD} {labs:List (List UInt8)}
theorem TT(h:x.Code=0):iy v x s labs=some eZ:=by unfold iy;rw[if_pos h]
theorem xb(h:x.Code=12):iy v x s labs=(jq labs x.A).bind fun w=>(cU s w).map fun _=>eZ:=by unfold iy;rw[if_neg (by omega),if_pos h]
theorem sB(h:x.Code=13):iy v x s labs=(jq labs x.A).bind fun w=>pS s (w++[127]) w:=by unfold iy;rw[if_neg (by omega),if_neg (by omega),if_pos h]
open Classical in
theorem mS(h:x.Code=14):iy v x s labs=(jq labs x.A).bind fun w=>if ∀n∈x.L,jq labs n=some w then(cU s (w++[127])).map fun _=>eZ else none:=by unfold iy;rw[if_neg (by omega),if_neg (by omega),if_neg (by omega),if_pos h]
theorem Dz (h : x.Code = 15) : iy v x s labs = (cU s v.de.R).map fun _ => eZ := by            unfold iy;iterate 4 rw[if_neg (by omega)]
                                                                                              rw[if_pos h]
theorem An(h:x.Code=16):iy v x s labs=(eo v.aA x.A).bind fun g=>pS s g.P g.R:=by
 unfold iy;iterate 5 rw[if_neg (by omega)]
 rw[if_pos h]
open Classical in
theorem xe(h:x.Code=17):iy v x s labs=(eo v.bQ x.A).bind fun g=>if x.B=0∧v.Table then pS s (g.P++[127]) g.R else none:=by
 unfold iy;iterate 6 rw[if_neg (by omega)]
 rw[if_pos h]
theorem Jg(h:x.Code=26):iy v x s labs=(jm s 0).map Prod.fst:=by
 unfold iy;iterate 7 rw[if_neg (by omega)]
 rw[if_pos h]
theorem uz(h:x.Code=27):iy v x s labs=(cU s [127]).bind fun s=>(jm s 0).bind fun p=>(jm p.1 p.2).map fun p=>bG p.1 [p.2]:=by
 unfold iy;iterate 8 rw[if_neg (by omega)]
 rw[if_pos h]
theorem DA(h:x.Code=32):iy v x s labs=(eo v.aW x.A).map fun t=>bG s [t]:=by
 unfold iy;iterate 9 rw[if_neg (by omega)]
 rw[if_pos h]
theorem Ao(h:x.Code=33):iy v x s labs=(eo v.aW x.A).bind fun t=>cU s [t]:=by
 unfold iy;iterate 10 rw[if_neg (by omega)]
 rw[if_pos h]
theorem Ap(h:x.Code=34):iy v x s labs=(eo v.aW x.A).bind fun t=>pS s [t] [t]:=by
 unfold iy;iterate 11 rw[if_neg (by omega)]
 rw[if_pos h]
theorem DB(h:x.Code=35):iy v x s labs=(eo v.an x.A).map fun t=>bG s [t]:=by
 unfold iy;iterate 12 rw[if_neg (by omega)]
 rw[if_pos h]
open Classical in
theorem uA(h:x.Code=36):iy v x s labs=(eo v.an x.A).bind fun t=>(eo v.eO x.A).bind fun m=>if m then cU s [t] else none:=by
 unfold iy;iterate 13 rw[if_neg (by omega)]
 rw[if_pos h]
def ep(c:Int):Prop:=32≤c∧c≤36
def cL(c:Int):Prop:=c=16∨c=17∨c=26∨c=27
def fP(c:Int):Prop:=c=0∨c=2∨c=3∨c=4∨c=5∨c=11∨c=12∨c=13∨c=14∨c=15
theorem Aq(h1:¬fP x.Code)(h2:¬ep x.Code)(h3:¬cL x.Code)(hf:aV x.Code<8∨10<aV x.Code):iy v x s labs=pS s (aO x.Code).1 (aO x.Code).2:=by
 unfold fP at h1;unfold ep at h2;unfold cL at h3
 unfold iy;iterate 14 rw[if_neg (by omega)]
 rw[if_pos hf]
theorem gD(h1:¬fP x.Code)(h2:¬ep x.Code)(h3:¬cL x.Code)(hf:¬(aV x.Code<8∨10<aV x.Code)):iy v x s labs=rA v x s:=by
 unfold fP at h1;unfold ep at h2;unfold cL at h3
 unfold iy;iterate 14 rw[if_neg (by omega)]
 rw[if_neg hf]
open Classical in
theorem qH(hf:aV x.Code=8):rA v x s=(eo v.bO x.A).bind fun wa=>if (¬wa∧4294967295<x.B)∨iq x.Code<2^x.dm.toNat then none else pS s (bV wa::(aO x.Code).1.tail) (aO x.Code).2:=by
 unfold rA;refine Option.bind_congr fun wa _=>?_;rw[if_neg (by omega),Option.bind_some,if_pos hf]
theorem PR{c:Int}(h:aV c=9):c=63∨c=64∨c=64523:=by
 unfold aV at h
 repeat' split at h
 all_goals omega
theorem KX{c:Int}(h:aV c=10):c=64522:=by
 unfold aV at h
 repeat' split at h
 all_goals omega
theorem yO(h:x.Code=63):rA v x s=(eo v.bO x.A).bind fun wa=>some (bG s [bV wa]):=by
 unfold rA;have hf:aV x.Code=9:=by rw[h];decide
 refine Option.bind_congr fun wa _=>?_;rw[if_neg (by omega),Option.bind_some,if_neg (by omega),if_pos h,h];rfl
theorem vI(h:x.Code=64):rA v x s=(eo v.bO x.A).bind fun wa=>pS s [bV wa] [bV wa]:=by
 unfold rA;have hf:aV x.Code=9:=by rw[h];decide
 refine Option.bind_congr fun wa _=>?_;rw[if_neg (by omega),Option.bind_some,if_neg (by omega),if_neg (by omega),if_pos h]
theorem pU(h:x.Code=64523):rA v x s=(eo v.bO x.A).bind fun wa=>cU s [bV wa,127,bV wa]:=by
 unfold rA;have hf:aV x.Code=9:=by rw[h];decide
 refine Option.bind_congr fun wa _=>?_;rw[if_neg (by omega),Option.bind_some,if_neg (by omega),if_neg (by omega),if_neg (by omega),if_pos h,h];exact oK _ _
theorem nr(h:x.Code=64522):rA v x s=(eo v.bO x.A).bind fun wa=>(eo v.bO x.B).bind fun wb=>cU s [bV wa,bV wb,bV (wa∧wb)]:=by
 unfold rA;have hf:aV x.Code=10:=by rw[h];decide
 refine Option.bind_congr fun wa _=>?_;rw[if_pos hf];refine Option.bind_congr fun wb _=>?_;rw[if_neg (by omega),if_neg (by omega),if_neg (by omega),if_neg (by omega),h];exact oK _ _
end
theorem mD{w:Prop}:((bV w).toNat:Int)=126↔w:=by
 unfold bV;split<;>simp_all
noncomputable abbrev jt(m:aT)(f:cN)(x:ay)(fs:List eX)(b:eX):Option (List eX):=dU (·.Code) eL (iy (cH m f)) x fs b
section
variable {m:aT} {f:cN} {x:ay} {fs:List eX} {b:eX}
theorem Ar(h11:x.Code≠11)(h5:x.Code≠5)(ho:¬aQ x.Code):jt m f x fs b=(iy (cH m f) x b.st ((fs++[b]).map sw)).map fun s=>fs++[{b with st:=s}]:=by
 unfold jt dU;rw[if_neg h11,if_neg h5,if_neg ho]
open Classical in
theorem uB(ho:aQ x.Code):jt m f x fs b=(if x.Code=4 then cU b.st [127] else some b.st).map fun s=>fs++[{b with st:=s}]++[⟨x.Code=3,x.Code=4,eL x,([],False)⟩]:=by
 have ho':=ho;unfold aQ at ho';have e1:¬x.Code=11:=by omega
 have e2:¬x.Code=5:=by omega
 unfold jt dU;rw[if_neg e1,if_neg e2,if_pos ho]
theorem Jh(h:x.Code=5)(hc:Be b.res b.st):jt m f x fs b=some (fs++[{b with is:=False,st:=([],False)}]):=by
 have e1:¬x.Code=11:=by omega
 unfold jt dU;rw[if_neg e1,if_pos h,if_pos (show o5 b from hc)]
theorem Bf(h:x.Code=5)(hc:¬Be b.res b.st):jt m f x fs b=none:=by
 have e1:¬x.Code=11:=by omega
 unfold jt dU;rw[if_neg e1,if_pos h,if_neg (show ¬o5 b from hc)]
theorem MJ(h:x.Code=11)(hc:Be b.res b.st∧(b.is→b.res=[])):jt m f x fs b=some (match fs.getLast? with|none=>[]|some t=>fs.dropLast++[{t with st:=bG t.st b.res}]):=by
 unfold jt dU;rw[if_pos h,if_pos (show o5 b∧(b.is→b.res=[]) from hc)];try rfl
theorem DC(h:x.Code=11)(hc:¬(Be b.res b.st∧(b.is→b.res=[]))):jt m f x fs b=none:=by
 unfold jt dU;rw[if_pos h,if_neg (show ¬(o5 b∧(b.is→b.res=[])) from hc)]
theorem PS(fs:List eX)(r:List UInt8):MH (match fs.getLast? with|none=>[]|some t=>fs.dropLast++[{t with st:=bG t.st r}]) (di fs++r) (jT fs):=by
 rcases List.eq_nil_or_concat fs with rfl|⟨gs,t,rfl⟩
 · exact⟨rfl,fun h=>absurd rfl h⟩
 · simp only[List.concat_eq_append,List.getLast?_append,List.getLast?_singleton,Option.some_or,List.dropLast_concat]
   refine⟨?_,fun _=>?_⟩
   · rw[l5,l5];first|done|rfl
   · rw[iK,iK];first|done|simp[bG,List.append_assoc]
theorem Ch(fs:List eX)(b:eX)(s:dD)(x:ay):MH (fs++[{b with st:=s}]++[⟨x.Code=3,x.Code=4,eL x,([],False)⟩]) (di fs++s.1) ((jT fs++[mC (di fs).length b s])++[mC (di fs++s.1).length ⟨x.Code=3,x.Code=4,eL x,([],False)⟩ ([],False)]):=
 ⟨by rw[l5,l5,iK];rfl,fun _=>by rw[iK,iK];simp⟩
theorem MK(fs:List eX)(b:eX):MH (fs++[{b with is:=False,st:=([],False)}]) (di fs) (jT fs++[mC (di fs).length ⟨b.loop,False,b.res,([],False)⟩ ([],False)]):=
 ⟨by rw[l5],fun _=>by rw[iK];simp⟩
end
end Go.Hl
end
section
namespace Go.Hl
variable {s:dD} {s':dD}
theorem l9{i o:List UInt8}(h:pS s i o=some s'):s'.1.length≤s.1.length+o.length:=by
 unfold pS at h;obtain⟨t,h1,rfl⟩:=Option.map_eq_some_iff.1 h;rw[pT];have:=uy h1;omega
theorem xg{w:List UInt8}(h:((cU s w).map fun _=>eZ)=some s'):s'.1.length≤s.1.length:=by
 obtain⟨t,h1,rfl⟩:=Option.map_eq_some_iff.1 h;simp[eZ]
theorem Ci{L:List (List UInt8)}{n:Int}{w:List UInt8}(h:jq L n=some w):w∈L:=by
 unfold jq at h
 split at h
 · exact List.mem_of_getElem? h
 · cases h
theorem Gj{α:Type}{L:List α}{n:Int}{w:α}(h:eo L n=some w):w∈L:=by
 unfold eo at h
 split at h
 · exact List.mem_of_getElem? h
 · cases h
variable {v:nS} {x:ay}
theorem ML(ht:(aO x.Code).2.length≤20)(h:rA v x s=some s'):s'.1.length≤s.1.length+20:=by
 unfold rA at h;obtain⟨wa,_,h⟩:=Option.bind_eq_some_iff.1 h;obtain⟨wb,_,h⟩:=Option.bind_eq_some_iff.1 h
 split at h
 · split at h
   · cases h
   · have:=l9 h;omega
 split at h
 · have:=l9 h;simp only[List.length_cons,List.length_nil] at this;omega
 split at h
 · have:=l9 h;simp only[List.length_cons,List.length_nil] at this;omega
 split at h
 · have:=l9 h;omega
 · have:=l9 h;omega
theorem PT{labs:List (List UInt8)}(hl:∀w∈labs,w.length≤20)(hF:∀g∈v.aA,g.R.length≤20)(hS:∀g∈v.bQ,g.R.length≤20)(ht:(aO x.Code).2.length≤20)
    (h:iy v x s labs=some s'):s'.1.length≤s.1.length+20:=by
  unfold iy at h;by_cases c0:x.Code=0
  · rw[if_pos c0] at h
    cases h;simp[eZ]
  rw[if_neg c0] at h;by_cases c1:x.Code=12
  · rw[if_pos c1] at h
    obtain⟨w,hw,h⟩:=Option.bind_eq_some_iff.1 h;have:=xg h;omega
  rw[if_neg c1] at h;by_cases c2:x.Code=13
  · rw[if_pos c2] at h
    obtain⟨w,hw,h⟩:=Option.bind_eq_some_iff.1 h;have:=l9 h;have:=hl w (Ci hw);omega
  rw[if_neg c2] at h;by_cases c3:x.Code=14
  · rw[if_pos c3] at h
    obtain⟨w,hw,h⟩:=Option.bind_eq_some_iff.1 h
    split at h
    · have:=xg h;omega
    · cases h
  rw[if_neg c3] at h;by_cases c4:x.Code=15
  · rw[if_pos c4] at h
    have:=xg h;omega
  rw[if_neg c4] at h;by_cases c5:x.Code=16
  · rw[if_pos c5] at h
    obtain⟨g,hg,h⟩:=Option.bind_eq_some_iff.1 h;have:=l9 h;have:=hF g (Gj hg);omega
  rw[if_neg c5] at h;by_cases c6:x.Code=17
  · rw[if_pos c6] at h
    obtain⟨g,hg,h⟩:=Option.bind_eq_some_iff.1 h
    split at h
    · have:=l9 h;have:=hS g (Gj hg);omega
    · cases h
  rw[if_neg c6] at h;by_cases c7:x.Code=26
  · rw[if_pos c7] at h
    obtain⟨p,h1,rfl⟩:=Option.map_eq_some_iff.1 h;have:=nU h1;omega
  rw[if_neg c7] at h;by_cases c8:x.Code=27
  · rw[if_pos c8] at h
    obtain⟨p,h1,h⟩:=Option.bind_eq_some_iff.1 h;obtain⟨q,h2,h⟩:=Option.bind_eq_some_iff.1 h;obtain⟨r,h3,rfl⟩:=Option.map_eq_some_iff.1 h;have:=uy h1;have:=nU h2;have:=nU h3
    rw[pT];simp only[List.length_cons,List.length_nil];omega
  rw[if_neg c8] at h;by_cases c9:x.Code=32
  · rw[if_pos c9] at h
    obtain⟨t,_,rfl⟩:=Option.map_eq_some_iff.1 h;rw[pT];simp only[List.length_cons,List.length_nil];omega
  rw[if_neg c9] at h;by_cases nV:x.Code=33
  · rw[if_pos nV] at h
    obtain⟨t,_,h⟩:=Option.bind_eq_some_iff.1 h;have:=uy h;omega
  rw[if_neg nV] at h;by_cases qI:x.Code=34
  · rw[if_pos qI] at h
    obtain⟨t,_,h⟩:=Option.bind_eq_some_iff.1 h;have:=l9 h;simp only[List.length_cons,List.length_nil] at this;omega
  rw[if_neg qI] at h;by_cases tg:x.Code=35
  · rw[if_pos tg] at h
    obtain⟨t,_,rfl⟩:=Option.map_eq_some_iff.1 h;rw[pT];simp only[List.length_cons,List.length_nil];omega
  rw[if_neg tg] at h;by_cases As:x.Code=36
  · rw[if_pos As] at h
    obtain⟨t,_,h⟩:=Option.bind_eq_some_iff.1 h;obtain⟨mu,_,h⟩:=Option.bind_eq_some_iff.1 h
    split at h
    · have:=uy h;omega
    · cases h
  rw[if_neg As] at h;by_cases uC:aV x.Code<8∨10<aV x.Code
  · rw[if_pos uC] at h
    have:=l9 h;omega
  · rw[if_neg uC] at h;exact ML ht h
def DD(fs:List eX):Prop:=∀k∈fs,k.res.length≤20
theorem Gk{fs:List eX}(h:DD fs):∀w∈fs.map sw,w.length≤20:=fun w hw=>by
 obtain⟨k,hk,rfl⟩:=List.mem_map.1 hw;unfold sw
 split
 · simp
 · exact h k hk
theorem Ji{fs fs':List eX}{b:eX}{rr:ay→List UInt8}(hr:(rr x).length≤20)(hb:DD (fs++[b]))(hF:∀g∈v.aA,g.R.length≤20)(hS:∀g∈v.bQ,g.R.length≤20)(ht:(aO x.Code).2.length≤20)
    (h:dU (·.Code) rr (iy v) x fs b=some fs'):DD fs'∧sx fs'≤sx (fs++[b])+20∧fs'.length≤fs.length+2:=by
  have wk:b.res.length≤20:=hb b (by simp);have NS:DD fs:=fun k hk=>hb k (by simp[hk]);rw[iJ];unfold dU at h
  split at h
  · split at h
    · simp only[Option.some.injEq] at h
      subst h;rcases List.eq_nil_or_concat fs with rfl|⟨gs,t,rfl⟩
      · exact⟨fun k hk=>by simp at hk,by simp[sx],by simp⟩
      · simp only[List.concat_eq_append,List.getLast?_append,List.getLast?_singleton,Option.some_or,List.dropLast_concat]
        refine⟨fun k hk=>?_,?_,by simp⟩
        · rcases List.mem_append.1 hk with hk|hk
          · exact NS k (by simp[hk])
          · simp only[List.mem_singleton] at hk;subst hk;exact NS t (by simp)
        · rw[iJ,iJ];simp only[pT];omega
    · cases h
  split at h
  · split at h
    · simp only[Option.some.injEq] at h
      subst h;refine⟨fun k hk=>?_,?_,by simp⟩
      · rcases List.mem_append.1 hk with hk|hk
        · exact NS k hk
        · simp only[List.mem_singleton] at hk;subst hk;exact wk
      · rw[iJ];simp only[List.length_nil];omega
    · cases h
  split at h
  · obtain⟨s,h1,rfl⟩:=Option.map_eq_some_iff.1 h
    have hs:s.1.length≤b.st.1.length:=by
      split at h1
      · exact uy h1
      · cases h1;exact Nat.le_refl _
    refine⟨fun k hk=>?_,?_,by simp⟩
    · rcases List.mem_append.1 hk with hk|hk
      · rcases List.mem_append.1 hk with hk|hk
        · exact NS k hk
        · simp only[List.mem_singleton] at hk;subst hk;exact wk
      · simp only[List.mem_singleton] at hk;subst hk;exact hr
    · rw[iJ,iJ];simp only[List.length_nil];omega
  · obtain⟨s,h1,rfl⟩:=Option.map_eq_some_iff.1 h
    have hs:=PT (Gk hb) hF hS ht h1;refine⟨fun k hk=>?_,?_,by simp⟩
    · rcases List.mem_append.1 hk with hk|hk
      · exact NS k hk
      · simp only[List.mem_singleton] at hk;subst hk;exact wk
    · rw[iJ];simp only;omega
end Go.Hl
end
section
namespace Go.Hl
open Go.RowKit
def mE(x:pR)(g:SB):List VP:=[ag .i64 x.Code,cZ x.Name,ag .i64 x.Form,aa (bt g x.vw.length),ai 1 aj x.tL]
instance (x:pR) (g:SB):bH (mE x g):=⟨fun q h=>by simp only[mE,List.mem_cons,List.not_mem_nil,or_false] at h;rcases h with h|h|h|h|h<;>subst h<;>infer_instance⟩
theorem KY{c:Int}(h:aV c=8):∃t tl,(aO c).1=t::tl:=by
 have hc:40≤c∧c≤62:=by
  unfold aV at h
  repeat' split at h
  all_goals first|omega|assumption
 unfold aO;rw[if_neg (by omega)];by_cases h1:c=40∨44≤c∧c≤47
 · rw[if_pos h1];exact⟨_,_,rfl⟩
 rw[if_neg h1];by_cases h2:c=41∨48≤c∧c≤53
 · rw[if_pos h2];exact⟨_,_,rfl⟩
 rw[if_neg h2];by_cases h3:(c=54∨c=58)∨c=59
 · rw[if_pos h3];exact⟨_,_,rfl⟩
 rw[if_neg h3,if_pos hc.2];exact⟨_,_,rfl⟩
theorem Sk{a:Int}(h:a<8):IntKind.i64.wrap (1*2^a.toNat)=2^a.toNat:=by
 have:a.toNat=0∨a.toNat=1∨a.toNat=2∨a.toNat=3∨a.toNat=4∨a.toNat=5∨a.toNat=6∨a.toNat=7:=by omega
 rcases this with h|h|h|h|h|h|h|h<;>rw[h]<;>decide
theorem Sl{a:Int}(h:¬a<8):(256:Int)≤2^a.toNat:=by
 have h8:8≤a.toNat:=by omega
 have h9:2^8≤2^a.toNat:=Nat.pow_le_pow_right (by decide) h8;have:((2^a.toNat:Nat):Int)=2^a.toNat:=by simp
 omega
theorem MM(c:Int):iq c≤8:=by unfold iq;repeat (first|split|omega)
variable {x:ay}
theorem Au:(x.dm<8∧2^x.dm.toNat≤(lZ x.Code).getD 0)↔¬iq x.Code<2^x.dm.toNat:=by
 rw[(ME x.Code).1];constructor
 · rintro⟨h1,h2⟩;omega
 · intro h
   refine⟨Classical.byContradiction fun h8=>?_,by omega⟩;have:=Sl h8;have:=MM x.Code;omega
abbrev TU:=SB×SB×List UInt8×List N0
abbrev ckZ(cb:Nat)(m:aT)(f:cN)(z:TU):List HP:=PL cb m f z.1 z.2.1 z.2.2.1 z.2.2.2
def KZ(m:aT)(f:cN)(x:ay)(fs:List eX)(b:eX)(z:TU):Prop:=∃fs',jt m f x fs b=some fs'∧MH fs' z.2.2.1 z.2.2.2
variable {fs:List eX}
theorem iL{m:aT}{f:cN}{b:eX}{gs gb:SB}{s:dD}(h11:x.Code≠11)(h5:x.Code≠5)(ho:¬aQ x.Code)(h:iy (cH m f) x b.st ((fs++[b]).map sw)=some s):
    KZ m f x fs b (gs,gb,di fs++s.1,jT fs++[mC (di fs).length b s]):=⟨_,by rw[Ar h11 h5 ho,h];rfl,PO fs b s⟩
theorem ec{m:aT}{f:cN}{b:eX}(h11:x.Code≠11)(h5:x.Code≠5)(ho:¬aQ x.Code)(h:iy (cH m f) x b.st ((fs++[b]).map sw)=none):jt m f x fs b=none:=by rw[Ar h11 h5 ho,h];rfl
theorem Sm{n:Int}{w:List UInt8}(h:DD fs)(hw:jq (fs.map sw) n=some w):w.length≤20:=Gk h w (Ci hw)
end Go.Hl
end
section
namespace Go.Hl
def oL(x:ay):Prop:=x.dm=0∧x.L=[]
def mT(x:ay)(f:Int):Prop:=
 (f=0∧x.A=0∧x.B=0∧oL x)∨(f=1∧(x.A=64∨x.A=127∨x.A=126)∧x.B=0∧oL x)∨
 ((f=2∨f=4∨f=6∨f=7∨f=9)∧ux x.A∧x.B=0∧oL x)∨
 (f=3∧ux x.A∧(∀n∈x.L,ux n)∧x.L.length≤100∧x.B=0∧x.dm=0)∨
 ((f=5∨f=10)∧ux x.A∧ux x.B∧oL x)∨(f=8∧ux x.A∧0≤x.dm∧x.dm≤31∧x.L=[])∨
 (f=11∧(x.Code=66∨ux x.A)∧x.B=0∧oL x)
theorem Gl{x:ay}(hA:0≤x.A)(hB:0≤x.B)(hf:0≤aV x.Code∧aV x.Code≤11)(h66:aV x.Code=11→x.Code=65∨x.Code=66)(MN:x.Code=65→aV x.Code=11):
    iP x↔jo x.Code≠[]∧mT x (aV x.Code):=by
  unfold iP mT oL;generalize aV x.Code=f at*;refine and_congr_right fun _=>?_;simp only[ux];have hL:x.L=[]→∀n∈x.L,n≤4294967295:=fun e n h=>by rw[e] at h;cases h
  obtain⟨h0,h1⟩:=hf;have hc:f=0∨f=1∨f=2∨f=3∨f=4∨f=5∨f=6∨f=7∨f=8∨f=9∨f=10∨f=11:=by omega
  generalize hQ:(∀n∈x.L,n≤4294967295)=Q at*;generalize hE:(x.L=[])=E at*;have hlen:E→x.L.length≤100:=fun h=>by rw[←hE] at h;simp[h]
  rcases hc with rfl|rfl|rfl|rfl|rfl|rfl|rfl|rfl|rfl|rfl|rfl|rfl<;>simp at MN h66 ⊢ <;>(by_cases e:E<;>by_cases q:Q<;>simp[e,q] at hL hlen ⊢)<;>omega
def bC(out:List (Nat×UInt8))(t:UInt8):List (Nat×UInt8):=
 match out.getLast? with
 |none=>[(1,t)]
 |some p=>if p.2=t then out.dropLast++[(p.1+1,t)] else out++[(1,t)]
theorem qJ(o:List (Nat×UInt8))(n:Nat)(t t':UInt8):bC (o++[(n,t)]) t'=o++bC [(n,t)] t':=by
 simp only[bC,List.getLast?_append,List.getLast?_singleton,Option.some_or]
 split<;>simp_all
theorem MO(l:List UInt8):∀(o:List (Nat×UInt8)) (n:Nat) (t:UInt8),l.foldl bC (o++[(n,t)])=o++l.foldl bC [(n,t)]:=by
 induction l with
 |nil=>intros;rfl
 |cons a l ih=>
  intro o n t;simp only[List.foldl_cons,qJ];by_cases h:t=a
  · subst h
    have e:bC [(n,t)] t=[(n+1,t)]:=by simp[bC]
    rw[e,ih]
  · have e:bC [(n,t)] a=[(n,t)]++[(1,a)]:=by simp[bC,h]
    rw[e,ih [(n,t)] 1 a,←List.append_assoc,ih (o++[(n,t)]) 1 a,List.append_assoc]
theorem Av(t:UInt8)(l:List UInt8):∃n r,gY (t::l)=(n+1)::r:=by
 simp only[gY]
 split
 · split
   · exact⟨_,_,rfl⟩
   · exact⟨0,_,rfl⟩
 · exact⟨0,[],rfl⟩
theorem PU(l:List UInt8):∀(n:Nat) (t:UInt8) (k:Nat) (r:List Nat),gY (t::l)=(k+1)::r→(l.foldl bC [(n,t)]).map Prod.fst=(n+k)::r:=by
 induction l with
 |nil=>intro n t k r h;simp[gY] at h;obtain⟨rfl,rfl⟩:=h;simp
 | cons a l ih=>
  intro n t k r h;obtain⟨n2,r2,e2⟩:=Av a l
  have h':gY (t::a::l)=if a=t then(n2+1+1)::r2 else 1::(n2+1)::r2:=by
   rw[gY];simp only[e2]
  rw[h'] at h;simp only[List.foldl_cons];by_cases e:a=t
  · subst e
    simp only[if_true,List.cons.injEq] at h;have e3:bC [(n,a)] a=[(n+1,a)]:=by simp[bC]
    rw[e3,ih (n+1) a n2 r2 e2];obtain⟨h1,rfl⟩:=h
    congr 1;omega
  · simp only[e,if_false,List.cons.injEq] at h
    have e3:bC [(n,t)] a=[(n,t)]++[(1,a)]:=by simp[bC,Ne.symm e]
    rw[e3,MO,List.map_append,ih 1 a n2 r2 e2];obtain⟨h1,rfl⟩:=h;simp;omega
theorem Sn(l:List UInt8):(l.foldl bC []).map Prod.fst=gY l:=by
 cases l with
 |nil=>rfl
 |cons t l=>
  obtain⟨n,r,e⟩:=Av t l;have:bC [] t=[(1,t)]:=rfl;rw[List.foldl_cons,this,PU l 1 t n r e,e];congr 1;omega
end Go.Hl
end
section
namespace Go.Hl
open Go.RowKit
theorem XE(n:Int)(h0:0≤n)(h1:n<2^8):IntKind.u8.wrap n=n:=eM (Kk h0 (by omega))
section
variable {P:Program} {hs:List HP} {env:Env} {q:VP} {dst:Option Tmp} {ty T T2 T' E:TypeId} {pos:String} {after:Array Edge} {gd:Option (Nat×Bool)} {x y z:Operand}
theorem Aw{a b:Nat}(ha:a<256)(hb:b<256)(hx:bx env x (ag .u8 (a:Int)))(hy:bx env y (ag .u8 (b:Int))):bp P hs env ⟨dst, .binOp .and T x y T',ty,pos,after,gd⟩ (ag .u8 ((a &&& b:Nat):Int)):=
 bp.aL fun ρ w S F _ he=>by
  have h1:=he.o _ _ hx;have h2:=he.o _ _ hy;simp only[aa] at h1 h2
  exact⟨.int .u8 ((a &&& b:Nat):Int),by simp[execOp,h1,h2,go_sem,(bits_nat .u8 8 (by decide) XE a b (by omega) (by omega)).1],rfl⟩
theorem K0{a b:Nat}(ha:a<256)(hb:b<256)(hx:bx env x (ag .u8 (a:Int)))(hy:bx env y (ag .u8 (b:Int))):bp P hs env ⟨dst, .binOp .or T x y T',ty,pos,after,gd⟩ (ag .u8 ((a|||b:Nat):Int)):=
 bp.aL fun ρ w S F _ he=>by
  have h1:=he.o _ _ hx;have h2:=he.o _ _ hy;simp only[aa] at h1 h2
  exact⟨.int .u8 ((a|||b:Nat):Int),by simp[execOp,h1,h2,go_sem,(bits_nat .u8 8 (by decide) XE a b (by omega) (by omega)).2],rfl⟩
theorem MP{n:Int}(h1: -9223372036854775808≤n)(h2:n≤9223372036854775807):bits .xor .i64 (-1) n= -n-1:=by
 have e:BitVec.ofInt 64 (-1)^^^BitVec.ofInt 64 n= ~~~ (BitVec.ofInt 64 n):=by rw[show BitVec.ofInt 64 (-1)=BitVec.allOnes 64 from by decide,BitVec.allOnes_xor]
 show IntKind.i64.wrap ((BitVec.ofInt 64 (-1)^^^BitVec.ofInt 64 n).toNat:Int)= -n-1
 rw[e,BitVec.toNat_not,BitVec.toNat_ofInt];unfold IntKind.wrap;simp only[IntKind.signed,IntKind.bits];simp;omega
theorem MQ{n:Int}(h1: -9223372036854775808≤n)(h2:n≤9223372036854775807)(hx:bx env x (ag .i64 n)):bp P hs env ⟨dst, .unOp .xor T x,ty,pos,after,gd⟩ (ag .i64 (-n-1)):=
 bp.aL fun ρ w S F _ he=>by
  have h3:=he.o _ _ hx;simp only[aa] at h3
  exact⟨.int .i64 (-n-1),by simp[execOp,h3,go_sem,MP h1 h2,show IntKind.i64.signed=true from rfl],rfl⟩
end
theorem oM(n:Int):IntKind.u8.wrap n=((n%256).toNat:Int):=by
 unfold IntKind.wrap;simp[IntKind.signed,IntKind.bits];omega
theorem Gm(k:Nat):k &&& 127<256:=Nat.lt_of_le_of_lt Nat.and_le_right (by decide)
theorem PV{k:Nat}(h:k<256):k|||128<256:=Nat.or_lt_two_pow (n:=8) h (by decide)
theorem oN{k:Nat}(h:k<256):af (ag .u8 (k:Int)) (ag .u8 ((UInt8.ofNat k).toNat:Int)):=af.int (by simp;omega)
theorem Sp(a:Nat):yp a=NZ a:=rfl
theorem Sq(n:Int):lC n=(yp (if n<0 then(-n-1).toNat else n.toNat)+7)/7:=MF n.natAbs n (Nat.le_refl _)
theorem XF{a:Nat}(h:a<18446744073709551616):yp a≤64:=by rw[Sp];exact Je (k:=64) h
def tM(x:ay):Int:=(eR x.Code).elim (-1) (·.Form)
theorem Ax{x:ay}(h:eR x.Code=none):tM x= -1∧jo x.Code=[]:=by unfold tM;rw[h];exact⟨rfl,qF h⟩
theorem Ay{x:ay}{i:pR}(h:eR x.Code=some i):tM x=aV x.Code∧jo x.Code≠[]:=by
 unfold tM;rw[h];have:=nh h;exact⟨this.2.2.2.1,this.2.2.1⟩
theorem uD(c:Int):0≤aV c∧aV c≤11:=by unfold aV;repeat (first|split|omega)
theorem K1{c:Int}(h:aV c=11):c=65∨c=66:=by
 unfold aV at h
 repeat' split at h
 all_goals omega
theorem PW{x:ay}(hA:0≤x.A)(hB:0≤x.B):iP x↔mT x (tM x):=by
 rw[Gl hA hB (uD _) (fun h=>K1 h) (fun h=>by rw[h];decide)];cases hf:eR x.Code with
 |none=>
  obtain⟨h1,h2⟩:=Ax hf;rw[h1,h2];constructor
  · rintro⟨h,_⟩;exact absurd rfl h
  · intro h;unfold mT at h;omega
 |some i=>
  obtain⟨h1,h2⟩:=Ay hf;rw[h1];exact⟨fun h=>h.2,fun h=>⟨h2,h⟩⟩
theorem Jj{x:ay}(hA:0≤x.A)(hB:0≤x.B)(h:iP x):tM x=aV x.Code∧jo x.Code≠[]:=by
 cases hf:eR x.Code with
 |none=>exact absurd (Ax hf).2 h.1
 |some i=>exact Ay hf
theorem yP{c:Int}(h:jo c≠[]):0≤c∧c≤196∨64522≤c∧c≤64523:=by
 by_cases h2:c<0∨196<c∧c<64522∨64523<c
 · exact absurd (qF (Gc h2)) h
 · omega
end Go.Hl
namespace Go.Hl
def sC(l:List Int):Nat:=(l.map bJ).sum
theorem Cj(l:List Int)(n:Int):sC (l++[n])=sC l+bJ n:=by simp[sC]
theorem qK:∀(l:List Int),(∀n∈l,0≤n∧n<18446744073709551616)→sC l≤10*l.length
 |[],_=>by simp[sC]
 |n::l,h=>by
  have h1:=qK l (fun m hm=>h m (List.mem_cons_of_mem _ hm));have h2:=h n (List.mem_cons_self ..);have h3:bJ n≤10:=dI (by omega);simp only[sC,List.map_cons,List.sum_cons,List.length_cons] at h1 ⊢;omega
def oO(x:ay):Nat:=if 64512≤x.Code then 1+bJ (x.Code-64512) else 1
def ku(x:ay):Int:=if x.Code=65 then(if x.A<2147483648 then x.A else x.A-4294967296) else(if x.A<9223372036854775808 then x.A else x.A-18446744073709551616)
def Jk(x:ay):Nat:=(if x.A=0 then bJ x.dm else bJ (x.dm+64)+bJ x.A)+bJ x.B
theorem ir(x:ay):nT x=oO x+(if aV x.Code=1 then 1
   else if aV x.Code=2∨aV x.Code=4∨aV x.Code=6∨aV x.Code=7∨aV x.Code=9 then bJ x.A
   else if aV x.Code=3 then fO x.L.length+sC x.L+bJ x.A
   else if aV x.Code=5∨aV x.Code=10 then bJ x.A+bJ x.B
   else if aV x.Code=8 then Jk x
   else if aV x.Code=11 then lC (ku x) else 0):=rfl
theorem K2{a:Int}(h0:0≤a)(h1:a<18446744073709551616):IntKind.i64.wrap a=if a<9223372036854775808 then a else a-18446744073709551616:=by
 by_cases h:a<9223372036854775808
 · rw[if_pos h];unfold IntKind.wrap;simp only[IntKind.signed,IntKind.bits];simp;omega
 · rw[if_neg h];unfold IntKind.wrap;simp only[IntKind.signed,IntKind.bits];simp;omega
theorem Sr{a:Int}(h0:0≤a)(h1:a≤4294967295):IntKind.i32.wrap a=if a<2147483648 then a else a-4294967296:=by
 by_cases h:a<2147483648
 · rw[if_pos h];unfold IntKind.wrap;simp only[IntKind.signed,IntKind.bits];simp;omega
 · rw[if_neg h];unfold IntKind.wrap;simp only[IntKind.signed,IntKind.bits];simp;omega
end Go.Hl
end
section
namespace Go.Hl
open Go.RowKit
abbrev rD:=Int×Int×Int
def gV(s:rD):List VP:=[ag .i64 s.1,ag .i64 s.2.1,ag .i64 s.2.2]
instance:gZ 3 gV:=⟨fun _=>rfl,fun x q h=>by simp only[gV,List.mem_cons,List.not_mem_nil,or_false] at h;rcases h with h|h|h<;>rw[h]<;>infer_instance⟩
instance (x:rD):bH (gV x):=bH.of x
def iY(n:Nat):List VP:=[ag .i64 (n:Int)]
instance:gZ 1 iY:=⟨fun _=>rfl,fun x q h=>by simp only[iY,List.mem_cons,List.not_mem_nil,or_false] at h;rw[h];infer_instance⟩
instance (x:Nat):bH (iY x):=bH.of x
def qL(r:Nat×UInt8):List VP:=[ag .i64 (r.1:Int),ag .u8 (r.2.toNat:Int)]
instance:gZ 2 qL:=⟨fun _=>rfl,fun x q h=>by simp only[qL,List.mem_cons,List.not_mem_nil,or_false] at h;rcases h with h|h<;>rw[h]<;>infer_instance⟩
instance (x:Nat×UInt8):bH (qL x):=bH.of x
structure PX where
 gp:SB
 go:SB
 sp:List rD
 op:List Nat
 cl:Prop
 dp:Int
abbrev En(nb:Nat)(l:List ay)(z:PX):List HP:=[ax nb [ai 5 aK l,aa (bt z.gp z.sp.length),aa (bt z.go z.op.length),ak z.cl,ag .i64 z.dp],av z.gp 3 gV z.sp,av z.go 1 iY z.op]
def Gn(l:List ay)(sp:List rD)(p:Nat)(ce:Int×Bool):Prop:=∃(i:Nat) (el en:Int) (x:ay),sp[p]?=some ((i:Int),el,en)∧l[i]?=some x∧x.Code=ce.1∧(ce.2=true↔el≠ -1)
structure iD(l:List ay)(sp:List rD)(op:List Nat)(rs:List (Int×Bool)):Prop where
 len:op.length=rs.length
 inc:op.Pairwise (· < ·)
 rel:∀(k p:Nat) (ce:Int×Bool),op[k]?=some p→rs[k]?=some ce→Gn l sp p ce
theorem iD.nil(l:List ay)(sp:List rD):iD l sp [] []:=⟨rfl,List.Pairwise.nil,fun k p ce h=>by simp at h⟩
theorem iD.at_{l:List ay}{sp:List rD}{op:List Nat}{rs:List (Int×Bool)}(h:iD l sp op rs){p:Nat}(hp:p∈op):∃ce,Gn l sp p ce:=by
 obtain⟨k,hk⟩:=List.mem_iff_getElem?.1 hp;have hl:k<rs.length:=by have:=(List.getElem?_eq_some_iff.1 hk).1;rw[h.len] at this;exact this
 exact⟨_,h.rel k p _ hk (List.getElem?_eq_getElem hl)⟩
theorem Gn.lt{l:List ay}{sp:List rD}{p:Nat}{ce:Int×Bool}(h:Gn l sp p ce):p<sp.length:=by
 obtain⟨_,_,_,_,h1,_⟩:=h;exact(List.getElem?_eq_some_iff.1 h1).1
theorem iD.begin{l:List ay}{sp:List rD}{op:List Nat}{rs:List (Int×Bool)}(h:iD l sp op rs){i:Nat}{x:ay}(hx:l[i]?=some x):iD l (sp++[((i:Int),-1,-1)]) (op++[sp.length]) (rs++[(x.Code,false)]):=by
 refine⟨by simp[h.len],?_,fun k p ce hk hr=>?_⟩
 · rw[List.pairwise_append]
   refine⟨h.inc,List.pairwise_singleton _ _,fun a ha b hb=>?_⟩;simp only[List.mem_singleton] at hb;subst hb
   obtain⟨ce,hce⟩:=h.at_ ha;exact hce.lt
 · by_cases HJ:k<op.length
   · rw[List.getElem?_append_left HJ] at hk
     rw[List.getElem?_append_left (by rw[←h.len];exact HJ)] at hr;obtain⟨j,el,en,y,h1,h2,h3,h4⟩:=h.rel k p ce hk hr;exact⟨j,el,en,y,by rw[List.getElem?_append_left (List.getElem?_eq_some_iff.1 h1).1];exact h1,h2,h3,h4⟩
   · rw[List.getElem?_append_right (by omega)] at hk
     rw[List.getElem?_append_right (by rw[←h.len];omega)] at hr
     have N1:k-op.length=0:=by
      have:=(List.getElem?_eq_some_iff.1 hk).1;simp at this;omega
     rw[N1] at hk;rw[←h.len,N1] at hr;simp at hk hr;subst hk;subst hr
     exact⟨i,-1,-1,x,by simp,hx,rfl,by simp⟩
theorem DE{α:Type}{o:List α}{p:α}:(o++[p])[o.length]?=some p:=by simp
theorem iD.top{l:List ay}{sp:List rD}{o:List Nat}{p:Nat}{rs:List (Int×Bool)}{ce:Int×Bool}(h:iD l sp (o++[p]) (rs++[ce])):Gn l sp p ce:=by
 have hl:o.length=rs.length:=by have:=h.len;simp at this;exact this
 exact h.rel o.length p ce DE (by rw[hl];exact DE)
theorem iD.U6{l:List ay}{sp:List rD}{o:List Nat}{p:Nat}{rs:List (Int×Bool)}(h:iD l sp (o++[p]) rs):p∉o:=fun hp=>by
 have:=(List.pairwise_append.1 h.inc).2.2 p hp p (by simp);omega
theorem Gn.set{l:List ay}{sp:List rD}{p q:Nat}{s:rD}{ce:Int×Bool}(h:Gn l sp q ce)(hne:q≠p):Gn l (sp.set p s) q ce:=by
 obtain⟨j,el,en,y,h1,h2⟩:=h;exact⟨j,el,en,y,by rw[List.getElem?_set_ne (by omega)];exact h1,h2⟩
theorem iD.pop{l:List ay}{sp:List rD}{o:List Nat}{p:Nat}{rs:List (Int×Bool)}{ce:Int×Bool}(h:iD l sp (o++[p]) (rs++[ce]))(s:rD):iD l (sp.set p s) o rs:=by
 have hl:o.length=rs.length:=by have:=h.len;simp at this;exact this
 refine⟨hl,(List.pairwise_append.1 h.inc).1,fun k q c hk hr=>?_⟩;have hq:q∈o:=List.mem_of_getElem? hk;refine(h.rel k q c ?_ ?_).set (fun e=>h.U6 (e▸hq))
 · rw[List.getElem?_append_left (List.getElem?_eq_some_iff.1 hk).1];exact hk
 · rw[List.getElem?_append_left (List.getElem?_eq_some_iff.1 hr).1];exact hr
theorem iD.other{l:List ay}{sp:List rD}{o:List Nat}{p:Nat}{rs:List (Int×Bool)}{c:Int}{e:Bool}(h:iD l sp (o++[p]) (rs++[(c,e)])){i:Nat}{el en:Int}{x:ay}(hs:sp[p]?=some ((i:Int),el,en))(hx:l[i]?=some x)(hc:x.Code=c){j:Nat}:
    iD l (sp.set p ((i:Int),(j:Int),en)) (o++[p]) (rs++[(c,true)]):=by
  have hl:o.length=rs.length:=by have:=h.len;simp at this;exact this
  have ap9:=h.pop ((i:Int),(j:Int),en);refine⟨by simp[hl],h.inc,fun k q ce hk hr=>?_⟩;by_cases HJ:k<o.length
  · rw[List.getElem?_append_left HJ] at hk
    rw[List.getElem?_append_left (by omega)] at hr;exact ap9.rel k q ce hk hr
  · rw[List.getElem?_append_right (by omega)] at hk
    rw[List.getElem?_append_right (by omega)] at hr
    have N1:k-o.length=0:=by
      have:=(List.getElem?_eq_some_iff.1 hk).1;simp at this;omega
    rw[N1] at hk;rw[←hl,N1] at hr;simp at hk hr;subst hk;subst hr
    exact⟨i,j,en,x,by rw[List.getElem?_set_self (List.getElem?_eq_some_iff.1 hs).1],hx,hc,by simp⟩
def fz(cl:Prop)(rs:List (Int×Bool))(r:List Int):Prop:=(cl∧r=[])∨(¬cl∧fB r rs.reverse)
theorem Jl{rs:List (Int×Bool)}{c:Int}{r:List Int}(h:aQ c)(hl:rs.length≠64)(hb:rs.length≤64):fz False rs (c::r)↔fz False (rs++[(c,false)]) r:=by
 simp only[fz,false_and,not_false_eq_true,true_and,false_or,List.reverse_append,List.reverse_cons,List.reverse_nil,List.nil_append,List.singleton_append];rw[iI,if_pos h];simp only[List.length_reverse];exact⟨fun h=>h.2,fun h=>⟨by omega,h⟩⟩
theorem Jm{rs:List (Int×Bool)}{c:Int}{r:List Int}(h:aQ c)(hl:rs.length=64):¬fz False rs (c::r):=by
 simp only[fz,false_and,not_false_eq_true,true_and,false_or];rw[iI,if_pos h];simp only[List.length_reverse];omega
theorem Bg{r:List Int}:¬fz False [] (5::r):=by
 simp only[fz,false_and,not_false_eq_true,true_and,false_or,List.reverse_nil];rw[iI];simp[aQ]
theorem Az{rs:List (Int×Bool)}{b:Int}{e:Bool}{r:List Int}:fz False (rs++[(b,e)]) (5::r)↔(b=4∧e=false)∧fz False (rs++[(b,true)]) r:=by
 simp only[fz,false_and,not_false_eq_true,true_and,false_or,List.reverse_append,List.reverse_cons,List.reverse_nil,List.nil_append,List.singleton_append];rw[iI];simp[aQ]
theorem AA{r:List Int}:fz False [] (11::r)↔fz True [] r:=by
 simp only[fz,false_and,not_false_eq_true,true_and,false_or,not_true_eq_false,or_false,List.reverse_nil];rw[iI];simp[aQ]
theorem MR{rs:List (Int×Bool)}{ce:Int×Bool}{r:List Int}:fz False (rs++[ce]) (11::r)↔fz False rs r:=by
 simp only[fz,false_and,not_false_eq_true,true_and,false_or,List.reverse_append,List.reverse_cons,List.reverse_nil,List.nil_append,List.singleton_append];rw[iI];simp[aQ]
theorem Gp{rs:List (Int×Bool)}{c:Int}{r:List Int}(h1:¬aQ c)(h2:c≠5)(h3:c≠11):fz False rs (c::r)↔fz False rs r:=by
 simp only[fz,false_and,not_false_eq_true,true_and,false_or];rw[iI,if_neg h1,if_neg h2,if_neg h3]
theorem DF{rs:List (Int×Bool)}{c:Int}{r:List Int}:¬fz True rs (c::r):=by simp[fz]
theorem MS{cl:Prop}{rs:List (Int×Bool)}:fz cl rs []↔cl:=by simp[fz,fB]
theorem Ss{α β:Type}{n k:Nat}{e1:α→List VP}{e2:β→List VP}{r:List HP}:aB r (av none n e1 []::av none k e2 []::r):=fun F S w h=>
 ⟨fun _=>False,F,fun _ h=>h.elim,fun _ h=>h,rfl,fun _=>False,F,fun _ h=>h.elim,fun _ h=>h,rfl,h⟩
noncomputable section
open Classical
def MT(c:Int)(j:Nat)(s:List rD×List Nat):List rD×List Nat:=
 if aQ c then(s.1++[((j:Int),-1,-1)],s.2++[s.1.length])
 else match s.2.getLast? with
  |none=>s
  |some p=>match s.1[p]? with
   |none=>s
   |some (b,el,en)=>if c=5 then(s.1.set p (b,(j:Int),en),s.2) else if c=11 then(s.1.set p (b,el,(j:Int)),s.2.dropLast) else s
def Su(l:List ay):Nat→List rD×List Nat
 |0=>([],[])
 |i+1=>match l[i]? with
  |some x=>MT x.Code i (Su l i)
  |none=>Su l i
theorem XG{l:List ay}{i:Nat}{x:ay}(h:l[i]?=some x):Su l (i+1)=MT x.Code i (Su l i):=by show(match l[i]? with|some x=>MT x.Code i (Su l i)|none=>Su l i)=_;rw[h]
def U7(l:List ay):List rD:=(Su l l.length).1
end
def nsQ(c:Int)(j:Nat)(z0 z:PX):Prop:=(z.sp,z.op)=MT c j (z0.sp,z0.op)
def nsP(l:List ay)(cl:Prop)(rs:List (Int×Bool))(c:Int)(j:Nat)(z0:PX)(e:Int)(z:PX):Prop:=
 (e=0∧nsQ c j z0 z∧z.sp.length≤z0.sp.length+1∧z.op.length≤64∧∃rs',iD l z.sp z.op rs'∧∀r,fz cl rs (c::r)↔fz z.cl rs' r)∨(e≠0∧∀r,¬fz cl rs (c::r))
theorem PY{c:Int}{j:Nat}{s:List rD×List Nat}(h:aQ c):MT c j s=(s.1++[((j:Int),-1,-1)],s.2++[s.1.length]):=if_pos h
theorem PZ{j p:Nat}{sp:List rD}{o:List Nat}{b el en:Int}(h:sp[p]?=some (b,el,en)):MT 5 j (sp,o++[p])=(sp.set p (b,(j:Int),en),o++[p]):=by
 unfold MT;rw[if_neg (by unfold aQ;omega)];simp[h]
theorem Sv{j p:Nat}{sp:List rD}{o:List Nat}{b el en:Int}(h:sp[p]?=some (b,el,en)):MT 11 j (sp,o++[p])=(sp.set p (b,el,(j:Int)),o):=by
 unfold MT;rw[if_neg (by unfold aQ;omega)];simp[h]
theorem P0{j:Nat}{sp:List rD}:MT 11 j (sp,[])=(sp,[]):=by
 unfold MT;rw[if_neg (by unfold aQ;omega)];rfl
theorem MU{c:Int}{j:Nat}{s:List rD×List Nat}(h1:¬aQ c)(h2:c≠5)(h3:c≠11):MT c j s=s:=by
 unfold MT;rw[if_neg h1];cases s.2.getLast? with
 |none=>rfl
 |some p=>
  simp only;cases s.1[p]? with
  |none=>rfl
  |some x=>obtain⟨b,el,en⟩:=x;simp only;rw[if_neg h2,if_neg h3]
end Go.Hl
end
section
namespace Go.Hl
theorem Gq(t:UInt8):bC [] t=[(1,t)]:=rfl
theorem vJ(m:List (Nat×UInt8))(n:Nat)(t:UInt8):bC (m++[(n,t)]) t=m++[(n+1,t)]:=by rw[qJ];simp[bC]
variable {t:UInt8}
theorem tN(m:List (Nat×UInt8))(n:Nat){t':UInt8}(h:¬t=t'):bC (m++[(n,t)]) t'=(m++[(n,t)])++[(1,t')]:=by rw[qJ];simp[bC,h]
theorem uE{l:List UInt8}{k:Nat}(h:l[k]?=some t):(l.take (k+1)).foldl bC []=bC ((l.take k).foldl bC []) t:=by
 rw[←bq h,List.foldl_append];rfl
theorem Jn{o:List (Nat×UInt8)}{M:Nat}(h:∀p∈o,p.1≤M):(∀p∈bC o t,p.1≤M+1)∧(bC o t).length≤o.length+1:=by
 rcases List.eq_nil_or_concat o with rfl|⟨m,⟨n,t'⟩,rfl⟩
 · simp[Gq]
 · rw [List.concat_eq_append] at h ⊢
   by_cases e:t'=t
   · subst e
     rw[vJ];refine⟨fun p hp=>?_,by simp⟩;rcases List.mem_append.1 hp with hp|hp
     · have:=h p (by simp[hp]);omega
     · simp only[List.mem_singleton] at hp;subst hp
       have:=h (n,t') (by simp);simp only at this ⊢;omega
   · rw[tN _ _ e]
     refine⟨fun p hp=>?_,by simp⟩;rcases List.mem_append.1 hp with hp|hp
     · have:=h p hp;omega
     · simp only[List.mem_singleton] at hp;subst hp;simp
theorem yQ:∀(l:List UInt8) (o:List (Nat×UInt8)) (M:Nat),(∀p∈o,p.1≤M)→(∀p∈l.foldl bC o,p.1≤M+l.length)∧(l.foldl bC o).length≤o.length+l.length
 |[],o,M,h=>⟨by simpa using h,by simp⟩
 |t::l,o,M,h=>by
  obtain⟨h1,h2⟩:=Jn (t:=t) h;obtain⟨h3,h4⟩:=yQ l _ _ h1;simp only[List.foldl_cons,List.length_cons];exact⟨fun p hp=>by have:=h3 p hp;omega,by omega⟩
theorem DG{x:ay}(h:mW x)(r:iP x):nT x≤1100:=by
 obtain⟨r1,r2,r3,r4,r5,r6⟩:=r;have hL:x.L.length≤100:=r6.elim (fun h=>by rw[h];simp) (fun h=>h.2);have hA:bJ x.A≤10:=dI (by have:=h.A0;have:=h.yq;omega);have hB:bJ x.B≤10:=dI (by have:=h.B0;have:=h.B64;omega);have hs:=qK x.L (fun n hn=>⟨h.L0 n hn,by have h9:n≤4294967295:=r5 n hn;omega⟩);have hl:fO x.L.length≤10:=dI (by omega);have ha:bJ x.dm≤10:=dI (by have:=h.a31;omega);have ha2:bJ (x.dm+64)≤10:=dI (by have:=h.a31;omega);have hm:Jk x≤30:=by unfold Jk;split<;>omega
 have MN:x.Code=65→x.A≤4294967295:=fun MN=>Classical.byContradiction fun h9=>r2 (.inr (.inl ⟨MN,h9⟩));have hw:lC (ku x)≤10:=yM (by have:=h.A0;have:=h.yq;unfold ku;(repeat split)<;>(try omega)) (by have:=h.A0;have:=h.yq;unfold ku;split<;>(try have:=MN (by assumption))<;>split<;>omega)
 have hh:oO x≤11:=by
  unfold oO
  split
  · have:bJ (x.Code-64512)≤10:=dI (by have:=yP r1;omega)
    omega
  · omega
 rw[ir]
 repeat (first|split|omega)
def xh(l:List ay):Nat:=(l.map nT).sum
theorem Ck(l:List ay)(x:ay):xh (l++[x])=xh l+nT x:=by simp[xh]
theorem DH:∀(l:List ay),(∀x∈l,mW x∧iP x)→xh l≤1100*l.length
 |[],_=>by simp[xh]
 |x::l,h=>by
  have h1:=DH l (fun y hy=>h y (List.mem_cons_of_mem _ hy));have h2:=h x (List.mem_cons_self ..);have h3:=DG h2.1 h2.2;simp only[xh,List.map_cons,List.sum_cons,List.length_cons] at h1 ⊢;omega
def AB(r:List (Nat×UInt8)):Nat:=(r.map fun p=>fO p.1+1).sum
theorem MV(r:List (Nat×UInt8))(p:Nat×UInt8):AB (r++[p])=AB r+(fO p.1+1):=by simp[AB]
theorem DI:∀(r:List (Nat×UInt8)),(∀p∈r,p.1≤1000000)→AB r≤11*r.length
 |[],_=>by simp[AB]
 |p::r,h=>by
  have h1:=DI r (fun q hq=>h q (List.mem_cons_of_mem _ hq));have h2:=h p (List.mem_cons_self ..);have h3:fO p.1≤10:=dI (by omega);simp only[AB,List.map_cons,List.sum_cons,List.length_cons] at h1 ⊢;omega
theorem Sw(b:jJ):MG b=fO (b.aW.foldl bC []).length+AB (b.aW.foldl bC [])+xh b.L:=by
 unfold MG AB xh;rw[←Sn];simp[List.map_map,Function.comp_def]
theorem mW.of{x:ay}(h:Am x)(r:iP x):mW x where
 toAm:=h
 A16:=fun e=>by
  have hf:aV x.Code≠11:=by rw[e];decide
  have h1:=r.2.1;have h2:ux x.A:=Classical.byContradiction fun h9=>h1 (.inl ⟨hf,h9⟩);have:=h.A0;unfold ux at h2;omega
 a0:=by have h1:=r.2.2.2.1;omega
 a31:=by have h1:=r.2.2.2.1;omega
structure Sx(b:jJ):Prop where
 ins:∀x∈b.L,Am x
 len:b.L.length≤10000
 loc:b.aW.length≤60000
end Go.Hl
end
section
namespace Go.Hl
open Go.RowKit
def K3(rest:List ay)(fs:List eX):Prop:=(fs=[]∧rest=[])∨∃st:List (Int×Bool),st.length+1=fs.length∧fB (rest.map (·.Code)) st
theorem P3{x:ay}{r:List ay}{fs:List eX}(h:K3 (x::r) fs):∃gs b,fs=gs++[b]:=by
 rcases h with⟨_,h⟩|⟨st,h,_⟩
 · cases h
 · exact vF (fun e=>by rw[e] at h;simp at h)
theorem Jo{m:aT}{f:cN}{x:ay}{r:List ay}{fs fs':List eX}{b:eX}(h:K3 (x::r) (fs++[b]))(hs:jt m f x fs b=some fs'):K3 r fs':=by
 rcases h with⟨h,_⟩|⟨st,hl,hn⟩
 · simp at h
 simp only[List.length_append,List.length_cons,List.length_nil] at hl;rw[List.map_cons,iI] at hn;by_cases h11:x.Code=11
 · rw [if_neg (by rw[h11];decide),if_neg (by omega),if_pos h11] at hn
   unfold jt dU at hs;rw[if_pos h11] at hs
   split at hs
   · simp only[Option.some.injEq] at hs
     subst hs;cases st with
     |nil=>
      simp only at hn;have:fs=[]:=List.eq_nil_of_length_eq_zero (by simp only[List.length_nil] at hl;omega);subst this;exact .inl ⟨rfl,by simpa using hn⟩
     |cons p t=>
      simp only at hn;rcases List.eq_nil_or_concat fs with rfl|⟨gs,y,rfl⟩
      · simp at hl
      · refine .inr ⟨t,?_,hn⟩
        simp only[List.concat_eq_append,List.getLast?_append,List.getLast?_singleton,Option.some_or,List.dropLast_concat,List.length_append,List.length_cons,List.length_nil] at hl ⊢;omega
   · cases hs
 by_cases h5:x.Code=5
 · rw [if_neg (by rw[h5];decide),if_pos h5] at hn
   unfold jt dU at hs;rw[if_neg h11,if_pos h5] at hs
   split at hs
   · simp only[Option.some.injEq] at hs
     subst hs;cases st with
     |nil=>exact hn.elim
     |cons p t=>
      obtain⟨pb,pe⟩:=p;simp only at hn;exact .inr ⟨(pb,true)::t,by simpa using hl,hn.2⟩
   · cases hs
 by_cases ho:aQ x.Code
 · rw[if_pos ho] at hn
   unfold jt dU at hs;rw[if_neg h11,if_neg h5,if_pos ho] at hs;obtain⟨s,_,rfl⟩:=Option.map_eq_some_iff.1 hs;exact .inr ⟨(x.Code,false)::st,by simp;omega,hn.2⟩
 · rw[if_neg ho,if_neg h5,if_neg h11] at hn
   rw[Ar h11 h5 ho] at hs;obtain⟨s,_,rfl⟩:=Option.map_eq_some_iff.1 hs;exact .inr ⟨st,by simp;omega,hn⟩
theorem Jp{m:aT}{f:cN}(h:dM m):∀g∈(cH m f).aA,g.R.length≤20:=fun g hg=>by
 obtain⟨k,hk⟩:=List.mem_iff_getElem?.1 hg;have h9:=td (f:=f) (n:=(k:Int)) h;have:eo (cH m f).aA (k:Int)=some g:=by unfold eo;rw[if_pos ⟨by have:=(List.getElem?_eq_some_iff.1 hk).1;omega,by omega⟩];simpa using hk
 rw[this] at h9;exact(h.tG g (C9 h9.symm)).2
theorem P4(x:ay):(eL x).length≤20:=by unfold eL;split<;>simp
structure yt(m:aT)(f:cN)(i:Nat)(hts:List Nat)(fs:List eX):Prop where
 tG:DD fs
 hgt:sx fs≤20*i
 len:fs.length≤1+i
 nest:K3 (f.Body.L.drop i) fs
 run:jr m f=(oh (·.Code) eL (iy (cH m f)) (f.Body.L.drop i) fs).map (hts++ ·)
theorem yt.init{m:aT}{f:cN}(h:dM m)(hs:cF m f.gX∈m.bQ)(hn:fB (f.Body.L.map (·.Code)) []):yt m f 0 [] [eX.mk False False (cF m f.gX).R ([],False)] where
 tG:=fun k hk=>by simp only[List.mem_singleton] at hk;subst hk;exact(h.tG _ hs).2
 hgt:=by simp[sx]
 len:=by simp
 nest:= .inr ⟨[],by simp,by simpa using hn⟩
 run:=by
  show jr m f=(oh _ _ _ f.Body.L _).map ([]++ ·)
  unfold jr;cases oh (fun x:ay=>x.Code) eL (iy (cH m f)) f.Body.L [eX.mk False False (cF m f.gX).R ([],False)]<;>rfl
theorem yR{α:Type}{l:List α}{i:Nat}{x:α}(h:l[i]?=some x):l.drop i=x::l.drop (i+1):=by
 have hl:=(List.getElem?_eq_some_iff.1 h);rw[List.drop_eq_getElem_cons hl.1,hl.2]
theorem yt.next{m:aT}{f:cN}{i:Nat}{hts:List Nat}{fs fs':List eX}{b:eX}{x:ay}(h:yt m f i hts (fs++[b]))(hm:dM m)(hx:f.Body.L[i]?=some x)(hs:jt m f x fs b=some fs'):yt m f (i+1) (hts++[sx (fs++[b])]) fs':=by
 obtain⟨g1,g2,g3⟩:=Ji (v:=cH m f) (x:=x) (rr:=eL) (P4 x) h.tG (Jp hm) (fun g hg=>(hm.tG g hg).2) (by have:=(jG x.Code).2;omega) hs;have hd:=yR hx;refine⟨g1,by have:=h.hgt;omega,by have:=h.len;simp at this;omega,Jo (hd▸h.nest) hs,?_⟩;rw[h.run,hd,w6];have hs':dU (fun x:ay=>x.Code) eL (iy (cH m f)) x fs b=some fs':=hs;rw[hs'];simp only[Option.bind_some,Option.map_map]
 congr 1
 funext l
 simp
theorem yt.XH{m:aT}{f:cN}{i:Nat}{hts:List Nat}{fs:List eX}{b:eX}{x:ay}(h:yt m f i hts (fs++[b]))(hx:f.Body.L[i]?=some x)(hs:jt m f x fs b=none):jr m f=none:=by
 rw[h.run,yR hx,w6];have hs':dU (fun x:ay=>x.Code) eL (iy (cH m f)) x fs b=none:=hs;rw[hs'];rfl
theorem yt.done{m:aT}{f:cN}{i:Nat}{hts:List Nat}{fs:List eX}(h:yt m f i hts fs)(hi:f.Body.L.length≤i):jr m f=some hts:=by
 rw[h.run,List.drop_eq_nil_of_le hi];simp[oh]
structure lI(m:aT):Prop where
 ins:∀f∈m.aA,∀x∈f.Body.L,Am x
 len:∀f∈m.aA,f.Body.L.length≤2000
 loc:∀f∈m.aA,f.Body.aW.length≤50000
theorem lI.bd{m:aT}(h:lI m){f:cN}(hf:f∈m.aA):Sx f.Body:=⟨h.ins f hf,by have:=h.len f hf;omega,by have:=h.loc f hf;omega⟩
theorem nW{m:aT}(h:dM m){f:cN}(hf:f∈m.aA):gA f.gX m.bQ.length:=Classical.not_not.1 ((cM (by decide)).1 (qz h.funcs f hf))
theorem Cl{m:aT}(h:dM m){f:cN}{i:Nat}(hf:m.aA[i]?=some f):ja m ((m.aJ.length:Int)+(i:Int))=some (cF m f.gX):=by
 have hl:=(List.getElem?_eq_some_iff.1 hf).1;have h1:=td (f:=f) (n:=(m.aJ.length:Int)+(i:Int)) h;rw[←h1];have hlen:(cH m f).aA.length=m.aJ.length+m.aA.length:=by simp[cH]
 unfold eo;rw[if_pos (by rw[hlen];omega)]
 show(m.aJ.map (fun i=>cF m i.gX)++m.aA.map (fun g=>cF m g.gX))[_]?=_
 rw[List.getElem?_append_right (by simp;omega),List.getElem?_map,List.length_map];rw[show((m.aJ.length:Int)+(i:Int)).toNat-m.aJ.length=i by omega,hf];rfl
end Go.Hl
namespace Go.Hl
def dV(l:List UInt8):List VP:=[ai 1 aj l]
instance:gZ 1 dV:=⟨fun _=>rfl,fun x q h=>by simp only[dV,List.mem_cons,List.not_mem_nil,or_false] at h;subst h;infer_instance⟩
end Go.Hl
namespace Go.Hl
def qM(x:List UInt8×Int×Int×Int):List VP:=[cZ x.1,ag .i64 x.2.1,ag .i64 x.2.2.1,ag .i64 x.2.2.2]
instance:gZ 4 qM:=⟨fun _=>rfl,fun x q h=>by simp only[qM,List.mem_cons,List.not_mem_nil,or_false] at h;rcases h with h|h|h|h<;>subst h<;>infer_instance⟩
instance (x:List UInt8×Int×Int×Int):bH (qM x):=bH.of x
end Go.Hl
end
section
namespace Go.Hl
open Go.RowKit
structure U8(m:aT):Prop where
 gv:∀z∈m.an,0≤z.Value∧z.Value<18446744073709551616
 el:∀z∈m.bw,0≤z.At∧z.At<18446744073709551616
 da:∀z∈m.bl,0≤z.At∧z.At<18446744073709551616
theorem Sy{t:UInt8}(h:(t.toNat:Int)=126∨(t.toNat:Int)=127):eP t=32∨eP t=64:=by
 unfold eP;rcases h with h|h
 · exact .inr (by rw[if_neg (by omega),if_pos h])
 · exact .inl (if_pos h)
theorem XI{m:aT}(h:dM m)(hb:U8 m)(hs:wP m):nM m where
 gl:=by have:=hs.globals;omega
 gv:=fun z hz=>⟨(hb.gv z hz).1,(hb.gv z hz).2,Sy ((wY h hz).imp id And.left)⟩
 tb:=by have:=(cR h).table;omega
 ms:=fun z hz=>PE h hz
 ml:=by have:=hs.ei;omega
 ll:=by have:=hs.elems;omega
 el:=fun e he=>by
  obtain⟨h1,h2,h3,h4⟩:=vv h he;refine⟨(hb.el e he).1,(hb.el e he).2,by omega,fun f hf=>?_⟩;have h5:=h4 f hf;have h6:=hs.imports;have h7:=hs.funcs;unfold gA cO at h5;omega
 dl:=by have:=hs.bX;omega
 da:=fun d hd=>by
  obtain⟨h1,h2,_⟩:=yK h hd;exact⟨h2,(hb.da d hd).1,(hb.da d hd).2,by omega⟩
noncomputable def vK(m:aT)(a:ej)(ke:Nat):ej:=uo m (a.height+lp m) (Iu m a.height (lW a m) m.an.length) ke
theorem DJ{X:ox}{m:aT}{a:ej}(h:dy X a)(hm:nM m)(hf:a.height+(lp m+B3 m)≤X.size)(ke:Nat):dy X (vK m a ke)∧ri (lW a m) (vK m a ke):=by
 have h1:=hm.r1;have h2:=hm.r2
 have h3:dy X (lW a m):=sn (sn h (by omega)) (by simp only;omega);have h4:=sq (m:=m) (g:=a.height) h3 m.an.length (by omega);have h5:=yE (m:=m) (t:=a.height+lp m) h4 hm (by omega) ke;exact⟨h5.1,(Fk _).trans h5.2⟩
def lD:aT:=⟨[],[],[],-1,[],[⟨127,False,5⟩,⟨126,False,6⟩],[],-1,[],[]⟩
instance (m:aT):bH (bf m):=by unfold bf;infer_instance
theorem Gr:dM lD:=by
 refine⟨?_,?_,?_,?_,?_,?_,?_,?_,?_,?_⟩<;>simp[lD,BU,pM,lg,nI,BV,pN,nK,jN,wN,wO,oF,ig,cO,kn,oB,L6,rZ,C7,kZ,gA,sZ,eP]
theorem Jq:j8 lD:=⟨Gr,fun f hf=>by simp[lD] at hf⟩
theorem Sz:lI lD:=⟨fun f hf=>by simp[lD] at hf,fun f hf=>by simp[lD] at hf,fun f hf=>by simp[lD] at hf⟩
theorem K4:nM lD:=XI Gr ⟨fun z hz=>by simp[lD] at hz;rcases hz with rfl|rfl<;>decide,fun z hz=>by simp[lD] at hz,fun z hz=>by simp[lD] at hz⟩
 ⟨by decide,by decide,by decide,by decide,by decide,by decide,by decide,by decide,fun z hz=>by simp[lD] at hz,fun z hz=>by simp[lD] at hz,fun z hz=>by simp[lD] at hz,fun z hz=>by simp[lD] at hz,fun z hz=>by simp[lD] at hz,fun z hz=>by simp[lD] at hz⟩
theorem P5{r:Nat×Nat×Int}(h:od lD r):r=(0,0,0):=by
 rcases h with⟨k,e,h1,_⟩|⟨_,k,d,h1,_⟩|⟨_,_,h⟩
 · simp[lD] at h1
 · simp[lD] at h1
 · exact h
def lE(n:Nat):ej:=⟨List.replicate n 0,0,0,[]⟩
theorem Jr{X:ox}{n:Nat}(h:X.size=n)(hn:n≤4194304):dy X (lE n):=⟨by rw[h];exact List.length_replicate,Nat.zero_le _,by omega,Nat.le_refl _⟩
def XJ:ej:=Iu lD 0 (lW (lE 1000) lD) 2
theorem XK:ry ((XJ.bytes.drop 8).take 8)=6:=by decide+kernel
theorem Gs:(lE 1000).height+(lp lD+B3 lD)≤1000:=by decide+kernel
end Go.Hl
end
