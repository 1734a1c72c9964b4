/-
  What the statement's proof leans on, several texts in one (packed by a program).
-/
import Derived.Test.YtpfobikpggmleaaGreatDoorSAO
set_option linter.all false
set_option maxRecDepth 1000000
set_option maxHeartbeats 4000000
section
namespace Go.Hl
abbrev dw:=List UInt8×Prop
open Classical in
noncomputable def jh (s:dw) (want:UInt8):Option (dw×UInt8):=
 match s.1.getLast? with
 |none=>if s.2 then some (s,want) else none
 |some got=>if got=want∨got=0∨want=0 then some ((s.1.dropLast,s.2),if got=0 then want else got) else none
noncomputable def De (s:dw):List UInt8→Option dw
 |[]=>some s
 |t::l=>(jh s t).bind fun p=>De p.1 l
noncomputable def cQ (s:dw) (l:List UInt8):Option dw:=De s l.reverse
def bC (s:dw) (l:List UInt8):dw:=(s.1++l,s.2)
def eO:dw:=([],True)
structure eH where
 loop:Prop
 is:Prop
 res:List UInt8
 st:dw
open Classical in
noncomputable def sn (b:eH):List UInt8:=if b.loop then [] else b.res
def sq (fs:List eH):Nat:=(fs.map fun b=>b.st.1.length).sum
section
variable {ι:Type} (cd:ι→Int) (rr:ι→List UInt8) (pl:ι→dw→List (List UInt8)→Option dw)
open Classical
noncomputable def oZ (b:eH):Prop:=∃s,cQ b.st b.res=some s∧s.1=[]
noncomputable def dO (x:ι) (fs:List eH) (b:eH):Option (List eH):=
 if cd x=11 then
  if oZ b∧(b.is→b.res=[]) then some (match fs.getLast? with
   |none=>[]
   |some t=>fs.dropLast++[{t with st:=bC t.st b.res}]) else none
 else if cd x=5 then if oZ b then some (fs++[{b with is:=False,st:=([],False)}]) else none
 else if aQ (cd x) then (if cd x=4 then cQ b.st [127] else some b.st).map fun s=>fs++[{b with st:=s}]++[⟨cd x=3,cd x=4,rr x,([],False)⟩]
 else (pl x b.st ((fs++[b]).map sn)).map fun s=>fs++[{b with st:=s}]
noncomputable def og:List ι→List eH→Option (List Nat)
 |[],_=>some []
 |x::r,fs=>match fs.getLast? with
  |none=>none
  |some b=>(dO cd rr pl x fs.dropLast b).bind fun fs'=>(og r fs').map (sq fs:: ·)
noncomputable def jR:Nat→List ι→List (List UInt8)→List UInt8→dw→Nat→Option (List Nat×List ι)
 |0,_,_,_,_,_=>none
 |_+1,[],_,_,_,_=>some ([],[])
 | f +1,x::r,labs,res,s,base=>
  if cd x=11∨cd x=5 then
   if ∃s',cQ s res=some s'∧s'.1=[] then some ([base+s.1.length],x::r) else none
  else if aQ (cd x) then
   (if cd x=4 then cQ s [127] else some s).bind fun s1=>
   (jR f r (labs++[if cd x=3 then [] else rr x]) (rr x) ([],False) (base+s1.1.length)).bind fun p=>
   match p.2 with
   |[]=>none
   | x2::r2=>
    if cd x2=5 then
     (jR f r2 (labs++[if cd x=3 then [] else rr x]) (rr x) ([],False) (base+s1.1.length)).bind fun p2=>
     match p2.2 with
     |[]=>none
     |_::r3=>(jR f r3 labs res (bC s1 (rr x)) base).map fun p3=>((base+s.1.length)::p.1++p2.1++p3.1,p3.2)
    else if cd x=4∧rr x≠[] then none
    else (jR f r2 labs res (bC s1 (rr x)) base).map fun p3=>((base+s.1.length)::p.1++p3.1,p3.2)
  else (pl x s labs).bind fun s1=>(jR f r labs res s1 base).map fun p=>((base+s.1.length)::p.1,p.2)
theorem wW (x:ι) (r:List ι) (fs:List eH) (b:eH):og cd rr pl (x::r) (fs++[b])=(dO cd rr pl x fs b).bind fun fs'=>(og cd rr pl r fs').map (sq (fs++[b]):: ·):=by
 simp [og]
theorem iD (fs:List eH) (b:eH):sq (fs++[b])=sq fs+b.st.1.length:=by simp [sq]
theorem LZ : ∀        (f:Nat) (s:List ι) (d:Nat) (labs:List (List UInt8)) (res:List UInt8) (st:dw) (base:Nat) (fs:List eH) (loop is:Prop) (iP:List Int),
    s.length<f→dS f (s.map cd) d=some iP→iP≠[]→labs=(fs++[eH.mk loop is res st]).map sn→base=sq fs→
    (jR cd rr pl f s labs res st base=none→og cd rr pl s (fs++[eH.mk loop is res st])=none)∧
    (∀hs rest,jR cd rr pl f s labs res st base=some (hs,rest)→rest.map cd=iP∧∃st',(∃s',cQ st' res=some s'∧s'.1=[])∧
      ∀x r,rest=x::r→og cd rr pl s (fs++[eH.mk loop is res st])=(dO cd rr pl x fs ⟨loop,is,res,st'⟩).bind fun fs'=>(og cd rr pl r fs').map (hs++ ·)):=by
  intro f
  induction f with
  |zero=>intro s _ _ _ _ _ _ _ _ _ h;omega
  | succ f ih =>
    intro s d labs res st base fs loop is iP h hr hne hl hb
    cases s with
    |nil=>simp [dS] at hr;exact absurd hr hne
    | cons x r =>
      simp only [List.length_cons] at h
      rw [wW,iD,←hb]
      simp only [List.map_cons,dS] at hr
      by_cases h1:cd x=11∨cd x=5
      · simp only [h1,if_true,Option.some.injEq] at hr
        simp only [jR,h1,if_true]
        by_cases hc:∃s',cQ st res=some s'∧s'.1=[]
        · simp only [hc,if_true]
          refine ⟨by simp,fun hs rest e=> ?_⟩
          simp only [Option.some.injEq,Prod.mk.injEq] at e
          obtain ⟨rfl,rfl⟩:=e
          refine ⟨by simpa using hr,st,hc,fun x' r' e=> ?_⟩
          cases e
          rfl
        · simp only [hc,if_false]
          refine ⟨fun _=> ?_,by simp⟩
          have:dO cd rr pl x fs ⟨loop,is,res,st⟩=none:=by
            unfold dO
            rcases h1 with h1|h1<;>simp [h1,oZ]<;>intros<;>simp_all
          rw [this];rfl
      simp only [h1,if_false] at hr
      have h11:cd x≠11:=fun e=>h1 (.inl e)
      have h5:cd x≠5:=fun e=>h1 (.inr e)
      by_cases h2:aQ (cd x)
      · simp only [h2,if_true] at hr
        by_cases h3:64≤d
        · simp [h3] at hr
        simp only [h3,if_false] at hr
        have hx0:dO cd rr pl x fs (eH.mk loop is res st)=(if cd x=4 then cQ st [127] else some st).map fun s=>fs++[eH.mk loop is res s]++[eH.mk (cd x=3) (cd x=4) (rr x) ([],False)]:=by
          simp only [dO,h11,h5,h2,if_true,if_false]
        rw [hx0]
        simp only [jR,h1,if_false,h2,if_true]
        generalize (if cd x=4 then cQ st [127] else some st)=o1
        match o1 with
        |none=>simp
        | some s1 =>
          simp only [Option.map_some,Option.bind_some]
          cases EO:dS f (r.map cd) (d+1) with
          |none=>simp [EO] at hr
          | some Fv =>
            simp only [EO] at hr
            have WO:Fv≠[]:=by intro e;simp [e] at hr
            have i1:=ih r (d+1) (labs++[if cd x=3 then [] else rr x]) (rr x) ([],False) (base+s1.1.length) (fs++[eH.mk loop is res s1]) (cd x=3) (cd x=4) Fv (by omega) EO WO
              (by rw [hl];simp [sn]) (by rw [iD,hb])
            obtain ⟨WQ,k1,_⟩:=(nj f (r.map cd) (d+1) (by simpa using (by omega:r.length<f)) (by omega)).2 Fv EO
            simp only [List.length_map] at WQ
            generalize jR cd rr pl f r (labs++[if cd x=3 then [] else rr x]) (rr x) ([],False) (base+s1.1.length)=o2 at i1
            match o2,i1 with
            |none,i1=>rw [i1.1 rfl];simp
            |some (hs1,[]),i1=>exact absurd (i1.2 hs1 [] rfl).1.symm (by simpa using WO)
            | some (hs1, x2 ::r2),i1=>
              obtain ⟨e1,st1,qf,q1⟩:=i1.2 _ _ rfl
              have q1:=q1 x2 r2 rfl
              simp only [Option.bind_some]
              rw [q1]
              subst e1
              simp only [List.map_cons,List.length_cons,List.length_map] at hr WQ
              have key:∀(f':Prop) (st2:dw) (r3:List ι) (hsA:List Nat) (x3:ι),cd x3=11→(∃s',cQ st2 (rr x)=some s'∧s'.1=[])→r3.length<f→dS f (r3.map cd) d=some iP→
                  ((f'∧rr x≠[]→(((dO cd rr pl x3 (fs++[eH.mk loop is res s1]) (eH.mk (cd x=3) f' (rr x) st2)).bind fun fs'=>(og cd rr pl r3 fs').map (hsA++ ·))=none))∧
                  (¬ (f'∧rr x≠[])→(jR cd rr pl f r3 labs res (bC s1 (rr x)) base=none→(((dO cd rr pl x3 (fs++[eH.mk loop is res s1]) (eH.mk (cd x=3) f' (rr x) st2)).bind fun fs'=>(og cd rr pl r3 fs').map (hsA++ ·))=none))∧
                    (∀SZ Km,jR cd rr pl f r3 labs res (bC s1 (rr x)) base=some (SZ,Km)→Km.map cd=iP∧∃st',(∃s',cQ st' res=some s'∧s'.1=[])∧
                      ∀y r',Km=y::r'→((dO cd rr pl x3 (fs++[eH.mk loop is res s1]) (eH.mk (cd x=3) f' (rr x) st2)).bind fun fs'=>(og cd rr pl r3 fs').map (hsA++ ·))=(dO cd rr pl y fs ⟨loop,is,res,st'⟩).bind fun fs'=>(og cd rr pl r' fs').map ((hsA++SZ)++ ·)))):=by
                intro f' st2 r3 hsA x3 h3 hc3 hlen hr3
                have hst:dO cd rr pl x3 (fs++[eH.mk loop is res s1]) (eH.mk (cd x=3) f' (rr x) st2)=if (f'→rr x=[]) then some (fs++[eH.mk loop is res (bC s1 (rr x))]) else none:=by
                  have QI:oZ (eH.mk (cd x=3) f' (rr x) st2):=hc3
                  simp [dO,h3,QI]
                rw [hst]
                refine ⟨fun hf=>by rw [if_neg (fun e=>hf.2 (e hf.1))];rfl,fun hf=> ?_⟩
                rw [if_pos (fun e=>Classical.byContradiction fun e'=>hf ⟨e,e'⟩)]
                simp only [Option.bind_some]
                have i3:=ih r3 d labs res (bC s1 (rr x)) base fs loop is iP hlen hr3 hne (by rw [hl];simp [sn]) hb
                refine ⟨fun e=>by rw [i3.1 e];rfl,fun SZ Km e=> ?_⟩
                obtain ⟨a1,st',a2,a3⟩:=i3.2 _ _ e
                refine ⟨a1,st',a2,fun y r' e'=> ?_⟩
                rw [a3 y r' e']
                cases dO cd rr pl y fs ⟨loop,is,res,st'⟩ with
                |none=>rfl
                |some z=>simp only [Option.bind_some,Option.map_map];congr 1;funext l;simp
              have done:∀{o:Option (List Nat)} {z:Nat} {g:List Nat→List Nat},(Option.map (z:: ·) (Option.map g o))=Option.map (fun l=>z::g l) o:=fun {o z g}=>by cases o<;>rfl
              rcases k1 (cd x2) _ rfl with e|e
              · have hr':dS f (r2.map cd) d=some iP:=by simpa [e] using hr
                obtain ⟨kA,kB⟩:=key (cd x=4) st1 r2 hs1 x2 e qf (by omega) hr'
                simp only [e,show ¬((11:Int)=5) by decide,if_false]
                by_cases hf:cd x=4∧rr x≠[]
                · rw [if_pos hf,kA hf]
                  exact ⟨fun _=>rfl,by simp⟩
                · rw [if_neg hf]
                  obtain ⟨kC,kD⟩:=kB hf
                  refine ⟨fun e'=> ?_,fun hs rest e'=> ?_⟩
                  · rw [kC (by simpa using e')];rfl
                  · obtain ⟨p3,e3,e4⟩:=Option.map_eq_some_iff.1 e'
                    simp only [Prod.mk.injEq] at e4
                    obtain ⟨rfl,rfl⟩:=e4
                    obtain ⟨a1,st',a2,a3⟩:=kD _ _ (by rw [e3])
                    refine ⟨a1,st',a2,fun y r' e5=> ?_⟩
                    rw [a3 y r' e5]
                    cases dO cd rr pl y fs ⟨loop,is,res,st'⟩ with
                    |none=>rfl
                    |some z=>simp only [Option.bind_some];rw [done];rfl
              · simp only [e,if_true] at hr ⊢
                by_cases h4:cd x=4
                · simp only [h4,if_true] at hr
                  cases D2:dS f (r2.map cd) (d+1) with
                  |none=>simp [D2] at hr
                  | some xU=>
                    simp only [D2] at hr
                    have WR:xU≠[]:=by intro e;simp [e] at hr
                    have i2:=ih r2 (d+1) (labs++[if cd x=3 then [] else rr x]) (rr x) ([],False) (base+s1.1.length) (fs++[eH.mk loop is res s1]) (cd x=3) False xU (by omega) D2 WR
                      (by rw [hl];simp [sn]) (by rw [iD,hb])
                    obtain ⟨WS,k2,_⟩:=(nj f (r2.map cd) (d+1) (by simpa using (by omega:r2.length<f)) (by omega)).2 xU D2
                    simp only [List.length_map] at WS
                    have al3:dO cd rr pl x2 (fs++[eH.mk loop is res s1]) (eH.mk (cd x=3) (cd x=4) (rr x) st1)=some (fs++[eH.mk loop is res s1]++[eH.mk (cd x=3) False (rr x) ([],False)]):=by
                      have QI:oZ (eH.mk (cd x=3) (cd x=4) (rr x) st1):=qf
                      simp only [dO,e,show ¬((5:Int)=11) by decide,if_false,if_true,QI]
                    rw [al3]
                    simp only [Option.bind_some]
                    generalize jR cd rr pl f r2 (labs++[if cd x=3 then [] else rr x]) (rr x) ([],False) (base+s1.1.length)=o3 at i2
                    match o3,i2 with
                    |none,i2=>rw [i2.1 rfl];simp
                    |some (hs2,[]),i2=>exact absurd (i2.2 hs2 [] rfl).1.symm (by simpa using WR)
                    | some (hs2,x3::r3),i2=>
                      obtain ⟨e2,st2,al4,q2⟩:=i2.2 _ _ rfl
                      rw [q2 x3 r3 rfl]
                      subst e2
                      simp only [List.map_cons,List.length_cons,List.length_map] at hr WS
                      rcases k2 (cd x3) _ rfl with e3|e3
                      · have hr':dS f (r3.map cd) d=some iP:=by simpa [e3] using hr
                        obtain ⟨kA,kB⟩:=key False st2 r3 (hs1++hs2) x3 e3 al4 (by omega) hr'
                        obtain ⟨kC,kD⟩:=kB (fun h=>h.1)
                        have hmm:(Option.map (hs1++ ·) ((dO cd rr pl x3 (fs++[eH.mk loop is res s1]) (eH.mk (cd x=3) False (rr x) st2)).bind fun fs'=>(og cd rr pl r3 fs').map (hs2++ ·)))=
                            ((dO cd rr pl x3 (fs++[eH.mk loop is res s1]) (eH.mk (cd x=3) False (rr x) st2)).bind fun fs'=>(og cd rr pl r3 fs').map (hs1++hs2++ ·)):=by
                          cases dO cd rr pl x3 (fs++[eH.mk loop is res s1]) (eH.mk (cd x=3) False (rr x) st2) with
                          |none=>rfl
                          |some z=>simp only [Option.bind_some];cases og cd rr pl r3 z<;>simp
                        rw [hmm]
                        simp only [Option.bind_some]
                        refine ⟨fun e'=> ?_,fun hs rest e'=> ?_⟩
                        · rw [kC (by simpa using e')];rfl
                        · obtain ⟨p3,e3,e4⟩:=Option.map_eq_some_iff.1 e'
                          simp only [Prod.mk.injEq] at e4
                          obtain ⟨rfl,rfl⟩:=e4
                          obtain ⟨a1,st',a2,a3⟩:=kD _ _ (by rw [e3])
                          refine ⟨a1,st',a2,fun y r' e5=> ?_⟩
                          rw [a3 y r' e5]
                          cases dO cd rr pl y fs ⟨loop,is,res,st'⟩ with
                          |none=>rfl
                          |some z=>simp only [Option.bind_some];rw [done];rfl
                      · simp [e3] at hr
                · simp [h4] at hr
      · simp only [h2,if_false] at hr
        have hx0:dO cd rr pl x fs (eH.mk loop is res st)=(pl x st labs).map fun s=>fs++[eH.mk loop is res s]:=by
          simp only [dO,h11,h5,h2,if_false,hl]
        rw [hx0]
        simp only [jR,h1,if_false,h2]
        cases pl x st labs with
        |none=>simp
        | some s1=>
          simp only [Option.map_some,Option.bind_some]
          have i1:=ih r d labs res s1 base fs loop is iP (by omega) hr hne (by rw [hl];simp [sn]) hb
          refine ⟨fun e'=> ?_,fun hs rest e'=> ?_⟩
          · rw [i1.1 (by simpa using e')];rfl
          · obtain ⟨p3,e3,e4⟩:=Option.map_eq_some_iff.1 e'
            simp only [Prod.mk.injEq] at e4
            obtain ⟨rfl,rfl⟩:=e4
            obtain ⟨a1,st',a2,a3⟩:=i1.2 _ _ (by rw [e3])
            refine ⟨a1,st',a2,fun y r' e5=> ?_⟩
            rw [a3 y r' e5]
            cases dO cd rr pl y fs ⟨loop,is,res,st'⟩ with
            |none=>rfl
            |some z=>simp only [Option.bind_some];cases og cd rr pl r' z<;>rfl
theorem L1 {f:Nat} {s:List ι} {res:List UInt8} (h:s.length<f) (hr:dS f (s.map cd) 0=some [11]):
    og cd rr pl s [eH.mk False False res ([],False)]=(jR cd rr pl f s [res] res ([],False) 0).map Prod.fst:=by
  have i:=LZ cd rr pl f s 0 [res] res ([],False) 0 [] False False [11] h hr (by simp) (by simp [sn]) rfl
  generalize jR cd rr pl f s [res] res ([],False) 0=o at i
  match o,i with
  |none,i=>simpa using i.1 rfl
  | some (hs,rest),i=>
    obtain ⟨e,st',hc,q⟩:=i.2 _ _ rfl
    obtain ⟨x,rfl⟩:∃x,rest=[x]:=by
      cases rest with
      |nil=>simp at e
      | cons x t=>cases t with
        |nil=>exact ⟨x,rfl⟩
        |cons y t=>simp at e
    have q:=q x [] rfl
    simp only [List.nil_append] at q
    have hx:cd x=11:=by simpa using e
    have QI:oZ (eH.mk False False res st'):=hc
    rw [q]
    simp [dO,hx,QI,og]
end
end Go.Hl
end
section
namespace Go.Hl
structure pR where
 Code:Int
 Name:List UInt8
 Form:Int
 vm:List UInt8
 tC:List UInt8
 deriving DecidableEq
structure nR where
 code:Int
 name:List UInt8
 form:Int
 takes:List UInt8
 xV:List UInt8
 deriving DecidableEq
structure Fw where
 first:Int
 many:Int
 group:Int
 bits:Int
 from_:Int
 deriving DecidableEq
def sW (x:pR):List VP:=[ag .i64 x.Code,cZ x.Name,ag .i64 x.Form,ai 1 aj x.vm,ai 1 aj x.tC]
def gG (x:nR):List VP:=[ag .i64 x.code,cZ x.name,ag .i64 x.form,cZ x.takes,cZ x.xV]
def sX (x:Fw):List VP:=[ag .i64 x.first,ag .i64 x.many,ag .i64 x.group,ag .i64 x.bits,ag .i64 x.from_]
def vn (x:Int×Int):List VP:=[ag .i64 x.1,ag .i64 x.2]
def jV (x:List UInt8):List VP:=[cZ x]
instance:hU 5 sW:=⟨fun _=>rfl,fun x q h=>by simp only [sW,List.mem_cons,List.not_mem_nil,or_false] at h;rcases h with h|h|h|h|h<;>rw [h]<;>infer_instance⟩
instance:hU 5 gG:=⟨fun _=>rfl,fun x q h=>by simp only [gG,List.mem_cons,List.not_mem_nil,or_false] at h;rcases h with h|h|h|h|h<;>rw [h]<;>infer_instance⟩
instance:hU 5 sX:=⟨fun _=>rfl,fun x q h=>by simp only [sX,List.mem_cons,List.not_mem_nil,or_false] at h;rcases h with h|h|h|h|h<;>rw [h]<;>infer_instance⟩
instance:hU 2 vn:=⟨fun _=>rfl,fun x q h=>by simp only [vn,List.mem_cons,List.not_mem_nil,or_false] at h;rcases h with h|h<;>rw [h]<;>infer_instance⟩
instance:hU 1 jV:=⟨fun _=>rfl,fun x q h=>by simp only [jV,List.mem_cons,List.not_mem_nil,or_false] at h;rw [h];infer_instance⟩
instance (x:pR):bE (sW x):=⟨fun q h=>(inferInstance:hU 5 sW).flat x q h⟩
instance (x:nR):bE (gG x):=⟨fun q h=>(inferInstance:hU 5 gG).flat x q h⟩
instance (x:Fw):bE (sX x):=⟨fun q h=>(inferInstance:hU 5 sX).flat x q h⟩
instance (x:Int×Int):bE (vn x):=⟨fun q h=>(inferInstance:hU 2 vn).flat x q h⟩
def iQ:List nR:=[
 ⟨0,[117,110,114,101,97,99,104,97,98,108,101],0,[],[]⟩,
 ⟨1,[110,111,112],0,[],[]⟩,
 ⟨2,[98,108,111,99,107],1,[],[]⟩,
 ⟨3,[108,111,111,112],1,[],[]⟩,
 ⟨4,[105,102],1,[],[]⟩,
 ⟨5,[101,108,115,101],0,[],[]⟩,
 ⟨11,[101,110,100],0,[],[]⟩,
 ⟨12,[98,114],2,[],[]⟩,
 ⟨13,[98,114,95,105,102],2,[],[]⟩,
 ⟨14,[98,114,95,116,97,98,108,101],3,[],[]⟩,
 ⟨15,[114,101,116,117,114,110],0,[],[]⟩,
 ⟨16,[99,97,108,108],4,[],[]⟩,
 ⟨17,[99,97,108,108,95,105,110,100,105,114,101,99,116],5,[],[]⟩,
 ⟨26,[100,114,111,112],0,[],[]⟩,
 ⟨27,[115,101,108,101,99,116],0,[],[]⟩,
 ⟨32,[108,111,99,97,108,46,103,101,116],6,[],[]⟩,
 ⟨33,[108,111,99,97,108,46,115,101,116],6,[],[]⟩,
 ⟨34,[108,111,99,97,108,46,116,101,101],6,[],[]⟩,
 ⟨35,[103,108,111,98,97,108,46,103,101,116],7,[],[]⟩,
 ⟨36,[103,108,111,98,97,108,46,115,101,116],7,[],[]⟩,
 ⟨40,[105,51,50,46,108,111,97,100],8,[105],[105]⟩,
 ⟨41,[105,54,52,46,108,111,97,100],8,[105],[108]⟩,
 ⟨44,[105,51,50,46,108,111,97,100,56,95,115],8,[105],[105]⟩,
 ⟨45,[105,51,50,46,108,111,97,100,56,95,117],8,[105],[105]⟩,
 ⟨46,[105,51,50,46,108,111,97,100,49,54,95,115],8,[105],[105]⟩,
 ⟨47,[105,51,50,46,108,111,97,100,49,54,95,117],8,[105],[105]⟩,
 ⟨48,[105,54,52,46,108,111,97,100,56,95,115],8,[105],[108]⟩,
 ⟨49,[105,54,52,46,108,111,97,100,56,95,117],8,[105],[108]⟩,
 ⟨50,[105,54,52,46,108,111,97,100,49,54,95,115],8,[105],[108]⟩,
 ⟨51,[105,54,52,46,108,111,97,100,49,54,95,117],8,[105],[108]⟩,
 ⟨52,[105,54,52,46,108,111,97,100,51,50,95,115],8,[105],[108]⟩,
 ⟨53,[105,54,52,46,108,111,97,100,51,50,95,117],8,[105],[108]⟩,
 ⟨54,[105,51,50,46,115,116,111,114,101],8,[105,105],[]⟩,
 ⟨55,[105,54,52,46,115,116,111,114,101],8,[105,108],[]⟩,
 ⟨58,[105,51,50,46,115,116,111,114,101,56],8,[105,105],[]⟩,
 ⟨59,[105,51,50,46,115,116,111,114,101,49,54],8,[105,105],[]⟩,
 ⟨60,[105,54,52,46,115,116,111,114,101,56],8,[105,108],[]⟩,
 ⟨61,[105,54,52,46,115,116,111,114,101,49,54],8,[105,108],[]⟩,
 ⟨62,[105,54,52,46,115,116,111,114,101,51,50],8,[105,108],[]⟩,
 ⟨63,[109,101,109,111,114,121,46,115,105,122,101],9,[],[105]⟩,
 ⟨64,[109,101,109,111,114,121,46,103,114,111,119],9,[105],[105]⟩,
 ⟨65,[105,51,50,46,99,111,110,115,116],11,[],[105]⟩,
 ⟨66,[105,54,52,46,99,111,110,115,116],11,[],[108]⟩,
 ⟨167,[105,51,50,46,119,114,97,112,95,105,54,52],0,[108],[105]⟩,
 ⟨172,[105,54,52,46,101,120,116,101,110,100,95,105,51,50,95,115],0,[105],[108]⟩,
 ⟨173,[105,54,52,46,101,120,116,101,110,100,95,105,51,50,95,117],0,[105],[108]⟩,
 ⟨192,[105,51,50,46,101,120,116,101,110,100,56,95,115],0,[105],[105]⟩]
def jK:List nR:=[
 ⟨193,[105,51,50,46,101,120,116,101,110,100,49,54,95,115],0,[105],[105]⟩,
 ⟨194,[105,54,52,46,101,120,116,101,110,100,56,95,115],0,[108],[108]⟩,
 ⟨195,[105,54,52,46,101,120,116,101,110,100,49,54,95,115],0,[108],[108]⟩,
 ⟨196,[105,54,52,46,101,120,116,101,110,100,51,50,95,115],0,[108],[108]⟩,
 ⟨64522,[109,101,109,111,114,121,46,99,111,112,121],10,[105,105,105],[]⟩,
 ⟨64523,[109,101,109,111,114,121,46,102,105,108,108],9,[105,105,105],[]⟩]
def gH:List Fw:=[⟨69,1,2,32,3⟩,⟨70,10,1,32,0⟩,⟨80,1,2,64,3⟩,⟨81,10,1,64,0⟩,⟨103,3,2,32,0⟩,⟨106,15,0,32,0⟩,⟨121,3,2,64,0⟩,⟨124,15,0,64,0⟩]
def L2:List (List UInt8):=[[97,100,100],[115,117,98],[109,117,108],[100,105,118,95,115],[100,105,118,95,117],[114,101,109,95,115],[114,101,109,95,117],[97,110,100],[111,114],[120,111,114],[115,104,108],[115,104,114,95,115],[115,104,114,95,117],[114,111,116,108],[114,111,116,114]]
def BX:List (List UInt8):=[[101,113],[110,101],[108,116,95,115],[108,116,95,117],[103,116,95,115],[103,116,95,117],[108,101,95,115],[108,101,95,117],[103,101,95,115],[103,101,95,117]]
def Rp:List (List UInt8):=[[99,108,122],[99,116,122],[112,111,112,99,110,116],[101,113,122]]
def z6:List (List UInt8):=[[117,110,114,101,97,99,104,97,98,108,101],
 [110,111,112],
 [98,108,111,99,107],
 [108,111,111,112],
 [105,102],
 [101,108,115,101],
 [],
 [],
 [],
 [],
 [],
 [101,110,100],
 [98,114],
 [98,114,95,105,102],
 [98,114,95,116,97,98,108,101],
 [114,101,116,117,114,110],
 [99,97,108,108],
 [99,97,108,108,95,105,110,100,105,114,101,99,116],
 [],
 [],
 [],
 [],
 [],
 [],
 [],
 [],
 [100,114,111,112],
 [115,101,108,101,99,116],
 [],
 [],
 [],
 [],
 [108,111,99,97,108,46,103,101,116],
 [108,111,99,97,108,46,115,101,116],
 [108,111,99,97,108,46,116,101,101],
 [103,108,111,98,97,108,46,103,101,116],
 [103,108,111,98,97,108,46,115,101,116],
 [],
 [],
 [],
 [105,51,50,46,108,111,97,100],
 [105,54,52,46,108,111,97,100],
 [],
 [],
 [105,51,50,46,108,111,97,100,56,95,115],
 [105,51,50,46,108,111,97,100,56,95,117],
 [105,51,50,46,108,111,97,100,49,54,95,115],
 [105,51,50,46,108,111,97,100,49,54,95,117],
 [105,54,52,46,108,111,97,100,56,95,115],
 [105,54,52,46,108,111,97,100,56,95,117],
 [105,54,52,46,108,111,97,100,49,54,95,115],
 [105,54,52,46,108,111,97,100,49,54,95,117],
 [105,54,52,46,108,111,97,100,51,50,95,115],
 [105,54,52,46,108,111,97,100,51,50,95,117],
 [105,51,50,46,115,116,111,114,101],
 [105,54,52,46,115,116,111,114,101],
 [],
 [],
 [105,51,50,46,115,116,111,114,101,56],
 [105,51,50,46,115,116,111,114,101,49,54],
 [105,54,52,46,115,116,111,114,101,56],
 [105,54,52,46,115,116,111,114,101,49,54],
 [105,54,52,46,115,116,111,114,101,51,50],
 [109,101,109,111,114,121,46,115,105,122,101],
 [109,101,109,111,114,121,46,103,114,111,119],
 [105,51,50,46,99,111,110,115,116],
 [105,54,52,46,99,111,110,115,116],
 [],
 [],
 [105,51,50,46,101,113,122],
 [105,51,50,46,101,113],
 [105,51,50,46,110,101],
 [105,51,50,46,108,116,95,115],
 [105,51,50,46,108,116,95,117],
 [105,51,50,46,103,116,95,115],
 [105,51,50,46,103,116,95,117],
 [105,51,50,46,108,101,95,115],
 [105,51,50,46,108,101,95,117],
 [105,51,50,46,103,101,95,115],
 [105,51,50,46,103,101,95,117],
 [105,54,52,46,101,113,122],
 [105,54,52,46,101,113],
 [105,54,52,46,110,101],
 [105,54,52,46,108,116,95,115],
 [105,54,52,46,108,116,95,117],
 [105,54,52,46,103,116,95,115],
 [105,54,52,46,103,116,95,117],
 [105,54,52,46,108,101,95,115],
 [105,54,52,46,108,101,95,117],
 [105,54,52,46,103,101,95,115],
 [105,54,52,46,103,101,95,117],
 [],
 [],
 [],
 [],
 [],
 [],
 [],
 [],
 [],
 [],
 [],
 [],
 [105,51,50,46,99,108,122],
 [105,51,50,46,99,116,122],
 [105,51,50,46,112,111,112,99,110,116],
 [105,51,50,46,97,100,100],
 [105,51,50,46,115,117,98],
 [105,51,50,46,109,117,108],
 [105,51,50,46,100,105,118,95,115],
 [105,51,50,46,100,105,118,95,117],
 [105,51,50,46,114,101,109,95,115],
 [105,51,50,46,114,101,109,95,117],
 [105,51,50,46,97,110,100],
 [105,51,50,46,111,114],
 [105,51,50,46,120,111,114],
 [105,51,50,46,115,104,108],
 [105,51,50,46,115,104,114,95,115],
 [105,51,50,46,115,104,114,95,117],
 [105,51,50,46,114,111,116,108],
 [105,51,50,46,114,111,116,114],
 [105,54,52,46,99,108,122],
 [105,54,52,46,99,116,122],
 [105,54,52,46,112,111,112,99,110,116],
 [105,54,52,46,97,100,100],
 [105,54,52,46,115,117,98],
 [105,54,52,46,109,117,108],
 [105,54,52,46,100,105,118,95,115],
 [105,54,52,46,100,105,118,95,117],
 [105,54,52,46,114,101,109,95,115],
 [105,54,52,46,114,101,109,95,117],
 [105,54,52,46,97,110,100],
 [105,54,52,46,111,114],
 [105,54,52,46,120,111,114],
 [105,54,52,46,115,104,108],
 [105,54,52,46,115,104,114,95,115],
 [105,54,52,46,115,104,114,95,117],
 [105,54,52,46,114,111,116,108],
 [105,54,52,46,114,111,116,114],
 [],
 [],
 [],
 [],
 [],
 [],
 [],
 [],
 [],
 [],
 [],
 [],
 [],
 [],
 [],
 [],
 [],
 [],
 [],
 [],
 [],
 [],
 [],
 [],
 [],
 [],
 [],
 [],
 [105,51,50,46,119,114,97,112,95,105,54,52],
 [],
 [],
 [],
 [],
 [105,54,52,46,101,120,116,101,110,100,95,105,51,50,95,115],
 [105,54,52,46,101,120,116,101,110,100,95,105,51,50,95,117],
 [],
 [],
 [],
 [],
 [],
 [],
 [],
 [],
 [],
 [],
 [],
 [],
 [],
 [],
 [],
 [],
 [],
 [],
 [105,51,50,46,101,120,116,101,110,100,56,95,115],
 [105,51,50,46,101,120,116,101,110,100,49,54,95,115],
 [105,54,52,46,101,120,116,101,110,100,56,95,115],
 [105,54,52,46,101,120,116,101,110,100,49,54,95,115],
 [105,54,52,46,101,120,116,101,110,100,51,50,95,115]]
def z7:List (Int×Int):=[(28,28),(37,38),(42,43),(56,57),(67,68),(91,102),(139,166),(168,171),(174,191),(208,210),(253,253),(64512,64519),(64520,64521),(64524,64526),(64527,64529)]
theorem vo {α:Type} {p:α→Bool}:∀{l:List α} {k:Nat} {x:α},l[k]?=some x→p x=true→(∀j y,j<k→l[j]?=some y→p y=false)→l.find? p=some x
 |[],_,_,h,_,_=>by simp at h
 |y::l,0,x,h,hp,_=>by simp at h;subst h;simp [hp]
 |y::l,k+1,x,h,hp,hn=>by
  rw [List.find?_cons_of_neg (by simpa using hn 0 y (by omega) rfl)]
  exact vo (l:=l) (k:=k) (by simpa using h) hp (fun j z hj hz=>hn (j+1) z (by omega) (by simpa using hz))
def gJ (l:List UInt8):List UInt8:=l.map fun c=>if c=108 then 126 else 127
def q8 (l:List UInt8):Prop:=∀b∈l,b<128
instance (l:List UInt8):Decidable (q8 l):=inferInstanceAs (Decidable (∀b∈l,b<128))
def ug (r:nR):pR:=⟨r.code,r.name,r.form,gJ r.takes,gJ r.xV⟩
def WT:pR:=⟨0,[],0,[],[]⟩
def S3:nR:=⟨0,[],0,[],[]⟩
def o4 (code:Int) (s:Fw):Bool:=decide (s.first≤code∧code<s.first+s.many)
def sr (code:Int):Option (Int×Int×Int):=(gH.find? (o4 code)).map fun s=>(s.group,s.from_+code-s.first,s.bits)
def mS (b:Int):List UInt8:=if b=64 then [105,54,52,46] else [105,51,50,46]
def oh (b:Int):List UInt8:=if b=64 then [108] else [105]
def lQ (code g n b:Int):nR:=
 if g=0 then ⟨code,mS b++L2.getD n.toNat [],0,oh b++oh b,oh b⟩
 else if g=1 then ⟨code,mS b++BX.getD n.toNat [],0,oh b++oh b,[105]⟩
 else if n=3 then ⟨code,mS b++Rp.getD n.toNat [],0,oh b,[105]⟩
 else ⟨code,mS b++Rp.getD n.toNat [],0,oh b,oh b⟩
def gK (code:Int):Option nR:=(sr code).map fun p=>lQ code p.1 p.2.1 p.2.2
def jW (code:Int) (r:nR):Bool:=decide (r.code=code)
def ta (code:Int):Option nR:=match iQ.find? (jW code) with|some r=>some r|none=>match jK.find? (jW code) with|some r=>some r|none=>gK code
def eL (code:Int):Option pR:=(ta code).map ug
def su (code:Int):Prop:=∃r∈z7,r.1≤code∧code≤r.2
instance (code:Int):Decidable (su code):=inferInstanceAs (Decidable (∃r∈z7,r.1≤code∧code≤r.2))
def iR:List (List UInt8):=[[56],[49,54],[51,50]]
def z8 (name:List UInt8):List UInt8:=sM (sM (wk name 46).2.1 [95,115]) [95,117]
def wX (name:List UInt8):Int:=if mF (z8 name) [56] then 1 else if mF (z8 name) [49,54] then 2 else if mF (z8 name) [51,50] then 4 else if wj name [105,54,52] then 8 else 4
def lR (code:Int):Option Int:=match eL code with|none=>none|some x=>if x.Form=8 then some (wX x.Name) else none
def ji (code:Int):List UInt8:=if code=64522 then [109,101,109,111,114,121,46,99,111,112,121] else if code=64523 then [109,101,109,111,114,121,46,102,105,108,108] else if code<0∨196<code then [] else z6.getD code.toNat []
def aU (c:Int):Int:=
 if 2≤c∧c≤4 then 1 else if c=12∨c=13 then 2 else if c=14 then 3 else if c=16 then 4 else if c=17 then 5 else if 32≤c∧c≤34 then 6 else if c=35∨c=36 then 7 else if 40≤c∧c≤62 then 8 else if (c=63∨c=64)∨c=64523 then 9 else if c=64522 then 10 else if c=65∨c=66 then 11 else 0
def aN (c:Int):List UInt8×List UInt8:=
 if c<40 then ([],[]) else if c=40∨44≤c∧c≤47 then ([127],[127]) else if c=41∨48≤c∧c≤53 then ([127],[126]) else if (c=54∨c=58)∨c=59 then ([127,127],[])
 else if c≤62 then ([127,126],[]) else if c=63∨c=65 then ([],[127]) else if c=66 then ([],[126]) else if c=80∨c=167 then ([126],[127])
 else if (70≤c∧c≤79)∨106≤c∧c≤120 then ([127,127],[127]) else if 81≤c∧c≤90 then ([126,126],[127]) else if 124≤c∧c≤138 then ([126,126],[126])
 else if c=172∨c=173 then ([127],[126]) else if (121≤c∧c≤123)∨194≤c∧c≤196 then ([126],[126]) else if 64522≤c then ([127,127,127],[]) else ([127],[127])
def gW (c:Int):Int:=
 if c=40∨c=52∨c=53∨c=54∨c=62 then 4 else if c=41∨c=55 then 8 else if c=44∨c=45∨c=48∨c=49∨c=58∨c=60 then 1 else if c=46∨c=47∨c=50∨c=51∨c=59∨c=61 then 2 else 0
def vr (c:Int):Prop:=
 (c=28∨c=37∨c=38∨c=42∨c=43∨c=56∨c=57∨c=67∨c=68∨c=208∨c=209∨c=210∨c=253)∨(91≤c∧c≤102∨139≤c∧c≤166∨168≤c∧c≤171∨174≤c∧c≤191∨64512≤c∧c≤64521∨64524≤c∧c≤64529)
instance (c:Int):Decidable (vr c):=inferInstanceAs (Decidable (_∨_))
theorem IC:∀r∈iQ,q8 r.takes∧q8 r.xV∧r.takes.length≤3∧r.xV.length≤3:=by decide
theorem ID:∀r∈jK,q8 r.takes∧q8 r.xV∧r.takes.length≤3∧r.xV.length≤3:=by decide
def Fx (r:nR):Prop:=q8 r.takes∧q8 r.xV∧r.takes.length≤3∧r.xV.length≤3
theorem Rq (b:Int):q8 (oh b)∧(oh b).length=1:=by unfold oh;split<;>exact ⟨by decide,rfl⟩
theorem IE (b:Int):q8 (oh b++oh b):=by unfold oh;split<;>decide
theorem L3 (code g n b:Int):Fx (lQ code g n b):=by
 have h:=Rq b
 have h2:=IE b
 have h3:q8 [105]:=by decide
 unfold lQ Fx
 split
 · exact ⟨h2,h.1,by simp [h.2],by simp [h.2]⟩
 split
 · exact ⟨h2,h3,by simp [h.2],by simp⟩
 split
 · exact ⟨h.1,h3,by simp [h.2],by simp⟩
 · exact ⟨h.1,h.1,by simp [h.2],by simp [h.2]⟩
theorem Kn {code:Int} {r:nR} (h:ta code=some r):Fx r:=by
 unfold ta at h
 split at h
 · rename_i r' hr;cases h;exact IC r (List.mem_of_find?_eq_some hr)
 · split at h
   · rename_i r' hr;cases h;exact ID r (List.mem_of_find?_eq_some hr)
   · unfold gK at h
     cases hn:sr code with
     |none=>rw [hn] at h;cases h
     |some p=>rw [hn] at h;cases h;exact L3 _ _ _ _
theorem L4:∀s∈gH,0≤s.from_∧(s.group=0∧s.from_+s.many≤15∨s.group=1∧s.from_+s.many≤10∨s.group=2∧s.from_+s.many≤4)∧(s.bits=32∨s.bits=64):=by decide
theorem Fy {code g n b:Int} (h:sr code=some (g,n,b)):0≤n∧(g=0∧n<15∨g=1∧n<10∨g=2∧n<4)∧(b=32∨b=64):=by
 unfold sr at h
 cases hs:gH.find? (o4 code) with
 |none=>rw [hs] at h;cases h
 |some s=>
  rw [hs] at h;cases h
  have h1:=L4 s (List.mem_of_find?_eq_some hs)
  have h2:=List.find?_some hs
  simp only [o4,decide_eq_true_eq] at h2
  omega
end Go.Hl
namespace Go.Hl
theorem O0:∀s∈gH,0≤s.first∧s.first≤200∧0≤s.many∧s.many≤20∧0≤s.from_∧s.from_≤10:=by decide
theorem Rr {code:Int} {k:Nat} {s:Fw} (hx:gH[k]?=some s) (hc:o4 code s=true) (hn:cN (fun s=>o4 code s=true) gH k):sr code=some (s.group,s.from_+code-s.first,s.bits):=by
 unfold sr;rw [vo hx hc (fun j y hj hy=>by simpa using hn j y hj hy)];rfl
theorem sY {code:Int} (hn:cN (fun s=>o4 code s=true) gH gH.length):sr code=none:=by
 unfold sr;rw [List.find?_eq_none.2 (fun x hx=>hn.all (Nat.le_refl _) x hx)];rfl
theorem Uf {code:Int} {k:Nat} {r:nR} (hx:iQ[k]?=some r) (hc:r.code=code) (hn:cN (fun r=>r.code=code) iQ k):ta code=some r:=by
 unfold ta;rw [vo hx (by simpa [jW] using hc) (fun j y hj hy=>by simpa [jW] using hn j y hj hy)]
theorem BY {code:Int} (hn:cN (fun r:nR=>r.code=code) iQ iQ.length):iQ.find? (jW code)=none:=
 List.find?_eq_none.2 (fun x hx=>by have:=hn.all (Nat.le_refl _) x hx;simpa [jW] using this)
theorem L5 {code:Int} (hn:cN (fun r:nR=>r.code=code) jK jK.length):jK.find? (jW code)=none:=
 List.find?_eq_none.2 (fun x hx=>by have:=hn.all (Nat.le_refl _) x hx;simpa [jW] using this)
theorem Ug {code:Int} {k:Nat} {r:nR} (h1:cN (fun r:nR=>r.code=code) iQ iQ.length) (hx:jK[k]?=some r) (hc:r.code=code) (hn:cN (fun r=>r.code=code) jK k):ta code=some r:=by
 unfold ta;rw [BY h1];simp only;rw [vo hx (by simpa [jW] using hc) (fun j y hj hy=>by simpa [jW] using hn j y hj hy)]
theorem O1 {code:Int} (h1:cN (fun r:nR=>r.code=code) iQ iQ.length) (h2:cN (fun r:nR=>r.code=code) jK jK.length):ta code=gK code:=by
 unfold ta;rw [BY h1];simp only;rw [L5 h2]
theorem A1 {code:Int} {p:Int×Int×Int} (h:sr code=some p):gK code=some (lQ code p.1 p.2.1 p.2.2):=by unfold gK;rw [h];rfl
theorem A2 {code:Int} (h:sr code=none):gK code=none:=by unfold gK;rw [h];rfl
theorem xW {l:List UInt8} {k:Nat} {x:UInt8} (h:l[k]?=some x):gJ (l.take (k+1))=gJ (l.take k)++[if x=108 then 126 else 127]:=by
 rw [←bn h];simp [gJ]
theorem mj {l:List UInt8} {k:Nat} {x:UInt8} (h:l[k]?=some x) (hc:(x.toNat:Int)=108):gJ (l.take (k+1))=gJ (l.take k)++[126]:=by
 have:x=108:=UInt8.toNat_inj.1 (by simp;omega)
 rw [xW h,if_pos this]
theorem mo {l:List UInt8} {k:Nat} {x:UInt8} (h:l[k]?=some x) (hc:¬(x.toNat:Int)=108):gJ (l.take (k+1))=gJ (l.take k)++[127]:=by
 have:¬x=108:=fun e=>hc (by subst e;rfl)
 rw [xW h,if_neg this]
theorem Aa (l:List UInt8):(gJ l).length=l.length:=by simp [gJ]
theorem Fz:∀l:List (List UInt8),l.flatMap jV=l.map cZ
 |[]=>rfl
 |x::l=>by rw [List.flatMap_cons,List.map_cons,Fz l];rfl
theorem mY {l:List (List UInt8)} {j:Nat} (h:j<l.length):(l.flatMap jV)[j]?=some (cZ (l.getD j [])):=by
 rw [Fz,List.getElem?_map,List.getElem?_eq_getElem h,List.getD_eq_getElem?_getD,List.getElem?_eq_getElem h];rfl
theorem FD (b:Int):(mS b).length=4:=by unfold mS;split<;>rfl
theorem FE:∀s∈L2,s.length≤10:=by decide
theorem BZ:∀s∈BX,s.length≤10:=by decide
theorem Df:∀s∈Rp,s.length≤10:=by decide
theorem vt {l:List (List UInt8)} (h:∀s∈l,s.length≤10) (j:Nat):(l.getD j []).length≤10:=by
 rw [List.getD_eq_getElem?_getD]
 cases hj:l[j]? with
 |none=>simp
 |some s=>exact h s (List.mem_of_getElem? hj)
end Go.Hl
namespace Go.Hl
theorem Rs {code:Int} {x:pR} (h:eL code=some x):x.Name≠[46]∧x.Name.length≤20:=by
 unfold eL at h
 cases hr:ta code with
 |none=>rw [hr] at h;cases h
 | some r=>
  rw [hr] at h;cases h
  show r.name≠[46]∧r.name.length≤20
  have h1:∀r∈iQ,r.name≠[46]∧r.name.length≤20:=by decide
  have h2:∀r∈jK,r.name≠[46]∧r.name.length≤20:=by decide
  unfold ta at hr
  split at hr
  · rename_i r' hf;cases hr;exact h1 _ (List.mem_of_find?_eq_some hf)
  · split at hr
    · rename_i r' hf;cases hr;exact h2 _ (List.mem_of_find?_eq_some hf)
    · unfold gK at hr
      cases hn:sr code with
      |none=>rw [hn] at hr;cases hr
      | some p=>
       rw [hn] at hr;cases hr
       have hk:=FD p.2.2
       have key:∀(T:List (List UInt8)),(∀s∈T,s.length≤10)→mS p.2.2++T.getD p.2.1.toNat []≠[46]∧(mS p.2.2++T.getD p.2.1.toNat []).length≤20:=fun T hT=>by
        have hl:=vt hT p.2.1.toNat
        refine ⟨fun e=> ?_,by rw [List.length_append];omega⟩
        have:=congrArg List.length e
        rw [List.length_append] at this
        simp at this;omega
       unfold lQ
       dsimp only
       split
       · exact key _ FE
       split
       · exact key _ BZ
       split
       · exact key _ Df
       · exact key _ Df
theorem xX {code:Int} (h:eL code=none):lR code=none:=by unfold lR;rw [h]
theorem FG {code:Int} {x:pR} (h:eL code=some x) (hf:x.Form≠8):lR code=none:=by unfold lR;rw [h];simp [hf]
theorem IF {code:Int} {x:pR} (h:eL code=some x) (hf:x.Form=8):lR code=some (wX x.Name):=by unfold lR;rw [h];simp [hf]
theorem L6 {name s:List UInt8} {k:Nat} (hs:iR[k]?=some s) (hc:mF (z8 name) s) (hn:cN (fun s=>mF (z8 name) s) iR k):wX name=2^k:=by
 unfold wX
 match k,hs with
 |0,hs=>cases hs;rw [if_pos hc];rfl
 |1,hs=>cases hs;rw [if_neg (hn 0 _ (by omega) rfl),if_pos hc];rfl
 |2,hs=>cases hs;rw [if_neg (hn 0 _ (by omega) rfl),if_neg (hn 1 _ (by omega) rfl),if_pos hc];rfl
theorem B1 {name:List UInt8} (hn:cN (fun s=>mF (z8 name) s) iR iR.length):wX name=if wj name [105,54,52] then 8 else 4:=by
 unfold wX
 rw [if_neg (hn 0 _ (by decide) rfl),if_neg (hn 1 _ (by decide) rfl),if_neg (hn 2 _ (by decide) rfl)]
theorem L7:z6.length=197:=by decide+kernel
theorem al5:∀{k:Nat},k<3→IntKind.i64.wrap (1*2^k)=(2:Int)^k
 |0,_=>rfl
 |1,_=>rfl
 |2,_=>rfl
 |k+3,h=>by omega
end Go.Hl
end
section
namespace Go.Hl
def B2 (c:Int):Prop:=(lR c=if 0<gW c then some (gW c) else none)∧(su c↔vr c)∧
 match eL c with
 |none=>ji c=[]
 |some x=>x.Code=c∧x.Name=ji c∧ji c≠[]∧x.Form=aU c∧x.vm=(aN c).1∧x.tC=(aN c).2∧¬su c
instance (c:Int):Decidable (B2 c):=by unfold B2;cases eL c<;>infer_instance
theorem Rt:∀c:Fin 256,B2 (c.val:Int):=by decide+kernel
theorem Ru:∀c:Fin 18,B2 ((c.val:Int)+64512):=by decide+kernel
variable {c:Int}
theorem FH (h:c<0∨196<c∧c<64522∨64523<c):eL c=none:=by
 have h1:∀r∈iQ,0≤r.code∧r.code≤196:=by decide
 have h2:∀r∈jK,0≤r.code∧r.code≤196∨64522≤r.code∧r.code≤64523:=by decide
 have h3:∀s∈gH,0≤s.first∧s.first+s.many≤197:=by decide
 unfold eL ta gK sr
 rw [List.find?_eq_none.2 (fun r hr=>by have:=h1 r hr;simp [jW];omega)]
 simp only
 rw [List.find?_eq_none.2 (fun r hr=>by have:=h2 r hr;simp [jW];omega)]
 simp only
 rw [List.find?_eq_none.2 (fun s hs=>by have:=h3 s hs;simp [o4];omega)]
 rfl
theorem O2 (h:c<0∨255<c∧c<64512∨64529<c):B2 c:=by
 have hf:eL c=none:=FH (by omega)
 have h4:∀r∈z7,0≤r.1∧r.2≤255∨64512≤r.1∧r.2≤64529:=by decide
 have hno:¬su c:=fun ⟨r,hr,hc⟩=>by have:=h4 r hr;omega
 have WU:¬vr c:=by unfold vr;omega
 have hw:gW c=0:=by unfold gW;repeat rw [if_neg (by omega)]
 refine ⟨?_,⟨fun h=>(hno h).elim,fun h=>(WU h).elim⟩, ?_⟩
 · rw [xX hf,hw];rfl
 · rw [hf]
   show ji c=[]
   unfold ji
   rw [if_neg (by omega),if_neg (by omega)]
   by_cases h0:c<0∨196<c
   · rw [if_pos h0]
   · omega
theorem Ab (c:Int):B2 c:=by
 by_cases h1:0≤c∧c<256
 · have:=Rt ⟨c.toNat,by omega⟩
   rwa [show ((⟨c.toNat,by omega⟩:Fin 256).val:Int)=c by simp;omega] at this
 by_cases h2:64512≤c∧c<64530
 · have:=Ru ⟨(c-64512).toNat,by omega⟩
   rwa [show ((⟨(c-64512).toNat,by omega⟩:Fin 18).val:Int)+64512=c by simp;omega] at this
 · exact O2 (by omega)
theorem qF (h:eL c=none):ji c=[]:=by have:=(Ab c).2.2;rw [h] at this;exact this
theorem mZ {x:pR} (h:eL c=some x):x.Code=c∧x.Name=ji c∧ji c≠[]∧x.Form=aU c∧x.vm=(aN c).1∧x.tC=(aN c).2∧¬su c:=by
 have:=(Ab c).2.2;rw [h] at this;exact this
theorem O3:(eL c).isSome↔ji c≠[]:=by
 cases h:eL c with
 |none=>simp [qF h]
 |some x=>simp [(mZ h).2.2.1]
theorem L8 (c:Int):(lR c).getD 0=gW c∧((lR c).isSome↔0<gW c):=by
 rw [(Ab c).1]
 have h0:0≤gW c:=by unfold gW;repeat (first|split|omega)
 split
 · rename_i h;simp [h]
 · rename_i h;simp;omega
theorem O4 {α:Type} {P:α→Prop} {c:Prop} [Decidable c] {a b:α} (ha:P a) (hb:P b):P (if c then a else b):=by split<;>assumption
theorem jG (c:Int):(aN c).1.length≤3∧(aN c).2.length≤3:=by
 suffices h:(fun p:List UInt8×List UInt8=>p.1.length≤3∧p.2.length≤3) (aN c) from h
 unfold aN
 iterate 14 refine O4 (P:=fun p:List UInt8×List UInt8=>p.1.length≤3∧p.2.length≤3) ⟨by simp,by simp⟩ ?_
 exact ⟨by simp,by simp⟩
end Go.Hl
end
section
namespace Go.Hl
structure om where
 ay:List oa
 bR:List oa
 bN:List Prop
 an:List UInt8
 fD:List Prop
 Table:Prop
 cS:oa
 aV:List UInt8
open Classical
noncomputable def pS (s:dw) (i o:List UInt8):Option dw:=(cQ s i).map (bC · o)
noncomputable def bS (w:Prop):UInt8:=if w then 126 else 127
def jj (labs:List (List UInt8)) (n:Int):Option (List UInt8):=if n<(labs.length:Int)∧0≤n then labs[labs.length-1-n.toNat]? else none
def ec {α:Type} (l:List α) (n:Int):Option α:=if n<(l.length:Int)∧0≤n then l[n.toNat]? else none
noncomputable def rz (v:om) (x:aA) (s:dw):Option dw:=
 (ec v.bN x.A).bind fun wa=>
 (if aU x.Code=10 then ec v.bN x.B else some wa).bind fun wb=>
 if aU x.Code=8 then
  if (¬wa∧4294967295<x.B)∨gW x.Code<2^x.dz.toNat then none
  else pS s (bS wa::(aN x.Code).1.tail) (aN x.Code).2
 else if x.Code=63 then pS s (aN x.Code).1 [bS wa]
 else if x.Code=64 then pS s [bS wa] [bS wa]
 else if x.Code=64523 then pS s [bS wa,127,bS wa] (aN x.Code).2
 else pS s [bS wa,bS wb,bS (wa∧wb)] (aN x.Code).2
noncomputable def ia (v:om) (x:aA) (s:dw) (labs:List (List UInt8)):Option dw:=
 if x.Code=0 then some eO
 else if x.Code=12 then (jj labs x.A).bind fun w=>(cQ s w).map fun _=>eO
 else if x.Code=13 then (jj labs x.A).bind fun w=>pS s (w++[127]) w
 else if x.Code=14 then (jj labs x.A).bind fun w=>if ∀n∈x.L,jj labs n=some w then (cQ s (w++[127])).map fun _=>eO else none
 else if x.Code=15 then (cQ s v.cS.R).map fun _=>eO
 else if x.Code=16 then (ec v.ay x.A).bind fun g=>pS s g.P g.R
 else if x.Code=17 then (ec v.bR x.A).bind fun g=>if x.B=0∧v.Table then pS s (g.P++[127]) g.R else none
 else if x.Code=26 then (jh s 0).map Prod.fst
 else if x.Code=27 then (cQ s [127]).bind fun s=>(jh s 0).bind fun p=>(jh p.1 p.2).map fun p=>bC p.1 [p.2]
 else if x.Code=32 then (ec v.aV x.A).map fun t=>bC s [t]
 else if x.Code=33 then (ec v.aV x.A).bind fun t=>cQ s [t]
 else if x.Code=34 then (ec v.aV x.A).bind fun t=>pS s [t] [t]
 else if x.Code=35 then (ec v.an x.A).map fun t=>bC s [t]
 else if x.Code=36 then (ec v.an x.A).bind fun t=>(ec v.fD x.A).bind fun m=>if m then cQ s [t] else none
 else if aU x.Code<8∨10<aU x.Code then pS s (aN x.Code).1 (aN x.Code).2
 else rz v x s
end Go.Hl
end
section
namespace Go.Hl
def fK (n:Nat):Nat:=if n<128 then 1 else fK (n/128)+1
termination_by n
decreasing_by omega
def lu (n:Int):Nat:=if-64≤n∧n<64 then 1 else lu (n/128)+1
termination_by n.natAbs
decreasing_by omega
theorem FI (n:Int):0<lu n:=by unfold lu;split<;>omega
variable {n:Nat}
theorem vu (h:n<128):fK n=1:=by unfold fK;simp [h]
theorem yH (h:128≤n):fK n=fK (n/128)+1:=by rw [fK];simp [Nat.not_lt.2 h]
theorem vv {n:Int} (h: -64≤n∧n<64):lu n=1:=by unfold lu;simp [h]
theorem Ac {n:Int} (h:¬(-64≤n∧n<64)):lu n=lu (n/128)+1:=by rw [lu];simp [h]
theorem Rv:∀(k n:Nat),n<128^(k+1)→fK n≤k+1:=by
 intro k
 induction k with
 |zero=>intro n h;rw [vu (by simpa using h)];omega
 |succ k ih=>
  intro n h
  by_cases h1:n<128
  · rw [vu h1];omega
  · rw [yH (by omega)]
    have:=ih (n/128) (by rw [Nat.div_lt_iff_lt_mul (by omega)];rw [←Nat.pow_succ];exact h)
    omega
theorem dF (h:n<18446744073709551616):fK n≤10:=Rv 9 n (Nat.lt_of_lt_of_le h (by decide))
theorem Rw:∀(k:Nat) (n:Int),-(64*128^k:Int)≤n→n<64*128^k→lu n≤k+1:=by
 intro k
 induction k with
 |zero=>intro n h1 h2;rw [vv (by omega)];omega
 |succ k ih=>
  intro n h1 h2
  by_cases h: -64≤n∧n<64
  · rw [vv h];omega
  · rw [Ac h]
    have e:(64*128^(k+1):Int)=(64*128^k)*128:=by rw [Int.pow_succ];omega
    rw [e] at h1 h2
    have:=ih (n/128) (by omega) (by omega)
    omega
theorem yI {n:Int} (h1: -9223372036854775808≤n) (h2:n<9223372036854775808):lu n≤10:=Rw 9 n (by omega) (by omega)
def Nq (m:Nat):Nat:=if m=0 then 0 else Nat.log2 m+1
theorem Rx (m:Nat) (h:128≤m):Nq m=Nq (m/128)+7:=by
 have h0:m/128≠0:=by omega
 simp only [Nq,h0,if_false,show m≠0 by omega]
 have e:m/128=m/2/2/2/2/2/2/2:=by simp [Nat.div_div_eq_div_mul]
 have l:∀k:Nat,2≤k→Nat.log2 k=Nat.log2 (k/2)+1:=fun k hk=>by rw [Nat.log2_def];simp [hk]
 rw [e,l m (by omega),l (m/2) (by omega),l (m/2/2) (by omega),l (m/2/2/2) (by omega),l (m/2/2/2/2) (by omega),l (m/2/2/2/2/2) (by omega),l (m/2/2/2/2/2/2) (by omega)]
variable {k:Nat}
theorem IG {m:Nat} (h:m<2^k):Nq m≤k:=by
 unfold Nq;split
 · omega
 · rename_i h0;have:=(Nat.log2_lt h0).2 h;omega
theorem Uh {m:Nat} (h:2^k≤m):k<Nq m:=by
 unfold Nq
 have h0:m≠0:=by have:=Nat.two_pow_pos k;omega
 rw [if_neg h0]
 have:=(Nat.le_log2 h0).2 h;omega
theorem L9:∀(k:Nat) (n:Int),n.natAbs≤k→lu n=(Nq (if n<0 then (-n-1).toNat else n.toNat)+7)/7:=by
  intro k
  induction k with
  | zero => intro n h;have:n=0:=by omega
            subst this;rw [vv (by omega)];simp [Nq]
  | succ k ih=>
    intro n h
    generalize hm:(if n<0 then (-n-1).toNat else n.toNat)=m
    by_cases h1: -64≤n∧n<64
    · rw [vv h1];have:=IG (m:=m) (k:=6) (by split at hm<;>omega);omega
    · rw [Ac h1,ih (n/128) (by omega)]
      have e:(if n/128<0 then (-(n/128)-1).toNat else (n/128).toNat)=m/128:=by split at hm<;>split<;>omega
      rw [e]
      by_cases h2:128≤m
      · rw [Rx m h2];omega
      · have h3:m/128=0:=by omega
        have a:=IG (m:=m) (k:=7) (by omega)
        have b:=Uh (m:=m) (k:=6) (by split at hm<;>omega)
        rw [h3];simp only [Nq,if_true]
        simp only [Nq] at a b
        omega
def uh (n:Int):Prop:=n≤4294967295
def iJ (x:aA):Prop:=
 ji x.Code≠[]∧¬(aU x.Code≠11∧¬uh x.A∨x.Code=65∧¬uh x.A∨aU x.Code≠8∧¬uh x.B)∧
 ¬(aU x.Code=0∧x.A≠0∨aU x.Code=1∧x.A≠64∧x.A≠126∧x.A≠127)∧
 ¬(aU x.Code≠5∧aU x.Code≠8∧aU x.Code≠10∧x.B≠0∨aU x.Code≠8∧x.dz≠0∨x.dz<0∨31<x.dz)∧
 (∀n∈x.L,uh n)∧(x.L=[]∨aU x.Code=3∧x.L.length≤100)
def bG (n:Int):Nat:=fK n.toNat
def nS (x:aA):Nat:=
 (if 64512≤x.Code then 1+bG (x.Code-64512) else 1)+
 (if aU x.Code=1 then 1
  else if aU x.Code=2∨aU x.Code=4∨aU x.Code=6∨aU x.Code=7∨aU x.Code=9 then bG x.A
  else if aU x.Code=3 then fK x.L.length+(x.L.map bG).sum+bG x.A
  else if aU x.Code=5∨aU x.Code=10 then bG x.A+bG x.B
  else if aU x.Code=8 then (if x.A=0 then bG x.dz else bG (x.dz+64)+bG x.A)+bG x.B
  else if aU x.Code=11 then lu (if x.Code=65 then (if x.A<2147483648 then x.A else x.A-4294967296) else (if x.A<9223372036854775808 then x.A else x.A-18446744073709551616))
  else 0)
def gO:List UInt8→List Nat
 |[]=>[]
 |t::l=>match l,gO l with
  |t'::_,n::r=>if t'=t then (n+1)::r else 1::n::r
  |_,_=>[1]
def Ma (b:kr):Nat:=fK (gO b.aV).length+((gO b.aV).map fun n=>fK n+1).sum+(b.L.map nS).sum
def oF (b:kr):Prop:=
 (∀x∈b.L,iJ x)∧(∀t∈b.aV,t=126∨t=127)∧b.aV.length≤50∧eZ (b.L.map (·.Code)) []∧Ma b≤4096
def cv (m:aR) (n:Int):oa:=(m.bR[n.toNat]?).getD ⟨[],[]⟩
def cC (m:aR) (f:cU):om where
 ay:=m.aH.map (fun i=>cv m i.iA)++m.ay.map (fun g=>cv m g.iA)
 bR:=m.bR
 bN:=m.bp.map (·.bN)
 an:=m.an.map (·.Ty)
 fD:=m.an.map (·.fD)
 Table:=0≤m.Table
 cS:=cv m f.iA
 aV:=(cv m f.iA).P++f.Body.aV
def eD (x:aA):List UInt8:=if x.A=64 then [] else [UInt8.ofNat x.A.toNat]
noncomputable def jk (m:aR) (f:cU):Option (List Nat):=
 og (·.Code) eD (ia (cC m f)) f.Body.L [eH.mk False False (cv m f.iA).R ([],False)]
def qG (m:aR) (f:cU):Prop:=oF f.Body∧∃hs,jk m f=some hs
def lS (m:aR):Prop:=dK m∧∀f∈m.ay,qG m f
theorem Dg {m:aR} {f:cU} (h:oF f.Body) (hk:f.Body.L.length<k):
    jk m f=(jR (·.Code) eD (ia (cC m f)) k f.Body.L [(cv m f.iA).R] (cv m f.iA).R ([],False) 0).map Prod.fst:=
  L1 _ _ _ hk ((wV (by simpa using hk)).1 h.2.2.2.1)
end Go.Hl
end
section
namespace Go.Hl
open Go.RowKit
structure Mb where
 loop:Prop
 is:Prop
 res:List UInt8
 h:Nat
 dead:Prop
def kX (b:Mb):List VP:=[aq b.loop,aq b.is,ai 1 aj b.res,ag .i64 (b.h:Int),aq b.dead]
instance:hU 5 kX:=⟨fun _=>rfl,fun x q h=>by simp only [kX,List.mem_cons,List.not_mem_nil,or_false] at h;rcases h with h|h|h|h|h<;>rw [h]<;>infer_instance⟩
instance (x:Mb):bE (kX x):=bE.of x
def mq (h:Nat) (k:eH) (s:dw):Mb:=⟨k.loop,k.is,k.res,h,s.2⟩
def de (fs:List eH):List UInt8:=fs.flatMap (·.st.1)
def A3:Nat→List eH→List Mb
 |_,[]=>[]
 |h,k::fs=>mq h k k.st::A3 (h+k.st.1.length) fs
abbrev jS (fs:List eH):List Mb:=A3 0 fs
theorem B3 (k:eH):∀(fs:List eH) (h:Nat),A3 h (fs++[k])=A3 h fs++[mq (h+sq fs) k k.st]
 |[],h=>by simp [A3,sq]
 |k'::fs,h=>by simp [A3,B3 k fs,sq,Nat.add_assoc]
theorem FJ:∀(fs:List eH) (h:Nat),(A3 h fs).length=fs.length
 |[],_=>rfl
 |_::fs,h=>by simp [A3,FJ fs]
theorem Ad (fs:List eH):(de fs).length=sq fs:=by
 induction fs with
 |nil=>rfl
 |cons k fs ih=>simp only [de,List.flatMap_cons,List.length_append] at ih ⊢;rw [ih];simp [sq]
theorem iE (fs:List eH) (k:eH):de (fs++[k])=de fs++k.st.1:=by simp [de]
theorem lU (fs:List eH) (k:eH):jS (fs++[k])=jS fs++[mq (de fs).length k k.st]:=by rw [jS,B3,Nat.zero_add,Ad]
open Classical in
noncomputable def A4 (b:Mb):List UInt8:=if b.loop then [] else b.res
theorem FK:∀(fs:List eH) (h:Nat),(A3 h fs).map A4=fs.map sn
 |[],_=>rfl
 |k::fs,h=>by simp only [A3,List.map_cons,FK fs];rfl
abbrev Ko (cb:Nat) (m:aR) (f:cU) (gs:SB) (ns:Nat) (gb:SB) (nb:Nat):HP:=az cb [cr (br m),ai 1 aj (cC m f).aV,ai 1 aj (cv m f.iA).P,ai 1 aj (cv m f.iA).R,aa (bq gs ns),aa (bq gb nb)]
abbrev O5 (cb:Nat) (m:aR) (f:cU) (gs gb:SB) (st:List UInt8) (B:List Mb):List HP:=[Ko cb m f gs st.length gb B.length,au gs 1 aj st,au gb 5 kX B]
abbrev Ae (cb:Nat) (m:aR) (f:cU) (gs:SB) (bb bc:Nat) (S0:List UInt8) (B:List Mb) (k:eH) (s:dw):List HP:=O5 cb m f gs (some (bb,bc)) (S0++s.1) (B++[mq S0.length k s])
variable {w:UInt8} {d:Prop}
theorem Kq (h:d):jh ([],d) w=some (([],d),w):=by simp [jh,h]
theorem Af (h:¬d):jh ([],d) w=none:=by simp [jh,h]
variable {l:List UInt8}
theorem Ag {g:UInt8} (h:g=w∨g=0∨w=0):jh (l++[g],d) w=some ((l,d),if g=0 then w else g):=by
 simp [jh,h]
theorem xY {g:UInt8} (h:¬(g=w∨g=0∨w=0)):jh (l++[g],d) w=none:=by
 simp only [jh,List.getLast?_append,List.getLast?_singleton,Option.some_or]
 rw [if_neg h]
theorem oG (a:UInt8):(a.toNat:Int)=0↔a=0:=by
 rw [←UInt8.toNat_inj];simp
variable {α:Type}
theorem vw {l:List α} (h:l≠[]):∃m x,l=m++[x]:=⟨l.dropLast,l.getLast h,(List.dropLast_concat_getLast h).symm⟩
theorem FL (s:dw) (a b:List UInt8):De s (a++b)=(De s a).bind fun s=>De s b:=by
 induction a generalizing s with
 |nil=>rfl
 |cons t a ih=>
  simp only [List.cons_append,De]
  cases jh s t with
  |none=>rfl
  |some p=>simp only [Option.bind_some];exact ih _
theorem Ry (s:dw) (a b:List UInt8):cQ s (a++b)=(cQ s b).bind fun s=>cQ s a:=by
 unfold cQ;rw [List.reverse_append,FL]
theorem gq (s:dw) (t:UInt8):cQ s [t]=(jh s t).map Prod.fst:=by
 simp only [cQ,List.reverse_cons,List.reverse_nil,List.nil_append,De]
 cases jh s t<;>rfl
theorem jl (s:dw) (l:List UInt8) (t:UInt8):cQ s (l++[t])=(jh s t).bind fun p=>cQ p.1 l:=by
 rw [Ry,gq];cases jh s t<;>rfl
variable {s:dw}
theorem O6 {i:Nat} {t:UInt8} (h:l[i]?=some t):cQ s (l.take (i+1))=(jh s t).bind fun p=>cQ p.1 (l.take i):=by
 rw [←bn h,jl]
theorem pT (s:dw) (l:List UInt8):(bC s l).1.length=s.1.length+l.length:=by simp [bC]
theorem nT {p:dw×UInt8} (h:jh s w=some p):p.1.1.length≤s.1.length:=by
 unfold jh at h
 split at h
 · split at h
   · cases h;exact Nat.le_refl _
   · cases h
 · split at h
   · cases h;simp
   · cases h
theorem Kr:∀(l:List UInt8) {s s':dw},De s l=some s'→s'.1.length≤s.1.length
 |[],s,s',h=>by cases h;exact Nat.le_refl _
 |t::l,s,s',h=>by
  simp only [De] at h
  cases h1:jh s t with
  |none=>rw [h1] at h;cases h
  |some p=>rw [h1] at h;exact Nat.le_trans (Kr l h) (nT h1)
theorem uj {s':dw} (h:cQ s l=some s'):s'.1.length≤s.1.length:=Kr _ h
variable {n:Int}
theorem FN {L:List (List UInt8)} (h0:0≤n) (h:n<(L.length:Int)):∃w,jj L n=some w∧L[L.length-1-n.toNat]?=some w:=by
 have:L.length-1-n.toNat<L.length:=by omega
 exact ⟨L[L.length-1-n.toNat],by unfold jj;rw [if_pos ⟨h,h0⟩];exact List.getElem?_eq_getElem this,List.getElem?_eq_getElem this⟩
theorem B4 {L:List (List UInt8)} (h:¬n<(L.length:Int)):jj L n=none:=by unfold jj;rw [if_neg (fun e=>h e.1)]
variable {L:List α}
theorem vz (h0:0≤n) (h:n<(L.length:Int)):∃w,ec L n=some w∧L[n.toNat]?=some w:=by
 have:n.toNat<L.length:=by omega
 exact ⟨L[n.toNat],by unfold ec;rw [if_pos ⟨h,h0⟩];exact List.getElem?_eq_getElem this,List.getElem?_eq_getElem this⟩
theorem vA (h:¬n<(L.length:Int)):ec L n=none:=by unfold ec;rw [if_neg (fun e=>h e.1)]
theorem O7 {w:α} (h:ec L n=some w):0≤n∧n<(L.length:Int)∧L[n.toNat]?=some w:=by
 unfold ec at h
 split at h
 · rename_i hc;exact ⟨hc.2,hc.1,h⟩
 · cases h
def A5 (res:List UInt8) (s:dw):Prop:=∃s',cQ s res=some s'∧s'.1=[]
theorem II {x:UInt8}:(((x.toNat:Int)=(w.toNat:Int)∨(x.toNat:Int)=0)∨(w.toNat:Int)=0)↔(x=w∨x=0∨w=0):=by
 rw [BQ,oG,oG,or_assoc]
theorem yJ (a b:List α):a<+:a++b:=List.prefix_append a b
theorem Ks (h:0≤n):IntKind.u8.wrap n=((UInt8.ofNat n.toNat).toNat:Int):=by
 unfold IntKind.wrap
 simp [IntKind.signed,IntKind.bits]
 omega
theorem wY:af (aa (.bool false)) (aq False):=fun S w v h=>⟨false,h,by simp⟩
structure Ah (m:aR) (f:cU):Prop where
 fits:dK m
 lo:(cC m f).aV.length≤60000
 own:cv m f.iA∈m.bR
structure Ai (x:aA):Prop where
 A0:0≤x.A
 ym:x.A<18446744073709551616
 B0:0≤x.B
 B64:x.B<18446744073709551616
 L0:∀n∈x.L,0≤n
 Ln:x.L.length≤60000
structure mT (x:aA):Prop extends Ai x where
 A16:x.Code=16→x.A≤4294967295
 a0:0≤x.dz
 a31:x.dz≤31
variable {m:aR}
theorem dK.tu (h:dK m):∀g∈m.bR,g.P.length≤20∧g.R.length≤20:=fun g hg=>by
 have h1:=eX.1 (bI.1 h.sigs).2 g hg
 have h2:CQ g:=Classical.not_not.1 ((cF (by decide)).1 h1)
 exact ⟨h2.1.1,h2.2.1⟩
theorem dK.lens (h:dK m):m.bR.length≤50∧m.aH.length≤20∧m.bp.length≤4∧m.an.length≤50∧cG m≤100:=by
 have h1:=(bI.1 h.sigs).1
 have h2:=(bI.1 h.imports).1
 have h3:=(bI.1 h.dR).1
 have h4:=(bI.1 h.globals).1
 have h5:=h.funcs
 unfold kW at h5
 split at h5
 · cases h5
 · exact ⟨by omega,by omega,by omega,by omega,by omega⟩
theorem kE (h:jt n m.bR.length):m.bR[n.toNat]?=some (cv m n)∧cv m n∈m.bR:=by
 obtain ⟨h1,h2⟩:=h.at
 have:m.bR[n.toNat]?=some (cv m n):=by unfold cv;rw [List.getElem?_eq_getElem h1];rfl
 exact ⟨this,List.mem_of_getElem? this⟩
theorem FO {s:oa} (h:m.bR[n.toNat]?=some s):cv m n=s:=by unfold cv;rw [h];rfl
theorem sZ {f:cU} (h:dK m):ec (cC m f).ay n=iU m n:=by
 have h1:∀z∈m.aH,gj m z=0:=eX.1 (bI.1 h.imports).2
 have h2:∀z∈m.ay,rW m z=0:=qz h.funcs
 have hlen:(cC m f).ay.length=m.aH.length+m.ay.length:=by simp [cC]
 by_cases hc:jt n (cG m)
 · obtain ⟨s,hs⟩:=wK hc h1 h2
   rw [hs]
   have Tr:=hc
   unfold jt cG at Tr
   unfold ec
   rw [if_pos (by rw [hlen];omega)]
   by_cases hl:n<(m.aH.length:Int)
   · obtain ⟨x,hx,hx2,_,_⟩:=zJ hs hl
     show (m.aH.map (fun i=>cv m i.iA)++m.ay.map (fun g=>cv m g.iA))[n.toNat]?=some s
     rw [List.getElem?_append_left (by simp;omega),List.getElem?_map,hx]
     exact congrArg some (FO hx2)
   · obtain ⟨x,hx,hx2,_,_,_⟩:=EV hs hl
     show (m.aH.map (fun i=>cv m i.iA)++m.ay.map (fun g=>cv m g.iA))[n.toNat]?=some s
     rw [List.getElem?_append_right (by simp;omega),List.getElem?_map,List.length_map]
     rw [show n.toNat-m.aH.length=(n-(m.aH.length:Int)).toNat by omega,hx]
     exact congrArg some (FO hx2)
 · have hno:¬(iU m n).isSome=true:=fun e=>hc ((Kd h1 h2).1 e)
   have:iU m n=none:=by simpa using hno
   rw [this]
   unfold ec
   rw [if_neg (by rw [hlen];unfold jt cG at hc;omega)]
theorem bV {β:Type} {g:α→β}:ec (L.map g) n=(ec L n).map g:=by
 unfold ec
 rw [List.length_map]
 split
 · rw [List.getElem?_map]
 · rfl
theorem gL (fs:List eH) (b:eH) (s:dw):(jS fs++[mq (de fs).length b s]).map A4=(fs++[b]).map sn:=by
 rw [List.map_append,List.map_append,FK];rfl
def Mc (fs:List eH) (st:List UInt8) (B:List Mb):Prop:=B=jS fs∧(fs≠[]→st=de fs)
theorem O8 (fs:List eH) (b:eH) (s:dw):Mc (fs++[{b with st:=s}]) (de fs++s.1) (jS fs++[mq (de fs).length b s]):=
 ⟨by rw [lU];rfl,fun _=>by rw [iE]⟩
theorem Md (s:dw):bC s []=s:=by simp [bC]
theorem oH (s:dw) (i:List UInt8):pS s i []=cQ s i:=by
 unfold pS;cases cQ s i<;>simp [Md]
section
variable {v:om} {x:aA} {s:dw} {labs:List (List UInt8)}
theorem S4 (h:x.Code=0):ia v x s labs=some eO:=by unfold ia;rw [if_pos h]
theorem wZ (h:x.Code=12):ia v x s labs=(jj labs x.A).bind fun w=>(cQ s w).map fun _=>eO:=by unfold ia;rw [if_neg (by omega),if_pos h]
theorem sv (h:x.Code=13):ia v x s labs=(jj labs x.A).bind fun w=>pS s (w++[127]) w:=by unfold ia;rw [if_neg (by omega),if_neg (by omega),if_pos h]
open Classical in
theorem mP (h:x.Code=14):ia v x s labs=(jj labs x.A).bind fun w=>if ∀n∈x.L,jj labs n=some w then (cQ s (w++[127])).map fun _=>eO else none:=by unfold ia;rw [if_neg (by omega),if_neg (by omega),if_neg (by omega),if_pos h]
theorem Dh (h : x.Code = 15) : ia v x s labs = (cQ s v.cS.R).map fun _ => eO := by            unfold ia;iterate 4 rw [if_neg (by omega)]
                                                                                              rw [if_pos h]
theorem Aj (h:x.Code=16):ia v x s labs=(ec v.ay x.A).bind fun g=>pS s g.P g.R:=by
 unfold ia;iterate 5 rw [if_neg (by omega)]
 rw [if_pos h]
open Classical in
theorem w5 (h:x.Code=17):ia v x s labs=(ec v.bR x.A).bind fun g=>if x.B=0∧v.Table then pS s (g.P++[127]) g.R else none:=by
 unfold ia;iterate 6 rw [if_neg (by omega)]
 rw [if_pos h]
theorem IJ (h:x.Code=26):ia v x s labs=(jh s 0).map Prod.fst:=by
 unfold ia;iterate 7 rw [if_neg (by omega)]
 rw [if_pos h]
theorem uk (h:x.Code=27):ia v x s labs=(cQ s [127]).bind fun s=>(jh s 0).bind fun p=>(jh p.1 p.2).map fun p=>bC p.1 [p.2]:=by
 unfold ia;iterate 8 rw [if_neg (by omega)]
 rw [if_pos h]
theorem Di (h:x.Code=32):ia v x s labs=(ec v.aV x.A).map fun t=>bC s [t]:=by
 unfold ia;iterate 9 rw [if_neg (by omega)]
 rw [if_pos h]
theorem Ak (h:x.Code=33):ia v x s labs=(ec v.aV x.A).bind fun t=>cQ s [t]:=by
 unfold ia;iterate 10 rw [if_neg (by omega)]
 rw [if_pos h]
theorem Al (h:x.Code=34):ia v x s labs=(ec v.aV x.A).bind fun t=>pS s [t] [t]:=by
 unfold ia;iterate 11 rw [if_neg (by omega)]
 rw [if_pos h]
theorem Dj (h:x.Code=35):ia v x s labs=(ec v.an x.A).map fun t=>bC s [t]:=by
 unfold ia;iterate 12 rw [if_neg (by omega)]
 rw [if_pos h]
open Classical in
theorem um (h:x.Code=36):ia v x s labs=(ec v.an x.A).bind fun t=>(ec v.fD x.A).bind fun m=>if m then cQ s [t] else none:=by
 unfold ia;iterate 13 rw [if_neg (by omega)]
 rw [if_pos h]
def ee (c:Int):Prop:=32≤c∧c≤36
def cD (c:Int):Prop:=c=16∨c=17∨c=26∨c=27
def fL (c:Int):Prop:=c=0∨c=2∨c=3∨c=4∨c=5∨c=11∨c=12∨c=13∨c=14∨c=15
theorem Am (h1:¬fL x.Code) (h2:¬ee x.Code) (h3:¬cD x.Code) (hf:aU x.Code<8∨10<aU x.Code):ia v x s labs=pS s (aN x.Code).1 (aN x.Code).2:=by
 unfold fL at h1;unfold ee at h2;unfold cD at h3
 unfold ia;iterate 14 rw [if_neg (by omega)]
 rw [if_pos hf]
theorem gu (h1:¬fL x.Code) (h2:¬ee x.Code) (h3:¬cD x.Code) (hf:¬(aU x.Code<8∨10<aU x.Code)):ia v x s labs=rz v x s:=by
 unfold fL at h1;unfold ee at h2;unfold cD at h3
 unfold ia;iterate 14 rw [if_neg (by omega)]
 rw [if_neg hf]
open Classical in
theorem qH (hf:aU x.Code=8):rz v x s=(ec v.bN x.A).bind fun wa=>if (¬wa∧4294967295<x.B)∨gW x.Code<2^x.dz.toNat then none else pS s (bS wa::(aN x.Code).1.tail) (aN x.Code).2:=by
 unfold rz
 refine Option.bind_congr fun wa _=> ?_
 rw [if_neg (by omega),Option.bind_some,if_pos hf]
theorem O9 {c:Int} (h:aU c=9):c=63∨c=64∨c=64523:=by
 unfold aU at h
 repeat' split at h
 all_goals omega
theorem Kt {c:Int} (h:aU c=10):c=64522:=by
 unfold aU at h
 repeat' split at h
 all_goals omega
theorem yK (h:x.Code=63):rz v x s=(ec v.bN x.A).bind fun wa=>some (bC s [bS wa]):=by
 unfold rz
 have hf:aU x.Code=9:=by rw [h];decide
 refine Option.bind_congr fun wa _=> ?_
 rw [if_neg (by omega),Option.bind_some,if_neg (by omega),if_pos h,h];rfl
theorem vB (h:x.Code=64):rz v x s=(ec v.bN x.A).bind fun wa=>pS s [bS wa] [bS wa]:=by
 unfold rz
 have hf:aU x.Code=9:=by rw [h];decide
 refine Option.bind_congr fun wa _=> ?_
 rw [if_neg (by omega),Option.bind_some,if_neg (by omega),if_neg (by omega),if_pos h]
theorem pU (h:x.Code=64523):rz v x s=(ec v.bN x.A).bind fun wa=>cQ s [bS wa,127,bS wa]:=by
 unfold rz
 have hf:aU x.Code=9:=by rw [h];decide
 refine Option.bind_congr fun wa _=> ?_
 rw [if_neg (by omega),Option.bind_some,if_neg (by omega),if_neg (by omega),if_neg (by omega),if_pos h,h]
 exact oH _ _
theorem nk (h:x.Code=64522):rz v x s=(ec v.bN x.A).bind fun wa=>(ec v.bN x.B).bind fun wb=>cQ s [bS wa,bS wb,bS (wa∧wb)]:=by
 unfold rz
 have hf:aU x.Code=10:=by rw [h];decide
 refine Option.bind_congr fun wa _=> ?_
 rw [if_pos hf]
 refine Option.bind_congr fun wb _=> ?_
 rw [if_neg (by omega),if_neg (by omega),if_neg (by omega),if_neg (by omega),h]
 exact oH _ _
end
theorem mw {w:Prop}:((bS w).toNat:Int)=126↔w:=by
 unfold bS;split<;>simp_all
noncomputable abbrev jm (m:aR) (f:cU) (x:aA) (fs:List eH) (b:eH):Option (List eH):=dO (·.Code) eD (ia (cC m f)) x fs b
section
variable {m:aR} {f:cU} {x:aA} {fs:List eH} {b:eH}
theorem An (h11:x.Code≠11) (h5:x.Code≠5) (ho:¬aQ x.Code):jm m f x fs b=(ia (cC m f) x b.st ((fs++[b]).map sn)).map fun s=>fs++[{b with st:=s}]:=by
 unfold jm dO;rw [if_neg h11,if_neg h5,if_neg ho]
open Classical in
theorem uo (ho:aQ x.Code):jm m f x fs b=(if x.Code=4 then cQ b.st [127] else some b.st).map fun s=>fs++[{b with st:=s}]++[⟨x.Code=3,x.Code=4,eD x,([],False)⟩]:=by
 have ho':=ho
 unfold aQ at ho'
 have e1:¬x.Code=11:=by omega
 have e2:¬x.Code=5:=by omega
 unfold jm dO;rw [if_neg e1,if_neg e2,if_pos ho]
theorem IK (h:x.Code=5) (hc:A5 b.res b.st):jm m f x fs b=some (fs++[{b with is:=False,st:=([],False)}]):=by
 have e1:¬x.Code=11:=by omega
 unfold jm dO;rw [if_neg e1,if_pos h,if_pos (show oZ b from hc)]
theorem A6 (h:x.Code=5) (hc:¬A5 b.res b.st):jm m f x fs b=none:=by
 have e1:¬x.Code=11:=by omega
 unfold jm dO;rw [if_neg e1,if_pos h,if_neg (show ¬oZ b from hc)]
theorem Me (h:x.Code=11) (hc:A5 b.res b.st∧(b.is→b.res=[])):jm m f x fs b=some (match fs.getLast? with|none=>[]|some t=>fs.dropLast++[{t with st:=bC t.st b.res}]):=by
 unfold jm dO;rw [if_pos h,if_pos (show oZ b∧(b.is→b.res=[]) from hc)];try rfl
theorem Dk (h:x.Code=11) (hc:¬(A5 b.res b.st∧(b.is→b.res=[]))):jm m f x fs b=none:=by
 unfold jm dO;rw [if_pos h,if_neg (show ¬(oZ b∧(b.is→b.res=[])) from hc)]
theorem Pa (fs:List eH) (r:List UInt8):Mc (match fs.getLast? with|none=>[]|some t=>fs.dropLast++[{t with st:=bC t.st r}]) (de fs++r) (jS fs):=by
 rcases List.eq_nil_or_concat fs with rfl|⟨gs,t,rfl⟩
 · exact ⟨rfl,fun h=>absurd rfl h⟩
 · simp only [List.concat_eq_append,List.getLast?_append,List.getLast?_singleton,Option.some_or,List.dropLast_concat]
   refine ⟨?_,fun _=> ?_⟩
   · rw [lU,lU];first|done|rfl
   · rw [iE,iE];first|done|simp [bC,List.append_assoc]
theorem B5 (fs:List eH) (b:eH) (s:dw) (x:aA):Mc (fs++[{b with st:=s}]++[⟨x.Code=3,x.Code=4,eD x,([],False)⟩]) (de fs++s.1) ((jS fs++[mq (de fs).length b s])++[mq (de fs++s.1).length ⟨x.Code=3,x.Code=4,eD x,([],False)⟩ ([],False)]):=
 ⟨by rw [lU,lU,iE];rfl,fun _=>by rw [iE,iE];simp⟩
theorem Mf (fs:List eH) (b:eH):Mc (fs++[{b with is:=False,st:=([],False)}]) (de fs) (jS fs++[mq (de fs).length ⟨b.loop,False,b.res,([],False)⟩ ([],False)]):=
 ⟨by rw [lU],fun _=>by rw [iE];simp⟩
end
end Go.Hl
end
section
namespace Go.Hl
variable {s:dw} {s':dw}
theorem lY {i o:List UInt8} (h:pS s i o=some s'):s'.1.length≤s.1.length+o.length:=by
 unfold pS at h
 obtain ⟨t,h1,rfl⟩:=Option.map_eq_some_iff.1 h
 rw [pT]
 have:=uj h1
 omega
theorem w6 {w:List UInt8} (h:((cQ s w).map fun _=>eO)=some s'):s'.1.length≤s.1.length:=by
 obtain ⟨t,h1,rfl⟩:=Option.map_eq_some_iff.1 h
 simp [eO]
theorem B6 {L:List (List UInt8)} {n:Int} {w:List UInt8} (h:jj L n=some w):w∈L:=by
 unfold jj at h
 split at h
 · exact List.mem_of_getElem? h
 · cases h
theorem FQ {α:Type} {L:List α} {n:Int} {w:α} (h:ec L n=some w):w∈L:=by
 unfold ec at h
 split at h
 · exact List.mem_of_getElem? h
 · cases h
variable {v:om} {x:aA}
theorem Mg (ht:(aN x.Code).2.length≤20) (h:rz v x s=some s'):s'.1.length≤s.1.length+20:=by
 unfold rz at h
 obtain ⟨wa,_,h⟩:=Option.bind_eq_some_iff.1 h
 obtain ⟨wb,_,h⟩:=Option.bind_eq_some_iff.1 h
 split at h
 · split at h
   · cases h
   · have:=lY h;omega
 split at h
 · have:=lY h;simp only [List.length_cons,List.length_nil] at this;omega
 split at h
 · have:=lY h;simp only [List.length_cons,List.length_nil] at this;omega
 split at h
 · have:=lY h;omega
 · have:=lY h;omega
theorem Pb {labs:List (List UInt8)} (hl:∀w∈labs,w.length≤20) (hF:∀g∈v.ay,g.R.length≤20) (hS:∀g∈v.bR,g.R.length≤20) (ht:(aN x.Code).2.length≤20)
    (h:ia v x s labs=some s'):s'.1.length≤s.1.length+20:=by
  unfold ia at h
  by_cases c0:x.Code=0
  · rw [if_pos c0] at h
    cases h;simp [eO]
  rw [if_neg c0] at h
  by_cases c1:x.Code=12
  · rw [if_pos c1] at h
    obtain ⟨w,hw,h⟩:=Option.bind_eq_some_iff.1 h
    have:=w6 h;omega
  rw [if_neg c1] at h
  by_cases c2:x.Code=13
  · rw [if_pos c2] at h
    obtain ⟨w,hw,h⟩:=Option.bind_eq_some_iff.1 h
    have:=lY h;have:=hl w (B6 hw);omega
  rw [if_neg c2] at h
  by_cases c3:x.Code=14
  · rw [if_pos c3] at h
    obtain ⟨w,hw,h⟩:=Option.bind_eq_some_iff.1 h
    split at h
    · have:=w6 h;omega
    · cases h
  rw [if_neg c3] at h
  by_cases c4:x.Code=15
  · rw [if_pos c4] at h
    have:=w6 h;omega
  rw [if_neg c4] at h
  by_cases c5:x.Code=16
  · rw [if_pos c5] at h
    obtain ⟨g,hg,h⟩:=Option.bind_eq_some_iff.1 h
    have:=lY h;have:=hF g (FQ hg);omega
  rw [if_neg c5] at h
  by_cases c6:x.Code=17
  · rw [if_pos c6] at h
    obtain ⟨g,hg,h⟩:=Option.bind_eq_some_iff.1 h
    split at h
    · have:=lY h;have:=hS g (FQ hg);omega
    · cases h
  rw [if_neg c6] at h
  by_cases c7:x.Code=26
  · rw [if_pos c7] at h
    obtain ⟨p,h1,rfl⟩:=Option.map_eq_some_iff.1 h
    have:=nT h1;omega
  rw [if_neg c7] at h
  by_cases c8:x.Code=27
  · rw [if_pos c8] at h
    obtain ⟨p,h1,h⟩:=Option.bind_eq_some_iff.1 h
    obtain ⟨q,h2,h⟩:=Option.bind_eq_some_iff.1 h
    obtain ⟨r,h3,rfl⟩:=Option.map_eq_some_iff.1 h
    have:=uj h1;have:=nT h2;have:=nT h3
    rw [pT];simp only [List.length_cons,List.length_nil];omega
  rw [if_neg c8] at h
  by_cases c9:x.Code=32
  · rw [if_pos c9] at h
    obtain ⟨t,_,rfl⟩:=Option.map_eq_some_iff.1 h
    rw [pT];simp only [List.length_cons,List.length_nil];omega
  rw [if_neg c9] at h
  by_cases lq:x.Code=33
  · rw [if_pos lq] at h
    obtain ⟨t,_,h⟩:=Option.bind_eq_some_iff.1 h
    have:=uj h;omega
  rw [if_neg lq] at h
  by_cases nc:x.Code=34
  · rw [if_pos nc] at h
    obtain ⟨t,_,h⟩:=Option.bind_eq_some_iff.1 h
    have:=lY h;simp only [List.length_cons,List.length_nil] at this;omega
  rw [if_neg nc] at h
  by_cases o5:x.Code=35
  · rw [if_pos o5] at h
    obtain ⟨t,_,rfl⟩:=Option.map_eq_some_iff.1 h
    rw [pT];simp only [List.length_cons,List.length_nil];omega
  rw [if_neg o5] at h
  by_cases s4:x.Code=36
  · rw [if_pos s4] at h
    obtain ⟨t,_,h⟩:=Option.bind_eq_some_iff.1 h
    obtain ⟨mu,_,h⟩:=Option.bind_eq_some_iff.1 h
    split at h
    · have:=uj h;omega
    · cases h
  rw [if_neg s4] at h
  by_cases q9:aU x.Code<8∨10<aU x.Code
  · rw [if_pos q9] at h
    have:=lY h;omega
  · rw [if_neg q9] at h;exact Mg ht h
def Dl (fs:List eH):Prop:=∀k∈fs,k.res.length≤20
theorem FT {fs:List eH} (h:Dl fs):∀w∈fs.map sn,w.length≤20:=fun w hw=>by
 obtain ⟨k,hk,rfl⟩:=List.mem_map.1 hw
 unfold sn
 split
 · simp
 · exact h k hk
theorem IL {fs fs':List eH} {b:eH} {rr:aA→List UInt8} (hr:(rr x).length≤20) (hb:Dl (fs++[b])) (hF:∀g∈v.ay,g.R.length≤20) (hS:∀g∈v.bR,g.R.length≤20) (ht:(aN x.Code).2.length≤20)
    (h:dO (·.Code) rr (ia v) x fs b=some fs'):Dl fs'∧sq fs'≤sq (fs++[b])+20∧fs'.length≤fs.length+2:=by
  have xz:b.res.length≤20:=hb b (by simp)
  have Ni:Dl fs:=fun k hk=>hb k (by simp [hk])
  rw [iD]
  unfold dO at h
  split at h
  · split at h
    · simp only [Option.some.injEq] at h
      subst h
      rcases List.eq_nil_or_concat fs with rfl|⟨gs,t,rfl⟩
      · exact ⟨fun k hk=>by simp at hk,by simp [sq],by simp⟩
      · simp only [List.concat_eq_append,List.getLast?_append,List.getLast?_singleton,Option.some_or,List.dropLast_concat]
        refine ⟨fun k hk=> ?_, ?_,by simp⟩
        · rcases List.mem_append.1 hk with hk|hk
          · exact Ni k (by simp [hk])
          · simp only [List.mem_singleton] at hk;subst hk;exact Ni t (by simp)
        · rw [iD,iD];simp only [pT];omega
    · cases h
  split at h
  · split at h
    · simp only [Option.some.injEq] at h
      subst h
      refine ⟨fun k hk=> ?_, ?_,by simp⟩
      · rcases List.mem_append.1 hk with hk|hk
        · exact Ni k hk
        · simp only [List.mem_singleton] at hk;subst hk;exact xz
      · rw [iD];simp only [List.length_nil];omega
    · cases h
  split at h
  · obtain ⟨s,h1,rfl⟩:=Option.map_eq_some_iff.1 h
    have hs:s.1.length≤b.st.1.length:=by
      split at h1
      · exact uj h1
      · cases h1;exact Nat.le_refl _
    refine ⟨fun k hk=> ?_, ?_,by simp⟩
    · rcases List.mem_append.1 hk with hk|hk
      · rcases List.mem_append.1 hk with hk|hk
        · exact Ni k hk
        · simp only [List.mem_singleton] at hk;subst hk;exact xz
      · simp only [List.mem_singleton] at hk;subst hk;exact hr
    · rw [iD,iD];simp only [List.length_nil];omega
  · obtain ⟨s,h1,rfl⟩:=Option.map_eq_some_iff.1 h
    have hs:=Pb (FT hb) hF hS ht h1
    refine ⟨fun k hk=> ?_, ?_,by simp⟩
    · rcases List.mem_append.1 hk with hk|hk
      · exact Ni k hk
      · simp only [List.mem_singleton] at hk;subst hk;exact xz
    · rw [iD];simp only;omega
end Go.Hl
end
section
namespace Go.Hl
open Go.RowKit
def mz (x:pR) (g:SB):List VP:=[ag .i64 x.Code,cZ x.Name,ag .i64 x.Form,aa (bq g x.vm.length),ai 1 aj x.tC]
instance (x:pR) (g:SB):bE (mz x g):=⟨fun q h=>by simp only [mz,List.mem_cons,List.not_mem_nil,or_false] at h;rcases h with h|h|h|h|h<;>subst h<;>infer_instance⟩
theorem Ku {c:Int} (h:aU c=8):∃t tl,(aN c).1=t::tl:=by
 have hc:40≤c∧c≤62:=by
  unfold aU at h
  repeat' split at h
  all_goals first|omega|assumption
 unfold aN
 rw [if_neg (by omega)]
 by_cases h1:c=40∨44≤c∧c≤47
 · rw [if_pos h1];exact ⟨_,_,rfl⟩
 rw [if_neg h1]
 by_cases h2:c=41∨48≤c∧c≤53
 · rw [if_pos h2];exact ⟨_,_,rfl⟩
 rw [if_neg h2]
 by_cases h3:(c=54∨c=58)∨c=59
 · rw [if_pos h3];exact ⟨_,_,rfl⟩
 rw [if_neg h3,if_pos hc.2]
 exact ⟨_,_,rfl⟩
theorem Rz {a:Int} (h:a<8):IntKind.i64.wrap (1*2^a.toNat)=2^a.toNat:=by
 have:a.toNat=0∨a.toNat=1∨a.toNat=2∨a.toNat=3∨a.toNat=4∨a.toNat=5∨a.toNat=6∨a.toNat=7:=by omega
 rcases this with h|h|h|h|h|h|h|h<;>rw [h]<;>decide
theorem RA {a:Int} (h:¬a<8):(256:Int)≤2^a.toNat:=by
 have h8:8≤a.toNat:=by omega
 have h9:2^8≤2^a.toNat:=Nat.pow_le_pow_right (by decide) h8
 have:((2^a.toNat:Nat):Int)=2^a.toNat:=by simp
 omega
theorem Mh (c:Int):gW c≤8:=by unfold gW;repeat (first|split|omega)
variable {x:aA}
theorem Ao:(x.dz<8∧2^x.dz.toNat≤(lR x.Code).getD 0)↔¬gW x.Code<2^x.dz.toNat:=by
 rw [(L8 x.Code).1]
 constructor
 · rintro ⟨h1,h2⟩;omega
 · intro h
   refine ⟨Classical.byContradiction fun h8=> ?_,by omega⟩
   have:=RA h8
   have:=Mh x.Code
   omega
abbrev S5:=SB×SB×List UInt8×List Mb
abbrev ckZ (cb:Nat) (m:aR) (f:cU) (z:S5):List HP:=O5 cb m f z.1 z.2.1 z.2.2.1 z.2.2.2
def Kv (m:aR) (f:cU) (x:aA) (fs:List eH) (b:eH) (z:S5):Prop:=∃fs',jm m f x fs b=some fs'∧Mc fs' z.2.2.1 z.2.2.2
variable {fs:List eH}
theorem iF {m:aR} {f:cU} {b:eH} {gs gb:SB} {s:dw} (h11:x.Code≠11) (h5:x.Code≠5) (ho:¬aQ x.Code) (h:ia (cC m f) x b.st ((fs++[b]).map sn)=some s):
    Kv m f x fs b (gs,gb,de fs++s.1,jS fs++[mq (de fs).length b s]):=⟨_,by rw [An h11 h5 ho,h];rfl,O8 fs b s⟩
theorem dV {m:aR} {f:cU} {b:eH} (h11:x.Code≠11) (h5:x.Code≠5) (ho:¬aQ x.Code) (h:ia (cC m f) x b.st ((fs++[b]).map sn)=none):jm m f x fs b=none:=by rw [An h11 h5 ho,h];rfl
theorem RB {n:Int} {w:List UInt8} (h:Dl fs) (hw:jj (fs.map sn) n=some w):w.length≤20:=FT h w (B6 hw)
end Go.Hl
end
section
namespace Go.Hl
def oI (x:aA):Prop:=x.dz=0∧x.L=[]
def mQ (x:aA) (f:Int):Prop:=
 (f=0∧x.A=0∧x.B=0∧oI x)∨(f=1∧(x.A=64∨x.A=127∨x.A=126)∧x.B=0∧oI x)∨
 ((f=2∨f=4∨f=6∨f=7∨f=9)∧uh x.A∧x.B=0∧oI x)∨
 (f=3∧uh x.A∧(∀n∈x.L,uh n)∧x.L.length≤100∧x.B=0∧x.dz=0)∨
 ((f=5∨f=10)∧uh x.A∧uh x.B∧oI x)∨(f=8∧uh x.A∧0≤x.dz∧x.dz≤31∧x.L=[])∨
 (f=11∧(x.Code=66∨uh x.A)∧x.B=0∧oI x)
theorem FV {x:aA} (hA:0≤x.A) (hB:0≤x.B) (hf:0≤aU x.Code∧aU x.Code≤11) (h66:aU x.Code=11→x.Code=65∨x.Code=66) (Mi:x.Code=65→aU x.Code=11):
    iJ x↔ji x.Code≠[]∧mQ x (aU x.Code):=by
  unfold iJ mQ oI
  generalize aU x.Code=f at*
  refine and_congr_right fun _=> ?_
  simp only [uh]
  have hL:x.L=[]→∀n∈x.L,n≤4294967295:=fun e n h=>by rw [e] at h;cases h
  obtain ⟨h0,h1⟩:=hf
  have hc:f=0∨f=1∨f=2∨f=3∨f=4∨f=5∨f=6∨f=7∨f=8∨f=9∨f=10∨f=11:=by omega
  generalize hQ:(∀n∈x.L,n≤4294967295)=Q at*
  generalize hE:(x.L=[])=E at*
  have hlen:E→x.L.length≤100:=fun h=>by rw [←hE] at h;simp [h]
  rcases hc with rfl|rfl|rfl|rfl|rfl|rfl|rfl|rfl|rfl|rfl|rfl|rfl<;>simp at Mi h66 ⊢ <;>(by_cases e:E<;>by_cases q:Q<;>simp [e,q] at hL hlen ⊢)<;>omega
def bz (out:List (Nat×UInt8)) (t:UInt8):List (Nat×UInt8):=
 match out.getLast? with
 |none=>[(1,t)]
 |some p=>if p.2=t then out.dropLast++[(p.1+1,t)] else out++[(1,t)]
theorem qI (o:List (Nat×UInt8)) (n:Nat) (t t':UInt8):bz (o++[(n,t)]) t'=o++bz [(n,t)] t':=by
 simp only [bz,List.getLast?_append,List.getLast?_singleton,Option.some_or]
 split<;>simp_all
theorem Mj (l:List UInt8):∀(o:List (Nat×UInt8)) (n:Nat) (t:UInt8),l.foldl bz (o++[(n,t)])=o++l.foldl bz [(n,t)]:=by
 induction l with
 |nil=>intros;rfl
 |cons a l ih=>
  intro o n t
  simp only [List.foldl_cons,qI]
  by_cases h:t=a
  · subst h
    have e:bz [(n,t)] t=[(n+1,t)]:=by simp [bz]
    rw [e,ih]
  · have e:bz [(n,t)] a=[(n,t)]++[(1,a)]:=by simp [bz,h]
    rw [e,ih [(n,t)] 1 a,←List.append_assoc,ih (o++[(n,t)]) 1 a,List.append_assoc]
theorem Ap (t:UInt8) (l:List UInt8):∃n r,gO (t::l)=(n+1)::r:=by
 simp only [gO]
 split
 · split
   · exact ⟨_,_,rfl⟩
   · exact ⟨0,_,rfl⟩
 · exact ⟨0,[],rfl⟩
theorem Pc (l:List UInt8):∀(n:Nat) (t:UInt8) (k:Nat) (r:List Nat),gO (t::l)=(k+1)::r→(l.foldl bz [(n,t)]).map Prod.fst=(n+k)::r:=by
 induction l with
 |nil=>intro n t k r h;simp [gO] at h;obtain ⟨rfl,rfl⟩:=h;simp
 | cons a l ih=>
  intro n t k r h
  obtain ⟨n2,r2,e2⟩:=Ap a l
  have h':gO (t::a::l)=if a=t then (n2+1+1)::r2 else 1::(n2+1)::r2:=by
   rw [gO];simp only [e2]
  rw [h'] at h
  simp only [List.foldl_cons]
  by_cases e:a=t
  · subst e
    simp only [if_true,List.cons.injEq] at h
    have e3:bz [(n,a)] a=[(n+1,a)]:=by simp [bz]
    rw [e3,ih (n+1) a n2 r2 e2]
    obtain ⟨h1,rfl⟩:=h
    congr 1;omega
  · simp only [e,if_false,List.cons.injEq] at h
    have e3:bz [(n,t)] a=[(n,t)]++[(1,a)]:=by simp [bz,Ne.symm e]
    rw [e3,Mj,List.map_append,ih 1 a n2 r2 e2]
    obtain ⟨h1,rfl⟩:=h
    simp;omega
theorem RC (l:List UInt8):(l.foldl bz []).map Prod.fst=gO l:=by
 cases l with
 |nil=>rfl
 |cons t l=>
  obtain ⟨n,r,e⟩:=Ap t l
  have:bz [] t=[(1,t)]:=rfl
  rw [List.foldl_cons,this,Pc l 1 t n r e,e];congr 1;omega
end Go.Hl
end
section
namespace Go.Hl
open Go.RowKit
theorem WV (n:Int) (h0:0≤n) (h1:n<2^8):IntKind.u8.wrap n=n:=eE (JM h0 (by omega))
section
variable {P:Program} {hs:List HP} {env:Env} {q:VP} {dst:Option Tmp} {ty T T2 T' E:TypeId} {pos:String} {after:Array Edge} {gd:Option (Nat×Bool)} {x y z:Operand}
theorem Aq {a b:Nat} (ha:a<256) (hb:b<256) (hx:bu env x (ag .u8 (a:Int))) (hy:bu env y (ag .u8 (b:Int))):bl P hs env ⟨dst, .binOp .and T x y T',ty,pos,after,gd⟩ (ag .u8 ((a &&& b:Nat):Int)):=
 bl.aJ fun ρ w S F _ he=>by
  have h1:=he.o _ _ hx;have h2:=he.o _ _ hy;simp only [aa] at h1 h2
  exact ⟨.int .u8 ((a &&& b:Nat):Int),by simp [execOp,h1,h2,go_sem,(bits_nat .u8 8 (by decide) WV a b (by omega) (by omega)).1],rfl⟩
theorem Kw {a b:Nat} (ha:a<256) (hb:b<256) (hx:bu env x (ag .u8 (a:Int))) (hy:bu env y (ag .u8 (b:Int))):bl P hs env ⟨dst, .binOp .or T x y T',ty,pos,after,gd⟩ (ag .u8 ((a|||b:Nat):Int)):=
 bl.aJ fun ρ w S F _ he=>by
  have h1:=he.o _ _ hx;have h2:=he.o _ _ hy;simp only [aa] at h1 h2
  exact ⟨.int .u8 ((a|||b:Nat):Int),by simp [execOp,h1,h2,go_sem,(bits_nat .u8 8 (by decide) WV a b (by omega) (by omega)).2],rfl⟩
theorem Mk {n:Int} (h1: -9223372036854775808≤n) (h2:n≤9223372036854775807):bits .xor .i64 (-1) n= -n-1:=by
 have e:BitVec.ofInt 64 (-1)^^^BitVec.ofInt 64 n= ~~~ (BitVec.ofInt 64 n):=by rw [show BitVec.ofInt 64 (-1)=BitVec.allOnes 64 from by decide,BitVec.allOnes_xor]
 show IntKind.i64.wrap ((BitVec.ofInt 64 (-1)^^^BitVec.ofInt 64 n).toNat:Int)= -n-1
 rw [e,BitVec.toNat_not,BitVec.toNat_ofInt]
 unfold IntKind.wrap
 simp only [IntKind.signed,IntKind.bits]
 simp
 omega
theorem Ml {n:Int} (h1: -9223372036854775808≤n) (h2:n≤9223372036854775807) (hx:bu env x (ag .i64 n)):bl P hs env ⟨dst, .unOp .xor T x,ty,pos,after,gd⟩ (ag .i64 (-n-1)):=
 bl.aJ fun ρ w S F _ he=>by
  have h3:=he.o _ _ hx;simp only [aa] at h3
  exact ⟨.int .i64 (-n-1),by simp [execOp,h3,go_sem,Mk h1 h2,show IntKind.i64.signed=true from rfl],rfl⟩
end
theorem oJ (n:Int):IntKind.u8.wrap n=((n%256).toNat:Int):=by
 unfold IntKind.wrap
 simp [IntKind.signed,IntKind.bits]
 omega
theorem FW (k:Nat):k &&& 127<256:=Nat.lt_of_le_of_lt Nat.and_le_right (by decide)
theorem Pd {k:Nat} (h:k<256):k|||128<256:=Nat.or_lt_two_pow (n:=8) h (by decide)
theorem oK {k:Nat} (h:k<256):af (ag .u8 (k:Int)) (ag .u8 ((UInt8.ofNat k).toNat:Int)):=af.int (by simp;omega)
theorem RD (a:Nat):yl a=Nq a:=rfl
theorem RE (n:Int):lu n=(yl (if n<0 then (-n-1).toNat else n.toNat)+7)/7:=L9 n.natAbs n (Nat.le_refl _)
theorem WW {a:Nat} (h:a<18446744073709551616):yl a≤64:=by rw [RD];exact IG (k:=64) h
def tD (x:aA):Int:=(eL x.Code).elim (-1) (·.Form)
theorem Ar {x:aA} (h:eL x.Code=none):tD x= -1∧ji x.Code=[]:=by unfold tD;rw [h];exact ⟨rfl,qF h⟩
theorem As {x:aA} {i:pR} (h:eL x.Code=some i):tD x=aU x.Code∧ji x.Code≠[]:=by
 unfold tD;rw [h];have:=mZ h;exact ⟨this.2.2.2.1,this.2.2.1⟩
theorem uq (c:Int):0≤aU c∧aU c≤11:=by unfold aU;repeat (first|split|omega)
theorem Kx {c:Int} (h:aU c=11):c=65∨c=66:=by
 unfold aU at h
 repeat' split at h
 all_goals omega
theorem Pe {x:aA} (hA:0≤x.A) (hB:0≤x.B):iJ x↔mQ x (tD x):=by
 rw [FV hA hB (uq _) (fun h=>Kx h) (fun h=>by rw [h];decide)]
 cases hf:eL x.Code with
 |none=>
  obtain ⟨h1,h2⟩:=Ar hf
  rw [h1,h2]
  constructor
  · rintro ⟨h,_⟩;exact absurd rfl h
  · intro h;unfold mQ at h;omega
 |some i=>
  obtain ⟨h1,h2⟩:=As hf
  rw [h1]
  exact ⟨fun h=>h.2,fun h=>⟨h2,h⟩⟩
theorem IM {x:aA} (hA:0≤x.A) (hB:0≤x.B) (h:iJ x):tD x=aU x.Code∧ji x.Code≠[]:=by
 cases hf:eL x.Code with
 |none=>exact absurd (Ar hf).2 h.1
 |some i=>exact As hf
theorem yL {c:Int} (h:ji c≠[]):0≤c∧c≤196∨64522≤c∧c≤64523:=by
 by_cases h2:c<0∨196<c∧c<64522∨64523<c
 · exact absurd (qF (FH h2)) h
 · omega
end Go.Hl
namespace Go.Hl
def sw (l:List Int):Nat:=(l.map bG).sum
theorem B7 (l:List Int) (n:Int):sw (l++[n])=sw l+bG n:=by simp [sw]
theorem qJ:∀(l:List Int),(∀n∈l,0≤n∧n<18446744073709551616)→sw l≤10*l.length
 |[],_=>by simp [sw]
 |n::l,h=>by
  have h1:=qJ l (fun m hm=>h m (List.mem_cons_of_mem _ hm))
  have h2:=h n (List.mem_cons_self ..)
  have h3:bG n≤10:=dF (by omega)
  simp only [sw,List.map_cons,List.sum_cons,List.length_cons] at h1 ⊢
  omega
def oL (x:aA):Nat:=if 64512≤x.Code then 1+bG (x.Code-64512) else 1
def kG (x:aA):Int:=if x.Code=65 then (if x.A<2147483648 then x.A else x.A-4294967296) else (if x.A<9223372036854775808 then x.A else x.A-18446744073709551616)
def IN (x:aA):Nat:=(if x.A=0 then bG x.dz else bG (x.dz+64)+bG x.A)+bG x.B
theorem gX (x:aA):nS x=oL x+(if aU x.Code=1 then 1
   else if aU x.Code=2∨aU x.Code=4∨aU x.Code=6∨aU x.Code=7∨aU x.Code=9 then bG x.A
   else if aU x.Code=3 then fK x.L.length+sw x.L+bG x.A
   else if aU x.Code=5∨aU x.Code=10 then bG x.A+bG x.B
   else if aU x.Code=8 then IN x
   else if aU x.Code=11 then lu (kG x) else 0):=rfl
theorem Ky {a:Int} (h0:0≤a) (h1:a<18446744073709551616):IntKind.i64.wrap a=if a<9223372036854775808 then a else a-18446744073709551616:=by
 by_cases h:a<9223372036854775808
 · rw [if_pos h];unfold IntKind.wrap;simp only [IntKind.signed,IntKind.bits];simp;omega
 · rw [if_neg h];unfold IntKind.wrap;simp only [IntKind.signed,IntKind.bits];simp;omega
theorem RF {a:Int} (h0:0≤a) (h1:a≤4294967295):IntKind.i32.wrap a=if a<2147483648 then a else a-4294967296:=by
 by_cases h:a<2147483648
 · rw [if_pos h];unfold IntKind.wrap;simp only [IntKind.signed,IntKind.bits];simp;omega
 · rw [if_neg h];unfold IntKind.wrap;simp only [IntKind.signed,IntKind.bits];simp;omega
end Go.Hl
end
section
namespace Go.Hl
open Go.RowKit
abbrev A7:=Int×Int×Int
def gM (s:A7):List VP:=[ag .i64 s.1,ag .i64 s.2.1,ag .i64 s.2.2]
instance:hU 3 gM:=⟨fun _=>rfl,fun x q h=>by simp only [gM,List.mem_cons,List.not_mem_nil,or_false] at h;rcases h with h|h|h<;>rw [h]<;>infer_instance⟩
instance (x:A7):bE (gM x):=bE.of x
def iS (n:Nat):List VP:=[ag .i64 (n:Int)]
instance:hU 1 iS:=⟨fun _=>rfl,fun x q h=>by simp only [iS,List.mem_cons,List.not_mem_nil,or_false] at h;rw [h];infer_instance⟩
instance (x:Nat):bE (iS x):=bE.of x
def qK (r:Nat×UInt8):List VP:=[ag .i64 (r.1:Int),ag .u8 (r.2.toNat:Int)]
instance:hU 2 qK:=⟨fun _=>rfl,fun x q h=>by simp only [qK,List.mem_cons,List.not_mem_nil,or_false] at h;rcases h with h|h<;>rw [h]<;>infer_instance⟩
instance (x:Nat×UInt8):bE (qK x):=bE.of x
structure Qm where
 gp:SB
 go:SB
 sp:List A7
 op:List Nat
 cl:Prop
 dp:Int
abbrev D3 (nb:Nat) (l:List aA) (z:Qm):List HP:=[az nb [ai 5 aK l,aa (bq z.gp z.sp.length),aa (bq z.go z.op.length),aq z.cl,ag .i64 z.dp],au z.gp 3 gM z.sp,au z.go 1 iS z.op]
def FX (l:List aA) (sp:List A7) (p:Nat) (ce:Int×Bool):Prop:=∃(i:Nat) (el en:Int) (x:aA),sp[p]?=some ((i:Int),el,en)∧l[i]?=some x∧x.Code=ce.1∧(ce.2=true↔el≠ -1)
structure iu (l:List aA) (sp:List A7) (op:List Nat) (rs:List (Int×Bool)):Prop where
 len:op.length=rs.length
 inc:op.Pairwise (· < ·)
 rel:∀(k p:Nat) (ce:Int×Bool),op[k]?=some p→rs[k]?=some ce→FX l sp p ce
theorem iu.nil (l:List aA) (sp:List A7):iu l sp [] []:=⟨rfl,List.Pairwise.nil,fun k p ce h=>by simp at h⟩
variable {rs:List (Int×Bool)} {l:List aA} {sp:List A7} {p:Nat}
theorem iu.at_ {op:List Nat} (h:iu l sp op rs) (hp:p∈op):∃ce,FX l sp p ce:=by
 obtain ⟨k,hk⟩:=List.mem_iff_getElem?.1 hp
 have hl:k<rs.length:=by have:=(List.getElem?_eq_some_iff.1 hk).1;rw [h.len] at this;exact this
 exact ⟨_,h.rel k p _ hk (List.getElem?_eq_getElem hl)⟩
variable {ce:Int×Bool}
theorem FX.lt (h:FX l sp p ce):p<sp.length:=by
 obtain ⟨_,_,_,_,h1,_⟩:=h;exact (List.getElem?_eq_some_iff.1 h1).1
theorem iu.begin {op:List Nat} (h:iu l sp op rs) {i:Nat} {x:aA} (hx:l[i]?=some x):iu l (sp++[((i:Int),-1,-1)]) (op++[sp.length]) (rs++[(x.Code,false)]):=by
 refine ⟨by simp [h.len], ?_,fun k p ce hk hr=> ?_⟩
 · rw [List.pairwise_append]
   refine ⟨h.inc,List.pairwise_singleton _ _,fun a ha b hb=> ?_⟩
   simp only [List.mem_singleton] at hb;subst hb
   obtain ⟨ce,hce⟩:=h.at_ ha
   exact hce.lt
 · by_cases Hi:k<op.length
   · rw [List.getElem?_append_left Hi] at hk
     rw [List.getElem?_append_left (by rw [←h.len];exact Hi)] at hr
     obtain ⟨j,el,en,y,h1,h2,h3,h4⟩:=h.rel k p ce hk hr
     exact ⟨j,el,en,y,by rw [List.getElem?_append_left (List.getElem?_eq_some_iff.1 h1).1];exact h1,h2,h3,h4⟩
   · rw [List.getElem?_append_right (by omega)] at hk
     rw [List.getElem?_append_right (by rw [←h.len];omega)] at hr
     have Nr:k-op.length=0:=by
      have:=(List.getElem?_eq_some_iff.1 hk).1;simp at this;omega
     rw [Nr] at hk
     rw [←h.len,Nr] at hr
     simp at hk hr
     subst hk;subst hr
     exact ⟨i,-1,-1,x,by simp,hx,rfl,by simp⟩
theorem Dm {α:Type} {o:List α} {p:α}:(o++[p])[o.length]?=some p:=by simp
variable {o:List Nat}
theorem iu.top (h:iu l sp (o++[p]) (rs++[ce])):FX l sp p ce:=by
 have hl:o.length=rs.length:=by have:=h.len;simp at this;exact this
 exact h.rel o.length p ce Dm (by rw [hl];exact Dm)
theorem iu.Ui (h:iu l sp (o++[p]) rs):p∉o:=fun hp=>by
 have:=(List.pairwise_append.1 h.inc).2.2 p hp p (by simp)
 omega
theorem FX.set {l:List aA} {sp:List A7} {p q:Nat} {s:A7} {ce:Int×Bool} (h:FX l sp q ce) (hne:q≠p):FX l (sp.set p s) q ce:=by
 obtain ⟨j,el,en,y,h1,h2⟩:=h
 exact ⟨j,el,en,y,by rw [List.getElem?_set_ne (by omega)];exact h1,h2⟩
theorem iu.pop (h:iu l sp (o++[p]) (rs++[ce])) (s:A7):iu l (sp.set p s) o rs:=by
 have hl:o.length=rs.length:=by have:=h.len;simp at this;exact this
 refine ⟨hl,(List.pairwise_append.1 h.inc).1,fun k q c hk hr=> ?_⟩
 have hq:q∈o:=List.mem_of_getElem? hk
 refine (h.rel k q c ?_ ?_).set (fun e=>h.Ui (e▸hq))
 · rw [List.getElem?_append_left (List.getElem?_eq_some_iff.1 hk).1];exact hk
 · rw [List.getElem?_append_left (List.getElem?_eq_some_iff.1 hr).1];exact hr
variable {c:Int}
theorem iu.other {e:Bool} (h:iu l sp (o++[p]) (rs++[(c,e)])) {i:Nat} {el en:Int} {x:aA} (hs:sp[p]?=some ((i:Int),el,en)) (hx:l[i]?=some x) (hc:x.Code=c) {j:Nat}:
    iu l (sp.set p ((i:Int),(j:Int),en)) (o++[p]) (rs++[(c,true)]):=by
  have hl:o.length=rs.length:=by have:=h.len;simp at this;exact this
  have al6:=h.pop ((i:Int),(j:Int),en)
  refine ⟨by simp [hl],h.inc,fun k q ce hk hr=> ?_⟩
  by_cases Hi:k<o.length
  · rw [List.getElem?_append_left Hi] at hk
    rw [List.getElem?_append_left (by omega)] at hr
    exact al6.rel k q ce hk hr
  · rw [List.getElem?_append_right (by omega)] at hk
    rw [List.getElem?_append_right (by omega)] at hr
    have Nr:k-o.length=0:=by
      have:=(List.getElem?_eq_some_iff.1 hk).1;simp at this;omega
    rw [Nr] at hk
    rw [←hl,Nr] at hr
    simp at hk hr
    subst hk;subst hr
    exact ⟨i,j,en,x,by rw [List.getElem?_set_self (List.getElem?_eq_some_iff.1 hs).1],hx,hc,by simp⟩
def eV (cl:Prop) (rs:List (Int×Bool)) (r:List Int):Prop:=(cl∧r=[])∨(¬cl∧eZ r rs.reverse)
variable {r:List Int}
theorem IP (h:aQ c) (hl:rs.length≠64) (hb:rs.length≤64):eV False rs (c::r)↔eV False (rs++[(c,false)]) r:=by
 simp only [eV,false_and,not_false_eq_true,true_and,false_or,List.reverse_append,List.reverse_cons,List.reverse_nil,List.nil_append,List.singleton_append]
 rw [iC,if_pos h]
 simp only [List.length_reverse]
 exact ⟨fun h=>h.2,fun h=>⟨by omega,h⟩⟩
theorem IQ (h:aQ c) (hl:rs.length=64):¬eV False rs (c::r):=by
 simp only [eV,false_and,not_false_eq_true,true_and,false_or]
 rw [iC,if_pos h]
 simp only [List.length_reverse]
 omega
theorem A8:¬eV False [] (5::r):=by
 simp only [eV,false_and,not_false_eq_true,true_and,false_or,List.reverse_nil]
 rw [iC];simp [aQ]
theorem Au {b:Int} {e:Bool}:eV False (rs++[(b,e)]) (5::r)↔(b=4∧e=false)∧eV False (rs++[(b,true)]) r:=by
 simp only [eV,false_and,not_false_eq_true,true_and,false_or,List.reverse_append,List.reverse_cons,List.reverse_nil,List.nil_append,List.singleton_append]
 rw [iC];simp [aQ]
theorem Av:eV False [] (11::r)↔eV True [] r:=by
 simp only [eV,false_and,not_false_eq_true,true_and,false_or,not_true_eq_false,or_false,List.reverse_nil]
 rw [iC];simp [aQ]
theorem Mm:eV False (rs++[ce]) (11::r)↔eV False rs r:=by
 simp only [eV,false_and,not_false_eq_true,true_and,false_or,List.reverse_append,List.reverse_cons,List.reverse_nil,List.nil_append,List.singleton_append]
 rw [iC];simp [aQ]
theorem F3 (h1:¬aQ c) (h2:c≠5) (h3:c≠11):eV False rs (c::r)↔eV False rs r:=by
 simp only [eV,false_and,not_false_eq_true,true_and,false_or]
 rw [iC,if_neg h1,if_neg h2,if_neg h3]
theorem Dn:¬eV True rs (c::r):=by simp [eV]
theorem Mn {cl:Prop}:eV cl rs []↔cl:=by simp [eV,eZ]
def nsP (l:List aA) (cl:Prop) (rs:List (Int×Bool)) (c:Int) (m:Nat) (e:Int) (z:Qm):Prop:=
 (e=0∧z.sp.length≤m∧z.op.length≤64∧∃rs',iu l z.sp z.op rs'∧∀r,eV cl rs (c::r)↔eV z.cl rs' r)∨(e≠0∧∀r,¬eV cl rs (c::r))
theorem RG {α β:Type} {n k:Nat} {e1:α→List VP} {e2:β→List VP} {r:List HP}:aB r (au none n e1 []::au none k e2 []::r):=fun F S w h=>
 ⟨fun _=>False,F,fun _ h=>h.elim,fun _ h=>h,rfl,fun _=>False,F,fun _ h=>h.elim,fun _ h=>h,rfl,h⟩
end Go.Hl
end
section
namespace Go.Hl
theorem F4 (t:UInt8):bz [] t=[(1,t)]:=rfl
theorem vC (m:List (Nat×UInt8)) (n:Nat) (t:UInt8):bz (m++[(n,t)]) t=m++[(n+1,t)]:=by rw [qI];simp [bz]
variable {t:UInt8}
theorem tE (m:List (Nat×UInt8)) (n:Nat) {t':UInt8} (h:¬t=t'):bz (m++[(n,t)]) t'=(m++[(n,t)])++[(1,t')]:=by rw [qI];simp [bz,h]
theorem ur {l:List UInt8} {k:Nat} (h:l[k]?=some t):(l.take (k+1)).foldl bz []=bz ((l.take k).foldl bz []) t:=by
 rw [←bn h,List.foldl_append];rfl
theorem IS {o:List (Nat×UInt8)} {M:Nat} (h:∀p∈o,p.1≤M):(∀p∈bz o t,p.1≤M+1)∧(bz o t).length≤o.length+1:=by
 rcases List.eq_nil_or_concat o with rfl|⟨m,⟨n,t'⟩,rfl⟩
 · simp [F4]
 · rw [List.concat_eq_append] at h ⊢
   by_cases e:t'=t
   · subst e
     rw [vC]
     refine ⟨fun p hp=> ?_,by simp⟩
     rcases List.mem_append.1 hp with hp|hp
     · have:=h p (by simp [hp]);omega
     · simp only [List.mem_singleton] at hp;subst hp
       have:=h (n,t') (by simp);simp only at this ⊢;omega
   · rw [tE _ _ e]
     refine ⟨fun p hp=> ?_,by simp⟩
     rcases List.mem_append.1 hp with hp|hp
     · have:=h p hp;omega
     · simp only [List.mem_singleton] at hp;subst hp;simp
theorem yM:∀(l:List UInt8) (o:List (Nat×UInt8)) (M:Nat),(∀p∈o,p.1≤M)→(∀p∈l.foldl bz o,p.1≤M+l.length)∧(l.foldl bz o).length≤o.length+l.length
 |[],o,M,h=>⟨by simpa using h,by simp⟩
 |t::l,o,M,h=>by
  obtain ⟨h1,h2⟩:=IS (t:=t) h
  obtain ⟨h3,h4⟩:=yM l _ _ h1
  simp only [List.foldl_cons,List.length_cons]
  exact ⟨fun p hp=>by have:=h3 p hp;omega,by omega⟩
theorem Dp {x:aA} (h:mT x) (r:iJ x):nS x≤1100:=by
 obtain ⟨r1,r2,r3,r4,r5,r6⟩:=r
 have hL:x.L.length≤100:=r6.elim (fun h=>by rw [h];simp) (fun h=>h.2)
 have hA:bG x.A≤10:=dF (by have:=h.A0;have:=h.ym;omega)
 have hB:bG x.B≤10:=dF (by have:=h.B0;have:=h.B64;omega)
 have hs:=qJ x.L (fun n hn=>⟨h.L0 n hn,by have h9:n≤4294967295:=r5 n hn;omega⟩)
 have hl:fK x.L.length≤10:=dF (by omega)
 have ha:bG x.dz≤10:=dF (by have:=h.a31;omega)
 have ha2:bG (x.dz+64)≤10:=dF (by have:=h.a31;omega)
 have hm:IN x≤30:=by unfold IN;split<;>omega
 have Mi:x.Code=65→x.A≤4294967295:=fun Mi=>Classical.byContradiction fun h9=>r2 (.inr (.inl ⟨Mi,h9⟩))
 have hw:lu (kG x)≤10:=yI (by have:=h.A0;have:=h.ym;unfold kG;(repeat split)<;>(try omega)) (by have:=h.A0;have:=h.ym;unfold kG;split<;>(try have:=Mi (by assumption))<;>split<;>omega)
 have hh:oL x≤11:=by
  unfold oL
  split
  · have:bG (x.Code-64512)≤10:=dF (by have:=yL r1;omega)
    omega
  · omega
 rw [gX]
 repeat (first|split|omega)
def w8 (l:List aA):Nat:=(l.map nS).sum
theorem B8 (l:List aA) (x:aA):w8 (l++[x])=w8 l+nS x:=by simp [w8]
theorem Dq:∀(l:List aA),(∀x∈l,mT x∧iJ x)→w8 l≤1100*l.length
 |[],_=>by simp [w8]
 |x::l,h=>by
  have h1:=Dq l (fun y hy=>h y (List.mem_cons_of_mem _ hy))
  have h2:=h x (List.mem_cons_self ..)
  have h3:=Dp h2.1 h2.2
  simp only [w8,List.map_cons,List.sum_cons,List.length_cons] at h1 ⊢
  omega
def Aw (r:List (Nat×UInt8)):Nat:=(r.map fun p=>fK p.1+1).sum
theorem Mo (r:List (Nat×UInt8)) (p:Nat×UInt8):Aw (r++[p])=Aw r+(fK p.1+1):=by simp [Aw]
theorem Dr:∀(r:List (Nat×UInt8)),(∀p∈r,p.1≤1000000)→Aw r≤11*r.length
 |[],_=>by simp [Aw]
 |p::r,h=>by
  have h1:=Dr r (fun q hq=>h q (List.mem_cons_of_mem _ hq))
  have h2:=h p (List.mem_cons_self ..)
  have h3:fK p.1≤10:=dF (by omega)
  simp only [Aw,List.map_cons,List.sum_cons,List.length_cons] at h1 ⊢
  omega
theorem RH (b:kr):Ma b=fK (b.aV.foldl bz []).length+Aw (b.aV.foldl bz [])+w8 b.L:=by
 unfold Ma Aw w8
 rw [←RC]
 simp [List.map_map,Function.comp_def]
theorem mT.of {x:aA} (h:Ai x) (r:iJ x):mT x where
 toAi:=h
 A16:=fun e=>by
  have hf:aU x.Code≠11:=by rw [e];decide
  have h1:=r.2.1
  have h2:uh x.A:=Classical.byContradiction fun h9=>h1 (.inl ⟨hf,h9⟩)
  have:=h.A0
  unfold uh at h2;omega
 a0:=by have h1:=r.2.2.2.1;omega
 a31:=by have h1:=r.2.2.2.1;omega
structure RI (b:kr):Prop where
 ins:∀x∈b.L,Ai x
 len:b.L.length≤10000
 loc:b.aV.length≤60000
end Go.Hl
end
section
namespace Go.Hl
open Go.RowKit
def Kz (rest:List aA) (fs:List eH):Prop:=(fs=[]∧rest=[])∨∃st:List (Int×Bool),st.length+1=fs.length∧eZ (rest.map (·.Code)) st
theorem Pf {x:aA} {r:List aA} {fs:List eH} (h:Kz (x::r) fs):∃gs b,fs=gs++[b]:=by
 rcases h with ⟨_,h⟩|⟨st,h,_⟩
 · cases h
 · exact vw (fun e=>by rw [e] at h;simp at h)
theorem IT {m:aR} {f:cU} {x:aA} {r:List aA} {fs fs':List eH} {b:eH} (h:Kz (x::r) (fs++[b])) (hs:jm m f x fs b=some fs'):Kz r fs':=by
 rcases h with ⟨h,_⟩|⟨st,hl,hn⟩
 · simp at h
 simp only [List.length_append,List.length_cons,List.length_nil] at hl
 rw [List.map_cons,iC] at hn
 by_cases h11:x.Code=11
 · rw [if_neg (by rw [h11];decide),if_neg (by omega),if_pos h11] at hn
   unfold jm dO at hs
   rw [if_pos h11] at hs
   split at hs
   · simp only [Option.some.injEq] at hs
     subst hs
     cases st with
     |nil=>
      simp only at hn
      have:fs=[]:=List.eq_nil_of_length_eq_zero (by simp only [List.length_nil] at hl;omega)
      subst this
      exact .inl ⟨rfl,by simpa using hn⟩
     |cons p t=>
      simp only at hn
      rcases List.eq_nil_or_concat fs with rfl|⟨gs,y,rfl⟩
      · simp at hl
      · refine .inr ⟨t, ?_,hn⟩
        simp only [List.concat_eq_append,List.getLast?_append,List.getLast?_singleton,Option.some_or,List.dropLast_concat,List.length_append,List.length_cons,List.length_nil] at hl ⊢
        omega
   · cases hs
 by_cases h5:x.Code=5
 · rw [if_neg (by rw [h5];decide),if_pos h5] at hn
   unfold jm dO at hs
   rw [if_neg h11,if_pos h5] at hs
   split at hs
   · simp only [Option.some.injEq] at hs
     subst hs
     cases st with
     |nil=>exact hn.elim
     |cons p t=>
      obtain ⟨pb,pe⟩:=p
      simp only at hn
      exact .inr ⟨(pb,true)::t,by simpa using hl,hn.2⟩
   · cases hs
 by_cases ho:aQ x.Code
 · rw [if_pos ho] at hn
   unfold jm dO at hs
   rw [if_neg h11,if_neg h5,if_pos ho] at hs
   obtain ⟨s,_,rfl⟩:=Option.map_eq_some_iff.1 hs
   exact .inr ⟨(x.Code,false)::st,by simp;omega,hn.2⟩
 · rw [if_neg ho,if_neg h5,if_neg h11] at hn
   rw [An h11 h5 ho] at hs
   obtain ⟨s,_,rfl⟩:=Option.map_eq_some_iff.1 hs
   exact .inr ⟨st,by simp;omega,hn⟩
theorem IU {m:aR} {f:cU} (h:dK m):∀g∈(cC m f).ay,g.R.length≤20:=fun g hg=>by
 obtain ⟨k,hk⟩:=List.mem_iff_getElem?.1 hg
 have h9:=sZ (f:=f) (n:=(k:Int)) h
 have:ec (cC m f).ay (k:Int)=some g:=by unfold ec;rw [if_pos ⟨by have:=(List.getElem?_eq_some_iff.1 hk).1;omega,by omega⟩];simpa using hk
 rw [this] at h9
 exact (h.tu g (CS h9.symm)).2
theorem Pg (x:aA):(eD x).length≤20:=by unfold eD;split<;>simp
structure yo (m:aR) (f:cU) (i:Nat) (hts:List Nat) (fs:List eH):Prop where
 tu:Dl fs
 hgt:sq fs≤20*i
 len:fs.length≤1+i
 nest:Kz (f.Body.L.drop i) fs
 run:jk m f=(og (·.Code) eD (ia (cC m f)) (f.Body.L.drop i) fs).map (hts++ ·)
theorem yo.init {m:aR} {f:cU} (h:dK m) (hs:cv m f.iA∈m.bR) (hn:eZ (f.Body.L.map (·.Code)) []):yo m f 0 [] [eH.mk False False (cv m f.iA).R ([],False)] where
 tu:=fun k hk=>by simp only [List.mem_singleton] at hk;subst hk;exact (h.tu _ hs).2
 hgt:=by simp [sq]
 len:=by simp
 nest:= .inr ⟨[],by simp,by simpa using hn⟩
 run:=by
  show jk m f=(og _ _ _ f.Body.L _).map ([]++ ·)
  unfold jk
  cases og (fun x:aA=>x.Code) eD (ia (cC m f)) f.Body.L [eH.mk False False (cv m f.iA).R ([],False)]<;>rfl
theorem yN {α:Type} {l:List α} {i:Nat} {x:α} (h:l[i]?=some x):l.drop i=x::l.drop (i+1):=by
 have hl:=(List.getElem?_eq_some_iff.1 h)
 rw [List.drop_eq_getElem_cons hl.1,hl.2]
theorem yo.next {m:aR} {f:cU} {i:Nat} {hts:List Nat} {fs fs':List eH} {b:eH} {x:aA} (h:yo m f i hts (fs++[b])) (hm:dK m) (hx:f.Body.L[i]?=some x) (hs:jm m f x fs b=some fs'):yo m f (i+1) (hts++[sq (fs++[b])]) fs':=by
 obtain ⟨g1,g2,g3⟩:=IL (v:=cC m f) (x:=x) (rr:=eD) (Pg x) h.tu (IU hm) (fun g hg=>(hm.tu g hg).2) (by have:=(jG x.Code).2;omega) hs
 have hd:=yN hx
 refine ⟨g1,by have:=h.hgt;omega,by have:=h.len;simp at this;omega,IT (hd▸h.nest) hs, ?_⟩
 rw [h.run,hd,wW]
 have hs':dO (fun x:aA=>x.Code) eD (ia (cC m f)) x fs b=some fs':=hs
 rw [hs']
 simp only [Option.bind_some,Option.map_map]
 congr 1
 funext l
 simp
theorem yo.WX {m:aR} {f:cU} {i:Nat} {hts:List Nat} {fs:List eH} {b:eH} {x:aA} (h:yo m f i hts (fs++[b])) (hx:f.Body.L[i]?=some x) (hs:jm m f x fs b=none):jk m f=none:=by
 rw [h.run,yN hx,wW]
 have hs':dO (fun x:aA=>x.Code) eD (ia (cC m f)) x fs b=none:=hs
 rw [hs'];rfl
theorem yo.done {m:aR} {f:cU} {i:Nat} {hts:List Nat} {fs:List eH} (h:yo m f i hts fs) (hi:f.Body.L.length≤i):jk m f=some hts:=by
 rw [h.run,List.drop_eq_nil_of_le hi];simp [og]
structure mA (m:aR):Prop where
 ins:∀f∈m.ay,∀x∈f.Body.L,Ai x
 len:∀f∈m.ay,f.Body.L.length≤2000
 loc:∀f∈m.ay,f.Body.aV.length≤50000
theorem mA.bd {m:aR} (h:mA m) {f:cU} (hf:f∈m.ay):RI f.Body:=⟨h.ins f hf,by have:=h.len f hf;omega,by have:=h.loc f hf;omega⟩
theorem nU {m:aR} (h:dK m) {f:cU} (hf:f∈m.ay):jt f.iA m.bR.length:=Classical.not_not.1 ((cF (by decide)).1 (qz h.funcs f hf))
theorem B9 {m:aR} (h:dK m) {f:cU} {i:Nat} (hf:m.ay[i]?=some f):iU m ((m.aH.length:Int)+(i:Int))=some (cv m f.iA):=by
 have hl:=(List.getElem?_eq_some_iff.1 hf).1
 have h1:=sZ (f:=f) (n:=(m.aH.length:Int)+(i:Int)) h
 rw [←h1]
 have hlen:(cC m f).ay.length=m.aH.length+m.ay.length:=by simp [cC]
 unfold ec
 rw [if_pos (by rw [hlen];omega)]
 show (m.aH.map (fun i=>cv m i.iA)++m.ay.map (fun g=>cv m g.iA))[_]?=_
 rw [List.getElem?_append_right (by simp;omega),List.getElem?_map,List.length_map]
 rw [show ((m.aH.length:Int)+(i:Int)).toNat-m.aH.length=i by omega,hf];rfl
end Go.Hl
namespace Go.Hl
def dP (l:List UInt8):List VP:=[ai 1 aj l]
instance:hU 1 dP:=⟨fun _=>rfl,fun x q h=>by simp only [dP,List.mem_cons,List.not_mem_nil,or_false] at h;subst h;infer_instance⟩
end Go.Hl
namespace Go.Hl
def qL (x:List UInt8×Int×Int×Int):List VP:=[cZ x.1,ag .i64 x.2.1,ag .i64 x.2.2.1,ag .i64 x.2.2.2]
instance:hU 4 qL:=⟨fun _=>rfl,fun x q h=>by simp only [qL,List.mem_cons,List.not_mem_nil,or_false] at h;rcases h with h|h|h|h<;>subst h<;>infer_instance⟩
instance (x:List UInt8×Int×Int×Int):bE (qL x):=bE.of x
end Go.Hl
end
section
namespace Go.Hl
open Go.RowKit
structure RJ (m:aR):Prop where
 gv:∀z∈m.an,0≤z.Value∧z.Value<18446744073709551616
 el:∀z∈m.bt,0≤z.At∧z.At<18446744073709551616
 da:∀z∈m.aZ,0≤z.At∧z.At<18446744073709551616
theorem RK {t:UInt8} (h:(t.toNat:Int)=126∨(t.toNat:Int)=127):gE t=32∨gE t=64:=by
 unfold gE
 rcases h with h|h
 · exact .inr (by rw [if_neg (by omega),if_pos h])
 · exact .inl (if_pos h)
theorem Uj {m:aR} (h:dK m) (hb:RJ m) (hs:wJ m):nK m where
 gl:=by have:=hs.globals;omega
 gv:=fun z hz=>⟨(hb.gv z hz).1,(hb.gv z hz).2,RK ((wT h hz).imp id And.left)⟩
 tb:=by have:=(cH h).table;omega
 ms:=fun z hz=>OZ h hz
 ml:=by have:=hs.dR;omega
 ll:=by have:=hs.elems;omega
 el:=fun e he=>by
  obtain ⟨h1,h2,h3,h4⟩:=vl h he
  refine ⟨(hb.el e he).1,(hb.el e he).2,by omega,fun f hf=> ?_⟩
  have h5:=h4 f hf
  have h6:=hs.imports
  have h7:=hs.funcs
  unfold jt cG at h5
  omega
 dl:=by have:=hs.bU;omega
 da:=fun d hd=>by
  obtain ⟨h1,h2,_⟩:=yG h hd
  exact ⟨h2,(hb.da d hd).1,(hb.da d hd).2,by omega⟩
noncomputable def jo (m:aR) (a:dX) (ke:Nat):dX:=ua m (a.height+fH m) (HZ m a.height (mI a m) m.an.length) ke
theorem yO {X:oT} {m:aR} {a:dX} (h:dm X a) (hm:nK m) (hf:a.height+(fH m+oE m)≤X.size) (ke:Nat):dm X (jo m a ke)∧nL (mI a m) (jo m a ke):=by
 have h1:=hm.r1;have h2:=hm.r2
 have h3:dm X (mI a m):=r8 (r8 h (by omega)) (by simp only;omega)
 have h4:=r9 (m:=m) (g:=a.height) h3 m.an.length (by omega)
 have h5:=yz (m:=m) (t:=a.height+fH m) h4 hm (by omega) ke
 exact ⟨h5.1,(EZ _).trans h5.2⟩
def lz:aR:=⟨[],[],[],-1,[],[⟨127,False,5⟩,⟨126,False,6⟩],[],-1,[],[]⟩
instance (m:aR):bE (br m):=by unfold br;infer_instance
theorem F5:dK lz:=by
 refine ⟨?_, ?_, ?_, ?_, ?_, ?_, ?_, ?_, ?_, ?_⟩<;>simp [lz,BJ,pN,kW,nG,BK,pO,nI,jN,wH,wI,oD,gR,cG,ki,oA,Ly,rW,CQ,kV,jt,sR,gE]
theorem IV:lS lz:=⟨F5,fun f hf=>by simp [lz] at hf⟩
theorem RL:mA lz:=⟨fun f hf=>by simp [lz] at hf,fun f hf=>by simp [lz] at hf,fun f hf=>by simp [lz] at hf⟩
theorem KA:nK lz:=Uj F5 ⟨fun z hz=>by simp [lz] at hz;rcases hz with rfl|rfl<;>decide,fun z hz=>by simp [lz] at hz,fun z hz=>by simp [lz] at hz⟩
 ⟨by decide,by decide,by decide,by decide,by decide,by decide,by decide,by decide,fun z hz=>by simp [lz] at hz,fun z hz=>by simp [lz] at hz,fun z hz=>by simp [lz] at hz,fun z hz=>by simp [lz] at hz,fun z hz=>by simp [lz] at hz,fun z hz=>by simp [lz] at hz⟩
theorem Ph {r:Nat×Nat×Int} (h:od lz r):r=(0,0,0):=by
 rcases h with ⟨k,e,h1,_⟩|⟨_,k,d,h1,_⟩|⟨_,_,h⟩
 · simp [lz] at h1
 · simp [lz] at h1
 · exact h
def jX (n:Nat):dX:=⟨List.replicate n 0,0,0,[]⟩
theorem IW {X:oT} {n:Nat} (h:X.size=n) (hn:n≤4194304):dm X (jX n):=⟨by rw [h];exact List.length_replicate,Nat.zero_le _,by omega,Nat.le_refl _⟩
def WY:dX:=HZ lz 0 (mI (jX 1000) lz) 2
theorem WZ:rq ((WY.bytes.drop 8).take 8)=6:=by decide+kernel
theorem F6:(jX 1000).height+(fH lz+oE lz)≤1000:=by decide+kernel
abbrev uu:=Nat×List UInt8
def sx (p:uu):List VP:=[ag .u64 (p.1:Int),ai 1 aj p.2]
instance:hU 2 sx:=⟨fun _=>rfl,fun x q h=>by simp only [sx,List.mem_cons,List.not_mem_nil,or_false] at h;rcases h with h|h<;>subst h<;>infer_instance⟩
structure RM where
 pages:Nat
 most:Nat
 iw:List uu
def gf (r:RM):List VP:=[ag .i64 (r.pages:Int),ag .i64 (r.most:Int),ai 2 sx r.iw]
instance:hU 3 gf:=⟨fun _=>rfl,fun x q h=>by simp only [gf,List.mem_cons,List.not_mem_nil,or_false] at h;rcases h with h|h|h<;>subst h<;>infer_instance⟩
instance (r:RM):bE (gf r):=⟨fun q h=>hU.flat (enc:=gf) r q h⟩
def sy (p:uu) (a:Nat):Prop:=p.1≤a∧a-p.1<p.2.length
instance (p:uu) (a:Nat):Decidable (sy p a):=inferInstanceAs (Decidable (_∧_))
def sA (ps:List uu) (a:Nat):Nat→UInt8
 |0=>0
 |i+1=>match ps[i]? with
  |some p=>if sy p a then p.2.getD (a-p.1) 0 else sA ps a i
  |none=>0
def pV (r:RM) (a:Nat):UInt8:=sA r.iw a r.iw.length
def sB (r:RM) (a n:Nat):List UInt8:=(List.range n).map fun i=>pV r (a+i)
def qM (r:RM) (a:Nat) (ys:List UInt8):RM:={r with iw:=r.iw++[(a,ys)]}
theorem Ca (r:RM) (a n:Nat):(sB r a n).length=n:=by simp [sB]
theorem Ax (r:RM) (a n:Nat):sB r a (n+1)=sB r a n++[pV r (a+n)]:=by simp [sB,List.range_succ]
theorem s6 {ps:List uu} {a i:Nat} {p:uu} (h:ps[i]?=some p) (hi:sy p a):sA ps a (i+1)=p.2.getD (a-p.1) 0:=by
 show (match ps[i]? with|some p=>if sy p a then p.2.getD (a-p.1) 0 else sA ps a i|none=>0)=_
 rw [h];exact if_pos hi
theorem vD {ps:List uu} {a i:Nat} {p:uu} (h:ps[i]?=some p) (hi:¬sy p a):sA ps a (i+1)=sA ps a i:=by
 show (match ps[i]? with|some p=>if sy p a then p.2.getD (a-p.1) 0 else sA ps a i|none=>0)=_
 rw [h];exact if_neg hi
theorem Cb {ps qs:List uu} {a:Nat}:∀i,i≤ps.length→sA (ps++qs) a i=sA ps a i
 |0,_=>rfl
 |i+1,h=>by
  have ih:=Cb (ps:=ps) (qs:=qs) (a:=a) i (by omega)
  obtain ⟨p,hp⟩:∃p,ps[i]?=some p:=⟨ps[i],List.getElem?_eq_getElem (by omega)⟩
  have hp2:(ps++qs)[i]?=some p:=by rw [List.getElem?_append_left (by omega)];exact hp
  by_cases hi:sy p a
  · rw [s6 hp hi,s6 hp2 hi]
  · rw [vD hp hi,vD hp2 hi,ih]
theorem F7 (r:RM) (at_:Nat) (ys:List UInt8) (a:Nat):pV (qM r at_ ys) a=if at_≤a∧a<at_+ys.length then ys.getD (a-at_) 0 else pV r a:=by
 unfold pV qM
 simp only [List.length_append,List.length_singleton]
 have hp:(r.iw++[(at_,ys)])[r.iw.length]?=some (at_,ys):=by simp
 by_cases h:at_≤a∧a<at_+ys.length
 · rw [if_pos h,s6 hp (show sy (at_,ys) a from ⟨h.1,by show a-at_<ys.length;omega⟩)]
 · rw [if_neg h,vD hp (fun hi=>h ⟨hi.1,by have h2:a-at_<ys.length:=hi.2;have h1:at_≤a:=hi.1;omega⟩),Cb _ (Nat.le_refl _)]
end Go.Hl
end
