/-
  What the statement's proof leans on, several texts in one (packed by a program).
-/
import Derived.Test.YtpfobikpggmleaaGreatDoorSRN
set_option linter.all false
set_option maxRecDepth 1000000
set_option maxHeartbeats 4000000
section
namespace Go.Hl
abbrev cU:=List UInt8×Prop
open Classical in
noncomputable def hH (s:cU) (want:UInt8):Option (cU×UInt8):=
 match s.1.getLast? with
 |none=>if s.2 then some (s,want) else none
 |some got=>if got=want∨got=0∨want=0 then some ((s.1.dropLast,s.2),if got=0 then want else got) else none
noncomputable def Az (s:cU):List UInt8→Option cU
 |[]=>some s
 |t::l=>(hH s t).bind fun p=>Az p.1 l
noncomputable def cF (s:cU) (l:List UInt8):Option cU:=Az s l.reverse
def bq (s:cU) (l:List UInt8):cU:=(s.1++l,s.2)
def ef:cU:=([],True)
structure dV where
 loop:Prop
 is:Prop
 res:List UInt8
 st:cU
open Classical in
noncomputable def qd (b:dV):List UInt8:=if b.loop then [] else b.res
def qe (fs:List dV):Nat:=(fs.map fun b=>b.st.1.length).sum
section
variable {ι:Type} (cd:ι→Int) (rr:ι→List UInt8) (pl:ι→cU→List (List UInt8)→Option cU)
open Classical
noncomputable def nh (b:dV):Prop:=∃s,cF b.st b.res=some s∧s.1=[]
noncomputable def dz (x:ι) (fs:List dV) (b:dV):Option (List dV):=
 if cd x=11 then
  if nh b∧(b.is→b.res=[]) then some (match fs.getLast? with
   |none=>[]
   |some t=>fs.dropLast++[{t with st:=bq t.st b.res}]) else none
 else if cd x=5 then if nh b then some (fs++[{b with is:=False,st:=([],False)}]) else none
 else if aO (cd x) then (if cd x=4 then cF b.st [127] else some b.st).map fun s=>fs++[{b with st:=s}]++[⟨cd x=3,cd x=4,rr x,([],False)⟩]
 else (pl x b.st ((fs++[b]).map qd)).map fun s=>fs++[{b with st:=s}]
noncomputable def mE:List ι→List dV→Option (List Nat)
 |[],_=>some []
 |x::r,fs=>match fs.getLast? with
  |none=>none
  |some b=>(dz cd rr pl x fs.dropLast b).bind fun fs'=>(mE r fs').map (qe fs:: ·)
noncomputable def iP:Nat→List ι→List (List UInt8)→List UInt8→cU→Nat→Option (List Nat×List ι)
 |0,_,_,_,_,_=>none
 |_+1,[],_,_,_,_=>some ([],[])
 | f +1,x::r,labs,res,s,base=>
  if cd x=11∨cd x=5 then
   if ∃s',cF s res=some s'∧s'.1=[] then some ([base+s.1.length],x::r) else none
  else if aO (cd x) then
   (if cd x=4 then cF s [127] else some s).bind fun s1=>
   (iP f r (labs++[if cd x=3 then [] else rr x]) (rr x) ([],False) (base+s1.1.length)).bind fun p=>
   match p.2 with
   |[]=>none
   | x2::r2=>
    if cd x2=5 then
     (iP f r2 (labs++[if cd x=3 then [] else rr x]) (rr x) ([],False) (base+s1.1.length)).bind fun p2=>
     match p2.2 with
     |[]=>none
     |_::r3=>(iP f r3 labs res (bq s1 (rr x)) base).map fun p3=>((base+s.1.length)::p.1++p2.1++p3.1,p3.2)
    else if cd x=4∧rr x≠[] then none
    else (iP f r2 labs res (bq s1 (rr x)) base).map fun p3=>((base+s.1.length)::p.1++p3.1,p3.2)
  else (pl x s labs).bind fun s1=>(iP f r labs res s1 base).map fun p=>((base+s.1.length)::p.1,p.2)
theorem ur (x:ι) (r:List ι) (fs:List dV) (b:dV):mE cd rr pl (x::r) (fs++[b])=(dz cd rr pl x fs b).bind fun fs'=>(mE cd rr pl r fs').map (qe (fs++[b]):: ·):=by
 simp [mE]
theorem fZ (fs:List dV) (b:dV):qe (fs++[b])=qe fs+b.st.1.length:=by simp [qe]
theorem IU : ∀        (f:Nat) (s:List ι) (d:Nat) (labs:List (List UInt8)) (res:List UInt8) (st:cU) (base:Nat) (fs:List dV) (loop is:Prop) (gE:List Int),
    s.length<f→dD f (s.map cd) d=some gE→gE≠[]→labs=(fs++[dV.mk loop is res st]).map qd→base=qe fs→
    (iP cd rr pl f s labs res st base=none→mE cd rr pl s (fs++[dV.mk loop is res st])=none)∧
    (∀hs rest,iP cd rr pl f s labs res st base=some (hs,rest)→rest.map cd=gE∧∃st',(∃s',cF st' res=some s'∧s'.1=[])∧
      ∀x r,rest=x::r→mE cd rr pl s (fs++[dV.mk loop is res st])=(dz cd rr pl x fs ⟨loop,is,res,st'⟩).bind fun fs'=>(mE cd rr pl r fs').map (hs++ ·)):=by
  intro f
  induction f with
  |zero=>intro s _ _ _ _ _ _ _ _ _ h;omega
  | succ f ih =>
    intro s d labs res st base fs loop is gE h hr hne hl hb
    cases s with
    |nil=>simp [dD] at hr;exact absurd hr hne
    | cons x r =>
      simp only [List.length_cons] at h
      rw [ur,fZ,←hb]
      simp only [List.map_cons,dD] at hr
      by_cases h1:cd x=11∨cd x=5
      · simp only [h1,if_true,Option.some.injEq] at hr
        simp only [iP,h1,if_true]
        by_cases hc:∃s',cF st res=some s'∧s'.1=[]
        · simp only [hc,if_true]
          refine ⟨by simp,fun hs rest e=> ?_⟩
          simp only [Option.some.injEq,Prod.mk.injEq] at e
          obtain ⟨rfl,rfl⟩:=e
          refine ⟨by simpa using hr,st,hc,fun x' r' e=> ?_⟩
          cases e
          rfl
        · simp only [hc,if_false]
          refine ⟨fun _=> ?_,by simp⟩
          have:dz cd rr pl x fs ⟨loop,is,res,st⟩=none:=by
            unfold dz
            rcases h1 with h1|h1<;>simp [h1,nh]<;>intros<;>simp_all
          rw [this];rfl
      simp only [h1,if_false] at hr
      have h11:cd x≠11:=fun e=>h1 (.inl e)
      have h5:cd x≠5:=fun e=>h1 (.inr e)
      by_cases h2:aO (cd x)
      · simp only [h2,if_true] at hr
        by_cases h3:64≤d
        · simp [h3] at hr
        simp only [h3,if_false] at hr
        have hx0:dz cd rr pl x fs (dV.mk loop is res st)=(if cd x=4 then cF st [127] else some st).map fun s=>fs++[dV.mk loop is res s]++[dV.mk (cd x=3) (cd x=4) (rr x) ([],False)]:=by
          simp only [dz,h11,h5,h2,if_true,if_false]
        rw [hx0]
        simp only [iP,h1,if_false,h2,if_true]
        generalize (if cd x=4 then cF st [127] else some st)=o1
        match o1 with
        |none=>simp
        | some s1 =>
          simp only [Option.map_some,Option.bind_some]
          cases DV:dD f (r.map cd) (d+1) with
          |none=>simp [DV] at hr
          | some CR =>
            simp only [DV] at hr
            have Ta:CR≠[]:=by intro e;simp [e] at hr
            have i1:=ih r (d+1) (labs++[if cd x=3 then [] else rr x]) (rr x) ([],False) (base+s1.1.length) (fs++[dV.mk loop is res s1]) (cd x=3) (cd x=4) CR (by omega) DV Ta
              (by rw [hl];simp [qd]) (by rw [fZ,hb])
            obtain ⟨Tb,k1,_⟩:=(lO f (r.map cd) (d+1) (by simpa using (by omega:r.length<f)) (by omega)).2 CR DV
            simp only [List.length_map] at Tb
            generalize iP cd rr pl f r (labs++[if cd x=3 then [] else rr x]) (rr x) ([],False) (base+s1.1.length)=o2 at i1
            match o2,i1 with
            |none,i1=>rw [i1.1 rfl];simp
            |some (oP,[]),i1=>exact absurd (i1.2 oP [] rfl).1.symm (by simpa using Ta)
            | some (oP, x2 ::r2),i1=>
              obtain ⟨e1,Qe,o6,q1⟩:=i1.2 _ _ rfl
              have q1:=q1 x2 r2 rfl
              simp only [Option.bind_some]
              rw [q1]
              subst e1
              simp only [List.map_cons,List.length_cons,List.length_map] at hr Tb
              have key:∀(f':Prop) (tG:cU) (r3:List ι) (hsA:List Nat) (x3:ι),cd x3=11→(∃s',cF tG (rr x)=some s'∧s'.1=[])→r3.length<f→dD f (r3.map cd) d=some gE→
                  ((f'∧rr x≠[]→(((dz cd rr pl x3 (fs++[dV.mk loop is res s1]) (dV.mk (cd x=3) f' (rr x) tG)).bind fun fs'=>(mE cd rr pl r3 fs').map (hsA++ ·))=none))∧
                  (¬ (f'∧rr x≠[])→(iP cd rr pl f r3 labs res (bq s1 (rr x)) base=none→(((dz cd rr pl x3 (fs++[dV.mk loop is res s1]) (dV.mk (cd x=3) f' (rr x) tG)).bind fun fs'=>(mE cd rr pl r3 fs').map (hsA++ ·))=none))∧
                    (∀Pm G6,iP cd rr pl f r3 labs res (bq s1 (rr x)) base=some (Pm,G6)→G6.map cd=gE∧∃st',(∃s',cF st' res=some s'∧s'.1=[])∧
                      ∀y r',G6=y::r'→((dz cd rr pl x3 (fs++[dV.mk loop is res s1]) (dV.mk (cd x=3) f' (rr x) tG)).bind fun fs'=>(mE cd rr pl r3 fs').map (hsA++ ·))=(dz cd rr pl y fs ⟨loop,is,res,st'⟩).bind fun fs'=>(mE cd rr pl r' fs').map ((hsA++Pm)++ ·)))):=by
                intro f' tG r3 hsA x3 h3 WS hlen hr3
                have hst:dz cd rr pl x3 (fs++[dV.mk loop is res s1]) (dV.mk (cd x=3) f' (rr x) tG)=if (f'→rr x=[]) then some (fs++[dV.mk loop is res (bq s1 (rr x))]) else none:=by
                  have Nf:nh (dV.mk (cd x=3) f' (rr x) tG):=WS
                  simp [dz,h3,Nf]
                rw [hst]
                refine ⟨fun hf=>by rw [if_neg (fun e=>hf.2 (e hf.1))];rfl,fun hf=> ?_⟩
                rw [if_pos (fun e=>Classical.byContradiction fun e'=>hf ⟨e,e'⟩)]
                simp only [Option.bind_some]
                have i3:=ih r3 d labs res (bq s1 (rr x)) base fs loop is gE hlen hr3 hne (by rw [hl];simp [qd]) hb
                refine ⟨fun e=>by rw [i3.1 e];rfl,fun Pm G6 e=> ?_⟩
                obtain ⟨a1,st',a2,a3⟩:=i3.2 _ _ e
                refine ⟨a1,st',a2,fun y r' e'=> ?_⟩
                rw [a3 y r' e']
                cases dz cd rr pl y fs ⟨loop,is,res,st'⟩ with
                |none=>rfl
                |some z=>simp only [Option.bind_some,Option.map_map];congr 1;funext l;simp
              have done:∀{o:Option (List Nat)} {z:Nat} {g:List Nat→List Nat},(Option.map (z:: ·) (Option.map g o))=Option.map (fun l=>z::g l) o:=fun {o z g}=>by cases o<;>rfl
              rcases k1 (cd x2) _ rfl with e|e
              · have hr':dD f (r2.map cd) d=some gE:=by simpa [e] using hr
                obtain ⟨kA,kB⟩:=key (cd x=4) Qe r2 oP x2 e o6 (by omega) hr'
                simp only [e,show ¬((11:Int)=5) by decide,if_false]
                by_cases hf:cd x=4∧rr x≠[]
                · rw [if_pos hf,kA hf]
                  exact ⟨fun _=>rfl,by simp⟩
                · rw [if_neg hf]
                  obtain ⟨kC,kD⟩:=kB hf
                  refine ⟨fun e'=> ?_,fun hs rest e'=> ?_⟩
                  · rw [kC (by simpa using e')];rfl
                  · obtain ⟨p3,e3,e4⟩:=Option.map_eq_some_iff.1 e'
                    simp only [Prod.mk.injEq] at e4
                    obtain ⟨rfl,rfl⟩:=e4
                    obtain ⟨a1,st',a2,a3⟩:=kD _ _ (by rw [e3])
                    refine ⟨a1,st',a2,fun y r' e5=> ?_⟩
                    rw [a3 y r' e5]
                    cases dz cd rr pl y fs ⟨loop,is,res,st'⟩ with
                    |none=>rfl
                    |some z=>simp only [Option.bind_some];rw [done];rfl
              · simp only [e,if_true] at hr ⊢
                by_cases h4:cd x=4
                · simp only [h4,if_true] at hr
                  cases Bo:dD f (r2.map cd) (d+1) with
                  |none=>simp [Bo] at hr
                  | some uZ=>
                    simp only [Bo] at hr
                    have Tc:uZ≠[]:=by intro e;simp [e] at hr
                    have i2:=ih r2 (d+1) (labs++[if cd x=3 then [] else rr x]) (rr x) ([],False) (base+s1.1.length) (fs++[dV.mk loop is res s1]) (cd x=3) False uZ (by omega) Bo Tc
                      (by rw [hl];simp [qd]) (by rw [fZ,hb])
                    obtain ⟨Td,k2,_⟩:=(lO f (r2.map cd) (d+1) (by simpa using (by omega:r2.length<f)) (by omega)).2 uZ Bo
                    simp only [List.length_map] at Td
                    have YM:dz cd rr pl x2 (fs++[dV.mk loop is res s1]) (dV.mk (cd x=3) (cd x=4) (rr x) Qe)=some (fs++[dV.mk loop is res s1]++[dV.mk (cd x=3) False (rr x) ([],False)]):=by
                      have Nf:nh (dV.mk (cd x=3) (cd x=4) (rr x) Qe):=o6
                      simp only [dz,e,show ¬((5:Int)=11) by decide,if_false,if_true,Nf]
                    rw [YM]
                    simp only [Option.bind_some]
                    generalize iP cd rr pl f r2 (labs++[if cd x=3 then [] else rr x]) (rr x) ([],False) (base+s1.1.length)=o3 at i2
                    match o3,i2 with
                    |none,i2=>rw [i2.1 rfl];simp
                    |some (tE,[]),i2=>exact absurd (i2.2 tE [] rfl).1.symm (by simpa using Tc)
                    | some (tE,x3::r3),i2=>
                      obtain ⟨e2,tG,YN,q2⟩:=i2.2 _ _ rfl
                      rw [q2 x3 r3 rfl]
                      subst e2
                      simp only [List.map_cons,List.length_cons,List.length_map] at hr Td
                      rcases k2 (cd x3) _ rfl with e3|e3
                      · have hr':dD f (r3.map cd) d=some gE:=by simpa [e3] using hr
                        obtain ⟨kA,kB⟩:=key False tG r3 (oP++tE) x3 e3 YN (by omega) hr'
                        obtain ⟨kC,kD⟩:=kB (fun h=>h.1)
                        have WT:(Option.map (oP++ ·) ((dz cd rr pl x3 (fs++[dV.mk loop is res s1]) (dV.mk (cd x=3) False (rr x) tG)).bind fun fs'=>(mE cd rr pl r3 fs').map (tE++ ·)))=
                            ((dz cd rr pl x3 (fs++[dV.mk loop is res s1]) (dV.mk (cd x=3) False (rr x) tG)).bind fun fs'=>(mE cd rr pl r3 fs').map (oP++tE++ ·)):=by
                          cases dz cd rr pl x3 (fs++[dV.mk loop is res s1]) (dV.mk (cd x=3) False (rr x) tG) with
                          |none=>rfl
                          |some z=>simp only [Option.bind_some];cases mE cd rr pl r3 z<;>simp
                        rw [WT]
                        simp only [Option.bind_some]
                        refine ⟨fun e'=> ?_,fun hs rest e'=> ?_⟩
                        · rw [kC (by simpa using e')];rfl
                        · obtain ⟨p3,e3,e4⟩:=Option.map_eq_some_iff.1 e'
                          simp only [Prod.mk.injEq] at e4
                          obtain ⟨rfl,rfl⟩:=e4
                          obtain ⟨a1,st',a2,a3⟩:=kD _ _ (by rw [e3])
                          refine ⟨a1,st',a2,fun y r' e5=> ?_⟩
                          rw [a3 y r' e5]
                          cases dz cd rr pl y fs ⟨loop,is,res,st'⟩ with
                          |none=>rfl
                          |some z=>simp only [Option.bind_some];rw [done];rfl
                      · simp [e3] at hr
                · simp [h4] at hr
      · simp only [h2,if_false] at hr
        have hx0:dz cd rr pl x fs (dV.mk loop is res st)=(pl x st labs).map fun s=>fs++[dV.mk loop is res s]:=by
          simp only [dz,h11,h5,h2,if_false,hl]
        rw [hx0]
        simp only [iP,h1,if_false,h2]
        cases pl x st labs with
        |none=>simp
        | some s1=>
          simp only [Option.map_some,Option.bind_some]
          have i1:=ih r d labs res s1 base fs loop is gE (by omega) hr hne (by rw [hl];simp [qd]) hb
          refine ⟨fun e'=> ?_,fun hs rest e'=> ?_⟩
          · rw [i1.1 (by simpa using e')];rfl
          · obtain ⟨p3,e3,e4⟩:=Option.map_eq_some_iff.1 e'
            simp only [Prod.mk.injEq] at e4
            obtain ⟨rfl,rfl⟩:=e4
            obtain ⟨a1,st',a2,a3⟩:=i1.2 _ _ (by rw [e3])
            refine ⟨a1,st',a2,fun y r' e5=> ?_⟩
            rw [a3 y r' e5]
            cases dz cd rr pl y fs ⟨loop,is,res,st'⟩ with
            |none=>rfl
            |some z=>simp only [Option.bind_some];cases mE cd rr pl r' z<;>rfl
theorem IV {f:Nat} {s:List ι} {res:List UInt8} (h:s.length<f) (hr:dD f (s.map cd) 0=some [11]):
    mE cd rr pl s [dV.mk False False res ([],False)]=(iP cd rr pl f s [res] res ([],False) 0).map Prod.fst:=by
  have i:=IU cd rr pl f s 0 [res] res ([],False) 0 [] False False [11] h hr (by simp) (by simp [qd]) rfl
  generalize iP cd rr pl f s [res] res ([],False) 0=o at i
  match o,i with
  |none,i=>simpa using i.1 rfl
  | some (hs,rest),i=>
    obtain ⟨e,st',hc,q⟩:=i.2 _ _ rfl
    obtain ⟨x,rfl⟩:∃x,rest=[x]:=by
      cases rest with
      |nil=>simp at e
      | cons x t=>cases t with
        |nil=>exact ⟨x,rfl⟩
        |cons y t=>simp at e
    have q:=q x [] rfl
    simp only [List.nil_append] at q
    have hx:cd x=11:=by simpa using e
    have Nf:nh (dV.mk False False res st'):=hc
    rw [q]
    simp [dz,hx,Nf,mE]
end
end Go.Hl
end
section
namespace Go.Hl
structure nK where
 Code:Int
 Name:List UInt8
 Form:Int
 sW:List UInt8
 q8:List UInt8
 deriving DecidableEq
structure mq where
 code:Int
 name:List UInt8
 form:Int
 takes:List UInt8
 u5:List UInt8
 deriving DecidableEq
structure CS where
 first:Int
 many:Int
 group:Int
 bits:Int
 from_:Int
 deriving DecidableEq
def qF (x:nK):List VP:=[ag .i64 x.Code,cM x.Name,ag .i64 x.Form,ah 1 aj x.sW,ah 1 aj x.q8]
def fB (x:mq):List VP:=[ag .i64 x.code,cM x.name,ag .i64 x.form,cM x.takes,cM x.u5]
def qG (x:CS):List VP:=[ag .i64 x.first,ag .i64 x.many,ag .i64 x.group,ag .i64 x.bits,ag .i64 x.from_]
def sX (x:Int×Int):List VP:=[ag .i64 x.1,ag .i64 x.2]
def iX (x:List UInt8):List VP:=[cM x]
instance:gN 5 qF:=⟨fun _=>rfl,fun x q h=>by simp only [qF,List.mem_cons,List.not_mem_nil,or_false] at h;rcases h with h|h|h|h|h<;>rw [h]<;>infer_instance⟩
instance:gN 5 fB:=⟨fun _=>rfl,fun x q h=>by simp only [fB,List.mem_cons,List.not_mem_nil,or_false] at h;rcases h with h|h|h|h|h<;>rw [h]<;>infer_instance⟩
instance:gN 5 qG:=⟨fun _=>rfl,fun x q h=>by simp only [qG,List.mem_cons,List.not_mem_nil,or_false] at h;rcases h with h|h|h|h|h<;>rw [h]<;>infer_instance⟩
instance:gN 2 sX:=⟨fun _=>rfl,fun x q h=>by simp only [sX,List.mem_cons,List.not_mem_nil,or_false] at h;rcases h with h|h<;>rw [h]<;>infer_instance⟩
instance:gN 1 iX:=⟨fun _=>rfl,fun x q h=>by simp only [iX,List.mem_cons,List.not_mem_nil,or_false] at h;rw [h];infer_instance⟩
instance (x:nK):bC (qF x):=⟨fun q h=>(inferInstance:gN 5 qF).flat x q h⟩
instance (x:mq):bC (fB x):=⟨fun q h=>(inferInstance:gN 5 fB).flat x q h⟩
instance (x:CS):bC (qG x):=⟨fun q h=>(inferInstance:gN 5 qG).flat x q h⟩
instance (x:Int×Int):bC (sX x):=⟨fun q h=>(inferInstance:gN 2 sX).flat x q h⟩
def gG:List mq:=[
 ⟨0,[117,110,114,101,97,99,104,97,98,108,101],0,[],[]⟩,
 ⟨1,[110,111,112],0,[],[]⟩,
 ⟨2,[98,108,111,99,107],1,[],[]⟩,
 ⟨3,[108,111,111,112],1,[],[]⟩,
 ⟨4,[105,102],1,[],[]⟩,
 ⟨5,[101,108,115,101],0,[],[]⟩,
 ⟨11,[101,110,100],0,[],[]⟩,
 ⟨12,[98,114],2,[],[]⟩,
 ⟨13,[98,114,95,105,102],2,[],[]⟩,
 ⟨14,[98,114,95,116,97,98,108,101],3,[],[]⟩,
 ⟨15,[114,101,116,117,114,110],0,[],[]⟩,
 ⟨16,[99,97,108,108],4,[],[]⟩,
 ⟨17,[99,97,108,108,95,105,110,100,105,114,101,99,116],5,[],[]⟩,
 ⟨26,[100,114,111,112],0,[],[]⟩,
 ⟨27,[115,101,108,101,99,116],0,[],[]⟩,
 ⟨32,[108,111,99,97,108,46,103,101,116],6,[],[]⟩,
 ⟨33,[108,111,99,97,108,46,115,101,116],6,[],[]⟩,
 ⟨34,[108,111,99,97,108,46,116,101,101],6,[],[]⟩,
 ⟨35,[103,108,111,98,97,108,46,103,101,116],7,[],[]⟩,
 ⟨36,[103,108,111,98,97,108,46,115,101,116],7,[],[]⟩,
 ⟨40,[105,51,50,46,108,111,97,100],8,[105],[105]⟩,
 ⟨41,[105,54,52,46,108,111,97,100],8,[105],[108]⟩,
 ⟨44,[105,51,50,46,108,111,97,100,56,95,115],8,[105],[105]⟩,
 ⟨45,[105,51,50,46,108,111,97,100,56,95,117],8,[105],[105]⟩,
 ⟨46,[105,51,50,46,108,111,97,100,49,54,95,115],8,[105],[105]⟩,
 ⟨47,[105,51,50,46,108,111,97,100,49,54,95,117],8,[105],[105]⟩,
 ⟨48,[105,54,52,46,108,111,97,100,56,95,115],8,[105],[108]⟩,
 ⟨49,[105,54,52,46,108,111,97,100,56,95,117],8,[105],[108]⟩,
 ⟨50,[105,54,52,46,108,111,97,100,49,54,95,115],8,[105],[108]⟩,
 ⟨51,[105,54,52,46,108,111,97,100,49,54,95,117],8,[105],[108]⟩,
 ⟨52,[105,54,52,46,108,111,97,100,51,50,95,115],8,[105],[108]⟩,
 ⟨53,[105,54,52,46,108,111,97,100,51,50,95,117],8,[105],[108]⟩,
 ⟨54,[105,51,50,46,115,116,111,114,101],8,[105,105],[]⟩,
 ⟨55,[105,54,52,46,115,116,111,114,101],8,[105,108],[]⟩,
 ⟨58,[105,51,50,46,115,116,111,114,101,56],8,[105,105],[]⟩,
 ⟨59,[105,51,50,46,115,116,111,114,101,49,54],8,[105,105],[]⟩,
 ⟨60,[105,54,52,46,115,116,111,114,101,56],8,[105,108],[]⟩,
 ⟨61,[105,54,52,46,115,116,111,114,101,49,54],8,[105,108],[]⟩,
 ⟨62,[105,54,52,46,115,116,111,114,101,51,50],8,[105,108],[]⟩,
 ⟨63,[109,101,109,111,114,121,46,115,105,122,101],9,[],[105]⟩,
 ⟨64,[109,101,109,111,114,121,46,103,114,111,119],9,[105],[105]⟩,
 ⟨65,[105,51,50,46,99,111,110,115,116],11,[],[105]⟩,
 ⟨66,[105,54,52,46,99,111,110,115,116],11,[],[108]⟩,
 ⟨167,[105,51,50,46,119,114,97,112,95,105,54,52],0,[108],[105]⟩,
 ⟨172,[105,54,52,46,101,120,116,101,110,100,95,105,51,50,95,115],0,[105],[108]⟩,
 ⟨173,[105,54,52,46,101,120,116,101,110,100,95,105,51,50,95,117],0,[105],[108]⟩,
 ⟨192,[105,51,50,46,101,120,116,101,110,100,56,95,115],0,[105],[105]⟩]
def iG:List mq:=[
 ⟨193,[105,51,50,46,101,120,116,101,110,100,49,54,95,115],0,[105],[105]⟩,
 ⟨194,[105,54,52,46,101,120,116,101,110,100,56,95,115],0,[108],[108]⟩,
 ⟨195,[105,54,52,46,101,120,116,101,110,100,49,54,95,115],0,[108],[108]⟩,
 ⟨196,[105,54,52,46,101,120,116,101,110,100,51,50,95,115],0,[108],[108]⟩,
 ⟨64522,[109,101,109,111,114,121,46,99,111,112,121],10,[105,105,105],[]⟩,
 ⟨64523,[109,101,109,111,114,121,46,102,105,108,108],9,[105,105,105],[]⟩]
def fC:List CS:=[⟨69,1,2,32,3⟩,⟨70,10,1,32,0⟩,⟨80,1,2,64,3⟩,⟨81,10,1,64,0⟩,⟨103,3,2,32,0⟩,⟨106,15,0,32,0⟩,⟨121,3,2,64,0⟩,⟨124,15,0,64,0⟩]
def IW:List (List UInt8):=[[97,100,100],[115,117,98],[109,117,108],[100,105,118,95,115],[100,105,118,95,117],[114,101,109,95,115],[114,101,109,95,117],[97,110,100],[111,114],[120,111,114],[115,104,108],[115,104,114,95,115],[115,104,114,95,117],[114,111,116,108],[114,111,116,114]]
def zo:List (List UInt8):=[[101,113],[110,101],[108,116,95,115],[108,116,95,117],[103,116,95,115],[103,116,95,117],[108,101,95,115],[108,101,95,117],[103,101,95,115],[103,101,95,117]]
def NP:List (List UInt8):=[[99,108,122],[99,116,122],[112,111,112,99,110,116],[101,113,122]]
def xw:List (List UInt8):=[[117,110,114,101,97,99,104,97,98,108,101],
 [110,111,112],
 [98,108,111,99,107],
 [108,111,111,112],
 [105,102],
 [101,108,115,101],
 [],
 [],
 [],
 [],
 [],
 [101,110,100],
 [98,114],
 [98,114,95,105,102],
 [98,114,95,116,97,98,108,101],
 [114,101,116,117,114,110],
 [99,97,108,108],
 [99,97,108,108,95,105,110,100,105,114,101,99,116],
 [],
 [],
 [],
 [],
 [],
 [],
 [],
 [],
 [100,114,111,112],
 [115,101,108,101,99,116],
 [],
 [],
 [],
 [],
 [108,111,99,97,108,46,103,101,116],
 [108,111,99,97,108,46,115,101,116],
 [108,111,99,97,108,46,116,101,101],
 [103,108,111,98,97,108,46,103,101,116],
 [103,108,111,98,97,108,46,115,101,116],
 [],
 [],
 [],
 [105,51,50,46,108,111,97,100],
 [105,54,52,46,108,111,97,100],
 [],
 [],
 [105,51,50,46,108,111,97,100,56,95,115],
 [105,51,50,46,108,111,97,100,56,95,117],
 [105,51,50,46,108,111,97,100,49,54,95,115],
 [105,51,50,46,108,111,97,100,49,54,95,117],
 [105,54,52,46,108,111,97,100,56,95,115],
 [105,54,52,46,108,111,97,100,56,95,117],
 [105,54,52,46,108,111,97,100,49,54,95,115],
 [105,54,52,46,108,111,97,100,49,54,95,117],
 [105,54,52,46,108,111,97,100,51,50,95,115],
 [105,54,52,46,108,111,97,100,51,50,95,117],
 [105,51,50,46,115,116,111,114,101],
 [105,54,52,46,115,116,111,114,101],
 [],
 [],
 [105,51,50,46,115,116,111,114,101,56],
 [105,51,50,46,115,116,111,114,101,49,54],
 [105,54,52,46,115,116,111,114,101,56],
 [105,54,52,46,115,116,111,114,101,49,54],
 [105,54,52,46,115,116,111,114,101,51,50],
 [109,101,109,111,114,121,46,115,105,122,101],
 [109,101,109,111,114,121,46,103,114,111,119],
 [105,51,50,46,99,111,110,115,116],
 [105,54,52,46,99,111,110,115,116],
 [],
 [],
 [105,51,50,46,101,113,122],
 [105,51,50,46,101,113],
 [105,51,50,46,110,101],
 [105,51,50,46,108,116,95,115],
 [105,51,50,46,108,116,95,117],
 [105,51,50,46,103,116,95,115],
 [105,51,50,46,103,116,95,117],
 [105,51,50,46,108,101,95,115],
 [105,51,50,46,108,101,95,117],
 [105,51,50,46,103,101,95,115],
 [105,51,50,46,103,101,95,117],
 [105,54,52,46,101,113,122],
 [105,54,52,46,101,113],
 [105,54,52,46,110,101],
 [105,54,52,46,108,116,95,115],
 [105,54,52,46,108,116,95,117],
 [105,54,52,46,103,116,95,115],
 [105,54,52,46,103,116,95,117],
 [105,54,52,46,108,101,95,115],
 [105,54,52,46,108,101,95,117],
 [105,54,52,46,103,101,95,115],
 [105,54,52,46,103,101,95,117],
 [],
 [],
 [],
 [],
 [],
 [],
 [],
 [],
 [],
 [],
 [],
 [],
 [105,51,50,46,99,108,122],
 [105,51,50,46,99,116,122],
 [105,51,50,46,112,111,112,99,110,116],
 [105,51,50,46,97,100,100],
 [105,51,50,46,115,117,98],
 [105,51,50,46,109,117,108],
 [105,51,50,46,100,105,118,95,115],
 [105,51,50,46,100,105,118,95,117],
 [105,51,50,46,114,101,109,95,115],
 [105,51,50,46,114,101,109,95,117],
 [105,51,50,46,97,110,100],
 [105,51,50,46,111,114],
 [105,51,50,46,120,111,114],
 [105,51,50,46,115,104,108],
 [105,51,50,46,115,104,114,95,115],
 [105,51,50,46,115,104,114,95,117],
 [105,51,50,46,114,111,116,108],
 [105,51,50,46,114,111,116,114],
 [105,54,52,46,99,108,122],
 [105,54,52,46,99,116,122],
 [105,54,52,46,112,111,112,99,110,116],
 [105,54,52,46,97,100,100],
 [105,54,52,46,115,117,98],
 [105,54,52,46,109,117,108],
 [105,54,52,46,100,105,118,95,115],
 [105,54,52,46,100,105,118,95,117],
 [105,54,52,46,114,101,109,95,115],
 [105,54,52,46,114,101,109,95,117],
 [105,54,52,46,97,110,100],
 [105,54,52,46,111,114],
 [105,54,52,46,120,111,114],
 [105,54,52,46,115,104,108],
 [105,54,52,46,115,104,114,95,115],
 [105,54,52,46,115,104,114,95,117],
 [105,54,52,46,114,111,116,108],
 [105,54,52,46,114,111,116,114],
 [],
 [],
 [],
 [],
 [],
 [],
 [],
 [],
 [],
 [],
 [],
 [],
 [],
 [],
 [],
 [],
 [],
 [],
 [],
 [],
 [],
 [],
 [],
 [],
 [],
 [],
 [],
 [],
 [105,51,50,46,119,114,97,112,95,105,54,52],
 [],
 [],
 [],
 [],
 [105,54,52,46,101,120,116,101,110,100,95,105,51,50,95,115],
 [105,54,52,46,101,120,116,101,110,100,95,105,51,50,95,117],
 [],
 [],
 [],
 [],
 [],
 [],
 [],
 [],
 [],
 [],
 [],
 [],
 [],
 [],
 [],
 [],
 [],
 [],
 [105,51,50,46,101,120,116,101,110,100,56,95,115],
 [105,51,50,46,101,120,116,101,110,100,49,54,95,115],
 [105,54,52,46,101,120,116,101,110,100,56,95,115],
 [105,54,52,46,101,120,116,101,110,100,49,54,95,115],
 [105,54,52,46,101,120,116,101,110,100,51,50,95,115]]
def xx:List (Int×Int):=[(28,28),(37,38),(42,43),(56,57),(67,68),(91,102),(139,166),(168,171),(174,191),(208,210),(253,253),(64512,64519),(64520,64521),(64524,64526),(64527,64529)]
theorem sY {α:Type} {p:α→Bool}:∀{l:List α} {k:Nat} {x:α},l[k]?=some x→p x=true→(∀j y,j<k→l[j]?=some y→p y=false)→l.find? p=some x
 |[],_,_,h,_,_=>by simp at h
 |y::l,0,x,h,hp,_=>by simp at h;subst h;simp [hp]
 |y::l,k+1,x,h,hp,hn=>by
  rw [List.find?_cons_of_neg (by simpa using hn 0 y (by omega) rfl)]
  exact sY (l:=l) (k:=k) (by simpa using h) hp (fun j z hj hz=>hn (j+1) z (by omega) (by simpa using hz))
def fD (l:List UInt8):List UInt8:=l.map fun c=>if c=108 then 126 else 127
def oS (l:List UInt8):Prop:=∀b∈l,b<128
instance (l:List UInt8):Decidable (oS l):=inferInstanceAs (Decidable (∀b∈l,b<128))
def rU (r:mq):nK:=⟨r.code,r.name,r.form,fD r.takes,fD r.u5⟩
def Te:nK:=⟨0,[],0,[],[]⟩
def Pu:mq:=⟨0,[],0,[],[]⟩
def ni (code:Int) (s:CS):Bool:=decide (s.first≤code∧code<s.first+s.many)
def qf (code:Int):Option (Int×Int×Int):=(fC.find? (ni code)).map fun s=>(s.group,s.from_+code-s.first,s.bits)
def lz (b:Int):List UInt8:=if b=64 then [105,54,52,46] else [105,51,50,46]
def mF (b:Int):List UInt8:=if b=64 then [108] else [105]
def j4 (code g n b:Int):mq:=
 if g=0 then ⟨code,lz b++IW.getD n.toNat [],0,mF b++mF b,mF b⟩
 else if g=1 then ⟨code,lz b++zo.getD n.toNat [],0,mF b++mF b,[105]⟩
 else if n=3 then ⟨code,lz b++NP.getD n.toNat [],0,mF b,[105]⟩
 else ⟨code,lz b++NP.getD n.toNat [],0,mF b,mF b⟩
def fE (code:Int):Option mq:=(qf code).map fun p=>j4 code p.1 p.2.1 p.2.2
def iY (code:Int) (r:mq):Bool:=decide (r.code=code)
def qO (code:Int):Option mq:=match gG.find? (iY code) with|some r=>some r|none=>match iG.find? (iY code) with|some r=>some r|none=>fE code
def ec (code:Int):Option nK:=(qO code).map rU
def qg (code:Int):Prop:=∃r∈xx,r.1≤code∧code≤r.2
instance (code:Int):Decidable (qg code):=inferInstanceAs (Decidable (∃r∈xx,r.1≤code∧code≤r.2))
def gH:List (List UInt8):=[[56],[49,54],[51,50]]
def xy (name:List UInt8):List UInt8:=qv (qv (tR name 46).2.1 [95,115]) [95,117]
def uu (name:List UInt8):Int:=if kY (xy name) [56] then 1 else if kY (xy name) [49,54] then 2 else if kY (xy name) [51,50] then 4 else if tQ name [105,54,52] then 8 else 4
def j5 (code:Int):Option Int:=match ec code with|none=>none|some x=>if x.Form=8 then some (uu x.Name) else none
def hJ (code:Int):List UInt8:=if code=64522 then [109,101,109,111,114,121,46,99,111,112,121] else if code=64523 then [109,101,109,111,114,121,46,102,105,108,108] else if code<0∨196<code then [] else xw.getD code.toNat []
def aQ (c:Int):Int:=
 if 2≤c∧c≤4 then 1 else if c=12∨c=13 then 2 else if c=14 then 3 else if c=16 then 4 else if c=17 then 5 else if 32≤c∧c≤34 then 6 else if c=35∨c=36 then 7 else if 40≤c∧c≤62 then 8 else if (c=63∨c=64)∨c=64523 then 9 else if c=64522 then 10 else if c=65∨c=66 then 11 else 0
def aK (c:Int):List UInt8×List UInt8:=
 if c<40 then ([],[]) else if c=40∨44≤c∧c≤47 then ([127],[127]) else if c=41∨48≤c∧c≤53 then ([127],[126]) else if (c=54∨c=58)∨c=59 then ([127,127],[])
 else if c≤62 then ([127,126],[]) else if c=63∨c=65 then ([],[127]) else if c=66 then ([],[126]) else if c=80∨c=167 then ([126],[127])
 else if (70≤c∧c≤79)∨106≤c∧c≤120 then ([127,127],[127]) else if 81≤c∧c≤90 then ([126,126],[127]) else if 124≤c∧c≤138 then ([126,126],[126])
 else if c=172∨c=173 then ([127],[126]) else if (121≤c∧c≤123)∨194≤c∧c≤196 then ([126],[126]) else if 64522≤c then ([127,127,127],[]) else ([127],[127])
def fL (c:Int):Int:=
 if c=40∨c=52∨c=53∨c=54∨c=62 then 4 else if c=41∨c=55 then 8 else if c=44∨c=45∨c=48∨c=49∨c=58∨c=60 then 1 else if c=46∨c=47∨c=50∨c=51∨c=59∨c=61 then 2 else 0
def sZ (c:Int):Prop:=
 (c=28∨c=37∨c=38∨c=42∨c=43∨c=56∨c=57∨c=67∨c=68∨c=208∨c=209∨c=210∨c=253)∨(91≤c∧c≤102∨139≤c∧c≤166∨168≤c∧c≤171∨174≤c∧c≤191∨64512≤c∧c≤64521∨64524≤c∧c≤64529)
instance (c:Int):Decidable (sZ c):=inferInstanceAs (Decidable (_∨_))
theorem Fg:∀r∈gG,oS r.takes∧oS r.u5∧r.takes.length≤3∧r.u5.length≤3:=by decide
theorem Fh:∀r∈iG,oS r.takes∧oS r.u5∧r.takes.length≤3∧r.u5.length≤3:=by decide
def CT (r:mq):Prop:=oS r.takes∧oS r.u5∧r.takes.length≤3∧r.u5.length≤3
theorem NQ (b:Int):oS (mF b)∧(mF b).length=1:=by unfold mF;split<;>exact ⟨by decide,rfl⟩
theorem Fi (b:Int):oS (mF b++mF b):=by unfold mF;split<;>decide
theorem IX (code g n b:Int):CT (j4 code g n b):=by
 have h:=NQ b
 have h2:=Fi b
 have h3:oS [105]:=by decide
 unfold j4 CT
 split
 · exact ⟨h2,h.1,by simp [h.2],by simp [h.2]⟩
 split
 · exact ⟨h2,h3,by simp [h.2],by simp⟩
 split
 · exact ⟨h.1,h3,by simp [h.2],by simp⟩
 · exact ⟨h.1,h.1,by simp [h.2],by simp [h.2]⟩
theorem G7 {code:Int} {r:mq} (h:qO code=some r):CT r:=by
 unfold qO at h
 split at h
 · rename_i r' hr;cases h;exact Fg r (List.mem_of_find?_eq_some hr)
 · split at h
   · rename_i r' hr;cases h;exact Fh r (List.mem_of_find?_eq_some hr)
   · unfold fE at h
     cases hn:qf code with
     |none=>rw [hn] at h;cases h
     |some p=>rw [hn] at h;cases h;exact IX _ _ _ _
theorem IY:∀s∈fC,0≤s.from_∧(s.group=0∧s.from_+s.many≤15∨s.group=1∧s.from_+s.many≤10∨s.group=2∧s.from_+s.many≤4)∧(s.bits=32∨s.bits=64):=by decide
theorem CU {code g n b:Int} (h:qf code=some (g,n,b)):0≤n∧(g=0∧n<15∨g=1∧n<10∨g=2∧n<4)∧(b=32∨b=64):=by
 unfold qf at h
 cases hs:fC.find? (ni code) with
 |none=>rw [hs] at h;cases h
 |some s=>
  rw [hs] at h;cases h
  have h1:=IY s (List.mem_of_find?_eq_some hs)
  have h2:=List.find?_some hs
  simp only [ni,decide_eq_true_eq] at h2
  omega
end Go.Hl
namespace Go.Hl
theorem LJ:∀s∈fC,0≤s.first∧s.first≤200∧0≤s.many∧s.many≤20∧0≤s.from_∧s.from_≤10:=by decide
theorem NR {code:Int} {k:Nat} {s:CS} (hx:fC[k]?=some s) (hc:ni code s=true) (hn:cD (fun s=>ni code s=true) fC k):qf code=some (s.group,s.from_+code-s.first,s.bits):=by
 unfold qf;rw [sY hx hc (fun j y hj hy=>by simpa using hn j y hj hy)];rfl
theorem qH {code:Int} (hn:cD (fun s=>ni code s=true) fC fC.length):qf code=none:=by
 unfold qf;rw [List.find?_eq_none.2 (fun x hx=>hn.all (Nat.le_refl _) x hx)];rfl
theorem QM {code:Int} {k:Nat} {r:mq} (hx:gG[k]?=some r) (hc:r.code=code) (hn:cD (fun r=>r.code=code) gG k):qO code=some r:=by
 unfold qO;rw [sY hx (by simpa [iY] using hc) (fun j y hj hy=>by simpa [iY] using hn j y hj hy)]
theorem zp {code:Int} (hn:cD (fun r:mq=>r.code=code) gG gG.length):gG.find? (iY code)=none:=
 List.find?_eq_none.2 (fun x hx=>by have:=hn.all (Nat.le_refl _) x hx;simpa [iY] using this)
theorem IZ {code:Int} (hn:cD (fun r:mq=>r.code=code) iG iG.length):iG.find? (iY code)=none:=
 List.find?_eq_none.2 (fun x hx=>by have:=hn.all (Nat.le_refl _) x hx;simpa [iY] using this)
theorem QN {code:Int} {k:Nat} {r:mq} (h1:cD (fun r:mq=>r.code=code) gG gG.length) (hx:iG[k]?=some r) (hc:r.code=code) (hn:cD (fun r=>r.code=code) iG k):qO code=some r:=by
 unfold qO;rw [zp h1];simp only;rw [sY hx (by simpa [iY] using hc) (fun j y hj hy=>by simpa [iY] using hn j y hj hy)]
theorem LK {code:Int} (h1:cD (fun r:mq=>r.code=code) gG gG.length) (h2:cD (fun r:mq=>r.code=code) iG iG.length):qO code=fE code:=by
 unfold qO;rw [zp h1];simp only;rw [IZ h2]
theorem yq {code:Int} {p:Int×Int×Int} (h:qf code=some p):fE code=some (j4 code p.1 p.2.1 p.2.2):=by unfold fE;rw [h];rfl
theorem yt {code:Int} (h:qf code=none):fE code=none:=by unfold fE;rw [h];rfl
theorem u6 {l:List UInt8} {k:Nat} {x:UInt8} (h:l[k]?=some x):fD (l.take (k+1))=fD (l.take k)++[if x=108 then 126 else 127]:=by
 rw [←bt h];simp [fD]
theorem kL {l:List UInt8} {k:Nat} {x:UInt8} (h:l[k]?=some x) (hc:(x.toNat:Int)=108):fD (l.take (k+1))=fD (l.take k)++[126]:=by
 have:x=108:=UInt8.toNat_inj.1 (by simp;omega)
 rw [u6 h,if_pos this]
theorem kM {l:List UInt8} {k:Nat} {x:UInt8} (h:l[k]?=some x) (hc:¬(x.toNat:Int)=108):fD (l.take (k+1))=fD (l.take k)++[127]:=by
 have:¬x=108:=fun e=>hc (by subst e;rfl)
 rw [u6 h,if_neg this]
theorem xz (l:List UInt8):(fD l).length=l.length:=by simp [fD]
theorem CV:∀l:List (List UInt8),l.flatMap iX=l.map cM
 |[]=>rfl
 |x::l=>by rw [List.flatMap_cons,List.map_cons,CV l];rfl
theorem lE {l:List (List UInt8)} {j:Nat} (h:j<l.length):(l.flatMap iX)[j]?=some (cM (l.getD j [])):=by
 rw [CV,List.getElem?_map,List.getElem?_eq_getElem h,List.getD_eq_getElem?_getD,List.getElem?_eq_getElem h];rfl
theorem CW (b:Int):(lz b).length=4:=by unfold lz;split<;>rfl
theorem CX:∀s∈IW,s.length≤10:=by decide
theorem zq:∀s∈zo,s.length≤10:=by decide
theorem AA:∀s∈NP,s.length≤10:=by decide
theorem s4 {l:List (List UInt8)} (h:∀s∈l,s.length≤10) (j:Nat):(l.getD j []).length≤10:=by
 rw [List.getD_eq_getElem?_getD]
 cases hj:l[j]? with
 |none=>simp
 |some s=>exact h s (List.mem_of_getElem? hj)
end Go.Hl
namespace Go.Hl
theorem NS {code:Int} {x:nK} (h:ec code=some x):x.Name≠[46]∧x.Name.length≤20:=by
 unfold ec at h
 cases hr:qO code with
 |none=>rw [hr] at h;cases h
 | some r=>
  rw [hr] at h;cases h
  show r.name≠[46]∧r.name.length≤20
  have h1:∀r∈gG,r.name≠[46]∧r.name.length≤20:=by decide
  have h2:∀r∈iG,r.name≠[46]∧r.name.length≤20:=by decide
  unfold qO at hr
  split at hr
  · rename_i r' hf;cases hr;exact h1 _ (List.mem_of_find?_eq_some hf)
  · split at hr
    · rename_i r' hf;cases hr;exact h2 _ (List.mem_of_find?_eq_some hf)
    · unfold fE at hr
      cases hn:qf code with
      |none=>rw [hn] at hr;cases hr
      | some p=>
       rw [hn] at hr;cases hr
       have hk:=CW p.2.2
       have key:∀(T:List (List UInt8)),(∀s∈T,s.length≤10)→lz p.2.2++T.getD p.2.1.toNat []≠[46]∧(lz p.2.2++T.getD p.2.1.toNat []).length≤20:=fun T hT=>by
        have hl:=s4 hT p.2.1.toNat
        refine ⟨fun e=> ?_,by rw [List.length_append];omega⟩
        have:=congrArg List.length e
        rw [List.length_append] at this
        simp at this;omega
       unfold j4
       dsimp only
       split
       · exact key _ CX
       split
       · exact key _ zq
       split
       · exact key _ AA
       · exact key _ AA
theorem u7 {code:Int} (h:ec code=none):j5 code=none:=by unfold j5;rw [h]
theorem CY {code:Int} {x:nK} (h:ec code=some x) (hf:x.Form≠8):j5 code=none:=by unfold j5;rw [h];simp [hf]
theorem Fj {code:Int} {x:nK} (h:ec code=some x) (hf:x.Form=8):j5 code=some (uu x.Name):=by unfold j5;rw [h];simp [hf]
theorem I0 {name s:List UInt8} {k:Nat} (hs:gH[k]?=some s) (hc:kY (xy name) s) (hn:cD (fun s=>kY (xy name) s) gH k):uu name=2^k:=by
 unfold uu
 match k,hs with
 |0,hs=>cases hs;rw [if_pos hc];rfl
 |1,hs=>cases hs;rw [if_neg (hn 0 _ (by omega) rfl),if_pos hc];rfl
 |2,hs=>cases hs;rw [if_neg (hn 0 _ (by omega) rfl),if_neg (hn 1 _ (by omega) rfl),if_pos hc];rfl
theorem zu {name:List UInt8} (hn:cD (fun s=>kY (xy name) s) gH gH.length):uu name=if tQ name [105,54,52] then 8 else 4:=by
 unfold uu
 rw [if_neg (hn 0 _ (by decide) rfl),if_neg (hn 1 _ (by decide) rfl),if_neg (hn 2 _ (by decide) rfl)]
theorem I1:xw.length=197:=by decide+kernel
theorem YO:∀{k:Nat},k<3→IntKind.i64.wrap (1*2^k)=(2:Int)^k
 |0,_=>rfl
 |1,_=>rfl
 |2,_=>rfl
 |k+3,h=>by omega
end Go.Hl
end
section
namespace Go.Hl
def zw (c:Int):Prop:=(j5 c=if 0<fL c then some (fL c) else none)∧(qg c↔sZ c)∧
 match ec c with
 |none=>hJ c=[]
 |some x=>x.Code=c∧x.Name=hJ c∧hJ c≠[]∧x.Form=aQ c∧x.sW=(aK c).1∧x.q8=(aK c).2∧¬qg c
instance (c:Int):Decidable (zw c):=by unfold zw;cases ec c<;>infer_instance
theorem NT:∀c:Fin 256,zw (c.val:Int):=by decide+kernel
theorem NU:∀c:Fin 18,zw ((c.val:Int)+64512):=by decide+kernel
variable {c:Int}
theorem CZ (h:c<0∨196<c∧c<64522∨64523<c):ec c=none:=by
 have h1:∀r∈gG,0≤r.code∧r.code≤196:=by decide
 have h2:∀r∈iG,0≤r.code∧r.code≤196∨64522≤r.code∧r.code≤64523:=by decide
 have h3:∀s∈fC,0≤s.first∧s.first+s.many≤197:=by decide
 unfold ec qO fE qf
 rw [List.find?_eq_none.2 (fun r hr=>by have:=h1 r hr;simp [iY];omega)]
 simp only
 rw [List.find?_eq_none.2 (fun r hr=>by have:=h2 r hr;simp [iY];omega)]
 simp only
 rw [List.find?_eq_none.2 (fun s hs=>by have:=h3 s hs;simp [ni];omega)]
 rfl
theorem LL (h:c<0∨255<c∧c<64512∨64529<c):zw c:=by
 have hf:ec c=none:=CZ (by omega)
 have h4:∀r∈xx,0≤r.1∧r.2≤255∨64512≤r.1∧r.2≤64529:=by decide
 have hno:¬qg c:=fun ⟨r,hr,hc⟩=>by have:=h4 r hr;omega
 have Tf:¬sZ c:=by unfold sZ;omega
 have hw:fL c=0:=by unfold fL;repeat rw [if_neg (by omega)]
 refine ⟨?_,⟨fun h=>(hno h).elim,fun h=>(Tf h).elim⟩, ?_⟩
 · rw [u7 hf,hw];rfl
 · rw [hf]
   show hJ c=[]
   unfold hJ
   rw [if_neg (by omega),if_neg (by omega)]
   by_cases h0:c<0∨196<c
   · rw [if_pos h0]
   · omega
theorem xA (c:Int):zw c:=by
 by_cases h1:0≤c∧c<256
 · have:=NT ⟨c.toNat,by omega⟩
   rwa [show ((⟨c.toNat,by omega⟩:Fin 256).val:Int)=c by simp;omega] at this
 by_cases h2:64512≤c∧c<64530
 · have:=NU ⟨(c-64512).toNat,by omega⟩
   rwa [show ((⟨(c-64512).toNat,by omega⟩:Fin 18).val:Int)+64512=c by simp;omega] at this
 · exact LL (by omega)
theorem oA (h:ec c=none):hJ c=[]:=by have:=(xA c).2.2;rw [h] at this;exact this
theorem lG {x:nK} (h:ec c=some x):x.Code=c∧x.Name=hJ c∧hJ c≠[]∧x.Form=aQ c∧x.sW=(aK c).1∧x.q8=(aK c).2∧¬qg c:=by
 have:=(xA c).2.2;rw [h] at this;exact this
theorem LM:(ec c).isSome↔hJ c≠[]:=by
 cases h:ec c with
 |none=>simp [oA h]
 |some x=>simp [(lG h).2.2.1]
theorem I2 (c:Int):(j5 c).getD 0=fL c∧((j5 c).isSome↔0<fL c):=by
 rw [(xA c).1]
 have h0:0≤fL c:=by unfold fL;repeat (first|split|omega)
 split
 · rename_i h;simp [h]
 · rename_i h;simp;omega
theorem LN {α:Type} {P:α→Prop} {c:Prop} [Decidable c] {a b:α} (ha:P a) (hb:P b):P (if c then a else b):=by split<;>assumption
theorem iE (c:Int):(aK c).1.length≤3∧(aK c).2.length≤3:=by
 suffices h:(fun p:List UInt8×List UInt8=>p.1.length≤3∧p.2.length≤3) (aK c) from h
 unfold aK
 iterate 14 refine LN (P:=fun p:List UInt8×List UInt8=>p.1.length≤3∧p.2.length≤3) ⟨by simp,by simp⟩ ?_
 exact ⟨by simp,by simp⟩
end Go.Hl
end
section
namespace Go.Hl
structure mw where
 ax:List mD
 bF:List mD
 bE:List Prop
 ay:List UInt8
 eI:List Prop
 Table:Prop
 cL:mD
 aS:List UInt8
open Classical
noncomputable def nL (s:cU) (i o:List UInt8):Option cU:=(cF s i).map (bq · o)
noncomputable def bL (w:Prop):UInt8:=if w then 126 else 127
def hU (labs:List (List UInt8)) (n:Int):Option (List UInt8):=if n<(labs.length:Int)∧0≤n then labs[labs.length-1-n.toNat]? else none
def dL {α:Type} (l:List α) (n:Int):Option α:=if n<(l.length:Int)∧0≤n then l[n.toNat]? else none
noncomputable def o5 (v:mw) (x:au) (s:cU):Option cU:=
 (dL v.bE x.A).bind fun wa=>
 (if aQ x.Code=10 then dL v.bE x.B else some wa).bind fun wb=>
 if aQ x.Code=8 then
  if (¬wa∧4294967295<x.B)∨fL x.Code<2^x.cR.toNat then none
  else nL s (bL wa::(aK x.Code).1.tail) (aK x.Code).2
 else if x.Code=63 then nL s (aK x.Code).1 [bL wa]
 else if x.Code=64 then nL s [bL wa] [bL wa]
 else if x.Code=64523 then nL s [bL wa,127,bL wa] (aK x.Code).2
 else nL s [bL wa,bL wb,bL (wa∧wb)] (aK x.Code).2
noncomputable def fP (v:mw) (x:au) (s:cU) (labs:List (List UInt8)):Option cU:=
 if x.Code=0 then some ef
 else if x.Code=12 then (hU labs x.A).bind fun w=>(cF s w).map fun _=>ef
 else if x.Code=13 then (hU labs x.A).bind fun w=>nL s (w++[127]) w
 else if x.Code=14 then (hU labs x.A).bind fun w=>if ∀n∈x.L,hU labs n=some w then (cF s (w++[127])).map fun _=>ef else none
 else if x.Code=15 then (cF s v.cL.R).map fun _=>ef
 else if x.Code=16 then (dL v.ax x.A).bind fun g=>nL s g.P g.R
 else if x.Code=17 then (dL v.bF x.A).bind fun g=>if x.B=0∧v.Table then nL s (g.P++[127]) g.R else none
 else if x.Code=26 then (hH s 0).map Prod.fst
 else if x.Code=27 then (cF s [127]).bind fun s=>(hH s 0).bind fun p=>(hH p.1 p.2).map fun p=>bq p.1 [p.2]
 else if x.Code=32 then (dL v.aS x.A).map fun t=>bq s [t]
 else if x.Code=33 then (dL v.aS x.A).bind fun t=>cF s [t]
 else if x.Code=34 then (dL v.aS x.A).bind fun t=>nL s [t] [t]
 else if x.Code=35 then (dL v.ay x.A).map fun t=>bq s [t]
 else if x.Code=36 then (dL v.ay x.A).bind fun t=>(dL v.eI x.A).bind fun m=>if m then cF s [t] else none
 else if aQ x.Code<8∨10<aQ x.Code then nL s (aK x.Code).1 (aK x.Code).2
 else o5 v x s
end Go.Hl
end
section
namespace Go.Hl
def eK (n:Nat):Nat:=if n<128 then 1 else eK (n/128)+1
termination_by n
decreasing_by omega
def jJ (n:Int):Nat:=if-64≤n∧n<64 then 1 else jJ (n/128)+1
termination_by n.natAbs
decreasing_by omega
theorem C0 (n:Int):0<jJ n:=by unfold jJ;split<;>omega
variable {n:Nat}
theorem s6 (h:n<128):eK n=1:=by unfold eK;simp [h]
theorem vL (h:128≤n):eK n=eK (n/128)+1:=by rw [eK];simp [Nat.not_lt.2 h]
theorem s7 {n:Int} (h: -64≤n∧n<64):jJ n=1:=by unfold jJ;simp [h]
theorem xB {n:Int} (h:¬(-64≤n∧n<64)):jJ n=jJ (n/128)+1:=by rw [jJ];simp [h]
theorem NV:∀(k n:Nat),n<128^(k+1)→eK n≤k+1:=by
 intro k
 induction k with
 |zero=>intro n h;rw [s6 (by simpa using h)];omega
 |succ k ih=>
  intro n h
  by_cases h1:n<128
  · rw [s6 h1];omega
  · rw [vL (by omega)]
    have:=ih (n/128) (by rw [Nat.div_lt_iff_lt_mul (by omega)];rw [←Nat.pow_succ];exact h)
    omega
theorem cZ (h:n<18446744073709551616):eK n≤10:=NV 9 n (Nat.lt_of_lt_of_le h (by decide))
theorem NW:∀(k:Nat) (n:Int),-(64*128^k:Int)≤n→n<64*128^k→jJ n≤k+1:=by
 intro k
 induction k with
 |zero=>intro n h1 h2;rw [s7 (by omega)];omega
 |succ k ih=>
  intro n h1 h2
  by_cases h: -64≤n∧n<64
  · rw [s7 h];omega
  · rw [xB h]
    have e:(64*128^(k+1):Int)=(64*128^k)*128:=by rw [Int.pow_succ];omega
    rw [e] at h1 h2
    have:=ih (n/128) (by omega) (by omega)
    omega
theorem vM {n:Int} (h1: -9223372036854775808≤n) (h2:n<9223372036854775808):jJ n≤10:=NW 9 n (by omega) (by omega)
def Ka (m:Nat):Nat:=if m=0 then 0 else Nat.log2 m+1
theorem NX (m:Nat) (h:128≤m):Ka m=Ka (m/128)+7:=by
 have h0:m/128≠0:=by omega
 simp only [Ka,h0,if_false,show m≠0 by omega]
 have e:m/128=m/2/2/2/2/2/2/2:=by simp [Nat.div_div_eq_div_mul]
 have l:∀k:Nat,2≤k→Nat.log2 k=Nat.log2 (k/2)+1:=fun k hk=>by rw [Nat.log2_def];simp [hk]
 rw [e,l m (by omega),l (m/2) (by omega),l (m/2/2) (by omega),l (m/2/2/2) (by omega),l (m/2/2/2/2) (by omega),l (m/2/2/2/2/2) (by omega),l (m/2/2/2/2/2/2) (by omega)]
variable {k:Nat}
theorem Fk {m:Nat} (h:m<2^k):Ka m≤k:=by
 unfold Ka;split
 · omega
 · rename_i h0;have:=(Nat.log2_lt h0).2 h;omega
theorem QO {m:Nat} (h:2^k≤m):k<Ka m:=by
 unfold Ka
 have h0:m≠0:=by have:=Nat.two_pow_pos k;omega
 rw [if_neg h0]
 have:=(Nat.le_log2 h0).2 h;omega
theorem I3:∀(k:Nat) (n:Int),n.natAbs≤k→jJ n=(Ka (if n<0 then (-n-1).toNat else n.toNat)+7)/7:=by
  intro k
  induction k with
  | zero => intro n h;have:n=0:=by omega
            subst this;rw [s7 (by omega)];simp [Ka]
  | succ k ih=>
    intro n h
    generalize hm:(if n<0 then (-n-1).toNat else n.toNat)=m
    by_cases h1: -64≤n∧n<64
    · rw [s7 h1];have:=Fk (m:=m) (k:=6) (by split at hm<;>omega);omega
    · rw [xB h1,ih (n/128) (by omega)]
      have e:(if n/128<0 then (-(n/128)-1).toNat else (n/128).toNat)=m/128:=by split at hm<;>split<;>omega
      rw [e]
      by_cases h2:128≤m
      · rw [NX m h2];omega
      · have h3:m/128=0:=by omega
        have a:=Fk (m:=m) (k:=7) (by omega)
        have b:=QO (m:=m) (k:=6) (by split at hm<;>omega)
        rw [h3];simp only [Ka,if_true]
        simp only [Ka] at a b
        omega
def rV (n:Int):Prop:=n≤4294967295
def gy (x:au):Prop:=
 hJ x.Code≠[]∧¬(aQ x.Code≠11∧¬rV x.A∨x.Code=65∧¬rV x.A∨aQ x.Code≠8∧¬rV x.B)∧
 ¬(aQ x.Code=0∧x.A≠0∨aQ x.Code=1∧x.A≠64∧x.A≠126∧x.A≠127)∧
 ¬(aQ x.Code≠5∧aQ x.Code≠8∧aQ x.Code≠10∧x.B≠0∨aQ x.Code≠8∧x.cR≠0∨x.cR<0∨31<x.cR)∧
 (∀n∈x.L,rV n)∧(x.L=[]∨aQ x.Code=3∧x.L.length≤100)
def bw (n:Int):Nat:=eK n.toNat
def mz (x:au):Nat:=
 (if 64512≤x.Code then 1+bw (x.Code-64512) else 1)+
 (if aQ x.Code=1 then 1
  else if aQ x.Code=2∨aQ x.Code=4∨aQ x.Code=6∨aQ x.Code=7∨aQ x.Code=9 then bw x.A
  else if aQ x.Code=3 then eK x.L.length+(x.L.map bw).sum+bw x.A
  else if aQ x.Code=5∨aQ x.Code=10 then bw x.A+bw x.B
  else if aQ x.Code=8 then (if x.A=0 then bw x.cR else bw (x.cR+64)+bw x.A)+bw x.B
  else if aQ x.Code=11 then jJ (if x.Code=65 then (if x.A<2147483648 then x.A else x.A-4294967296) else (if x.A<9223372036854775808 then x.A else x.A-18446744073709551616))
  else 0)
def fI:List UInt8→List Nat
 |[]=>[]
 |t::l=>match l,fI l with
  |t'::_,n::r=>if t'=t then (n+1)::r else 1::n::r
  |_,_=>[1]
def I4 (b:jm):Nat:=eK (fI b.aS).length+((fI b.aS).map fun n=>eK n+1).sum+(b.L.map mz).sum
def mS (b:jm):Prop:=
 (∀x∈b.L,gy x)∧(∀t∈b.aS,t=126∨t=127)∧b.aS.length≤50∧ey (b.L.map (·.Code)) []∧I4 b≤4096
def ck (m:aU) (n:Int):mD:=(m.bF[n.toNat]?).getD ⟨[],[]⟩
def cn (m:aU) (f:cK):mw where
 ax:=m.aA.map (fun i=>ck m i.fV)++m.ax.map (fun g=>ck m g.fV)
 bF:=m.bF
 bE:=m.bI.map (·.bE)
 ay:=m.ay.map (·.Ty)
 eI:=m.ay.map (·.eI)
 Table:=0≤m.Table
 cL:=ck m f.fV
 aS:=(ck m f.fV).P++f.Body.aS
def dW (x:au):List UInt8:=if x.A=64 then [] else [UInt8.ofNat x.A.toNat]
noncomputable def ia (m:aU) (f:cK):Option (List Nat):=
 mE (·.Code) dW (fP (cn m f)) f.Body.L [dV.mk False False (ck m f.fV).R ([],False)]
def oB (m:aU) (f:cK):Prop:=mS f.Body∧∃hs,ia m f=some hs
def jE (m:aU):Prop:=dy m∧∀f∈m.ax,oB m f
theorem AB {m:aU} {f:cK} (h:mS f.Body) (hk:f.Body.L.length<k):
    ia m f=(iP (·.Code) dW (fP (cn m f)) k f.Body.L [(ck m f.fV).R] (ck m f.fV).R ([],False) 0).map Prod.fst:=
  IV _ _ _ hk ((uq (by simpa using hk)).1 h.2.2.2.1)
end Go.Hl
end
section
namespace Go.Hl
open Go.RowKit
structure Kb where
 loop:Prop
 is:Prop
 res:List UInt8
 h:Nat
 dead:Prop
def jF (b:Kb):List VP:=[ak b.loop,ak b.is,ah 1 aj b.res,ag .i64 (b.h:Int),ak b.dead]
instance:gN 5 jF:=⟨fun _=>rfl,fun x q h=>by simp only [jF,List.mem_cons,List.not_mem_nil,or_false] at h;rcases h with h|h|h|h|h<;>rw [h]<;>infer_instance⟩
instance (x:Kb):bC (jF x):=bC.of x
def kN (h:Nat) (k:dV) (s:cU):Kb:=⟨k.loop,k.is,k.res,h,s.2⟩
def cN (fs:List dV):List UInt8:=fs.flatMap (·.st.1)
def yu:Nat→List dV→List Kb
 |_,[]=>[]
 |h,k::fs=>kN h k k.st::yu (h+k.st.1.length) fs
abbrev iQ (fs:List dV):List Kb:=yu 0 fs
theorem zx (k:dV):∀(fs:List dV) (h:Nat),yu h (fs++[k])=yu h fs++[kN (h+qe fs) k k.st]
 |[],h=>by simp [yu,qe]
 |k'::fs,h=>by simp [yu,zx k fs,qe,Nat.add_assoc]
theorem C1:∀(fs:List dV) (h:Nat),(yu h fs).length=fs.length
 |[],_=>rfl
 |_::fs,h=>by simp [yu,C1 fs]
theorem xC (fs:List dV):(cN fs).length=qe fs:=by
 induction fs with
 |nil=>rfl
 |cons k fs ih=>simp only [cN,List.flatMap_cons,List.length_append] at ih ⊢;rw [ih];simp [qe]
theorem gf (fs:List dV) (k:dV):cN (fs++[k])=cN fs++k.st.1:=by simp [cN]
theorem j6 (fs:List dV) (k:dV):iQ (fs++[k])=iQ fs++[kN (cN fs).length k k.st]:=by rw [iQ,zx,Nat.zero_add,xC]
open Classical in
noncomputable def yw (b:Kb):List UInt8:=if b.loop then [] else b.res
theorem C2:∀(fs:List dV) (h:Nat),(yu h fs).map yw=fs.map qd
 |[],_=>rfl
 |k::fs,h=>by simp only [yu,List.map_cons,C2 fs];rfl
abbrev G8 (cb:Nat) (m:aU) (f:cK) (gs:SB) (ns:Nat) (gb:SB) (nb:Nat):HP:=aF cb [cg (bh m),ah 1 aj (cn m f).aS,ah 1 aj (ck m f.fV).P,ah 1 aj (ck m f.fV).R,af (br gs ns),af (br gb nb)]
abbrev LO (cb:Nat) (m:aU) (f:cK) (gs gb:SB) (st:List UInt8) (B:List Kb):List HP:=[G8 cb m f gs st.length gb B.length,av gs 1 aj st,av gb 5 jF B]
abbrev xD (cb:Nat) (m:aU) (f:cK) (gs:SB) (bb bc:Nat) (S0:List UInt8) (B:List Kb) (k:dV) (s:cU):List HP:=LO cb m f gs (some (bb,bc)) (S0++s.1) (B++[kN S0.length k s])
variable {w:UInt8} {d:Prop}
theorem G9 (h:d):hH ([],d) w=some (([],d),w):=by simp [hH,h]
theorem xE (h:¬d):hH ([],d) w=none:=by simp [hH,h]
variable {l:List UInt8}
theorem xF {g:UInt8} (h:g=w∨g=0∨w=0):hH (l++[g],d) w=some ((l,d),if g=0 then w else g):=by
 simp [hH,h]
theorem u9 {g:UInt8} (h:¬(g=w∨g=0∨w=0)):hH (l++[g],d) w=none:=by
 simp only [hH,List.getLast?_append,List.getLast?_singleton,Option.some_or]
 rw [if_neg h]
theorem mT (a:UInt8):(a.toNat:Int)=0↔a=0:=by
 rw [←UInt8.toNat_inj];simp
variable {α:Type}
theorem s8 {l:List α} (h:l≠[]):∃m x,l=m++[x]:=⟨l.dropLast,l.getLast h,(List.dropLast_concat_getLast h).symm⟩
theorem C3 (s:cU) (a b:List UInt8):Az s (a++b)=(Az s a).bind fun s=>Az s b:=by
 induction a generalizing s with
 |nil=>rfl
 |cons t a ih=>
  simp only [List.cons_append,Az]
  cases hH s t with
  |none=>rfl
  |some p=>simp only [Option.bind_some];exact ih _
theorem NY (s:cU) (a b:List UInt8):cF s (a++b)=(cF s b).bind fun s=>cF s a:=by
 unfold cF;rw [List.reverse_append,C3]
theorem fm (s:cU) (t:UInt8):cF s [t]=(hH s t).map Prod.fst:=by
 simp only [cF,List.reverse_cons,List.reverse_nil,List.nil_append,Az]
 cases hH s t<;>rfl
theorem ig (s:cU) (l:List UInt8) (t:UInt8):cF s (l++[t])=(hH s t).bind fun p=>cF p.1 l:=by
 rw [NY,fm];cases hH s t<;>rfl
variable {s:cU}
theorem LP {i:Nat} {t:UInt8} (h:l[i]?=some t):cF s (l.take (i+1))=(hH s t).bind fun p=>cF p.1 (l.take i):=by
 rw [←bt h,ig]
theorem nM (s:cU) (l:List UInt8):(bq s l).1.length=s.1.length+l.length:=by simp [bq]
theorem mA {p:cU×UInt8} (h:hH s w=some p):p.1.1.length≤s.1.length:=by
 unfold hH at h
 split at h
 · split at h
   · cases h;exact Nat.le_refl _
   · cases h
 · split at h
   · cases h;simp
   · cases h
theorem He:∀(l:List UInt8) {s s':cU},Az s l=some s'→s'.1.length≤s.1.length
 |[],s,s',h=>by cases h;exact Nat.le_refl _
 |t::l,s,s',h=>by
  simp only [Az] at h
  cases h1:hH s t with
  |none=>rw [h1] at h;cases h
  |some p=>rw [h1] at h;exact Nat.le_trans (He l h) (mA h1)
theorem rW {s':cU} (h:cF s l=some s'):s'.1.length≤s.1.length:=He _ h
variable {n:Int}
theorem C4 {L:List (List UInt8)} (h0:0≤n) (h:n<(L.length:Int)):∃w,hU L n=some w∧L[L.length-1-n.toNat]?=some w:=by
 have:L.length-1-n.toNat<L.length:=by omega
 exact ⟨L[L.length-1-n.toNat],by unfold hU;rw [if_pos ⟨h,h0⟩];exact List.getElem?_eq_getElem this,List.getElem?_eq_getElem this⟩
theorem zy {L:List (List UInt8)} (h:¬n<(L.length:Int)):hU L n=none:=by unfold hU;rw [if_neg (fun e=>h e.1)]
variable {L:List α}
theorem s9 (h0:0≤n) (h:n<(L.length:Int)):∃w,dL L n=some w∧L[n.toNat]?=some w:=by
 have:n.toNat<L.length:=by omega
 exact ⟨L[n.toNat],by unfold dL;rw [if_pos ⟨h,h0⟩];exact List.getElem?_eq_getElem this,List.getElem?_eq_getElem this⟩
theorem ta (h:¬n<(L.length:Int)):dL L n=none:=by unfold dL;rw [if_neg (fun e=>h e.1)]
theorem LQ {w:α} (h:dL L n=some w):0≤n∧n<(L.length:Int)∧L[n.toNat]?=some w:=by
 unfold dL at h
 split at h
 · rename_i hc;exact ⟨hc.2,hc.1,h⟩
 · cases h
def yx (res:List UInt8) (s:cU):Prop:=∃s',cF s res=some s'∧s'.1=[]
theorem Fl {x:UInt8}:(((x.toNat:Int)=(w.toNat:Int)∨(x.toNat:Int)=0)∨(w.toNat:Int)=0)↔(x=w∨x=0∨w=0):=by
 rw [zh,mT,mT,or_assoc]
theorem vN (a b:List α):a<+:a++b:=List.prefix_append a b
theorem Hf (h:0≤n):IntKind.u8.wrap n=((UInt8.ofNat n.toNat).toNat:Int):=by
 unfold IntKind.wrap
 simp [IntKind.signed,IntKind.bits]
 omega
theorem uv:aa (af (.bool false)) (ak False):=fun S w v h=>⟨false,h,by simp⟩
structure xG (m:aU) (f:cK):Prop where
 fits:dy m
 lo:(cn m f).aS.length≤60000
 own:ck m f.fV∈m.bF
structure xH (x:au):Prop where
 A0:0≤x.A
 vo:x.A<18446744073709551616
 B0:0≤x.B
 WU:x.B<18446744073709551616
 L0:∀n∈x.L,0≤n
 Ln:x.L.length≤60000
structure lA (x:au):Prop extends xH x where
 A16:x.Code=16→x.A≤4294967295
 a0:0≤x.cR
 QS:x.cR≤31
variable {m:aU}
theorem dy.yh (h:dy m):∀g∈m.bF,g.P.length≤20∧g.R.length≤20:=fun g hg=>by
 have h1:=eu.1 (bB.1 h.sigs).2 g hg
 have h2:Ad g:=Classical.not_not.1 ((cu (by decide)).1 h1)
 exact ⟨h2.1.1,h2.2.1⟩
theorem dy.lens (h:dy m):m.bF.length≤50∧m.aA.length≤20∧m.bI.length≤4∧m.ay.length≤50∧cw m≤100:=by
 have h1:=(bB.1 h.sigs).1
 have h2:=(bB.1 h.imports).1
 have h3:=(bB.1 h.dI).1
 have h4:=(bB.1 h.globals).1
 have h5:=h.funcs
 unfold jD at h5
 split at h5
 · cases h5
 · exact ⟨by omega,by omega,by omega,by omega,by omega⟩
theorem jn (h:iU n m.bF.length):m.bF[n.toNat]?=some (ck m n)∧ck m n∈m.bF:=by
 obtain ⟨h1,h2⟩:=h.at
 have:m.bF[n.toNat]?=some (ck m n):=by unfold ck;rw [List.getElem?_eq_getElem h1];rfl
 exact ⟨this,List.mem_of_getElem? this⟩
theorem C5 {s:mD} (h:m.bF[n.toNat]?=some s):ck m n=s:=by unfold ck;rw [h];rfl
theorem qI {f:cK} (h:dy m):dL (cn m f).ax n=gM m n:=by
 have h1:∀z∈m.aA,fl m z=0:=eu.1 (bB.1 h.imports).2
 have h2:∀z∈m.ax,pT m z=0:=oo h.funcs
 have hlen:(cn m f).ax.length=m.aA.length+m.ax.length:=by simp [cn]
 by_cases hc:iU n (cw m)
 · obtain ⟨s,hs⟩:=ud hc h1 h2
   rw [hs]
   have PR:=hc
   unfold iU cw at PR
   unfold dL
   rw [if_pos (by rw [hlen];omega)]
   by_cases hl:n<(m.aA.length:Int)
   · obtain ⟨x,hx,vO,_,_⟩:=wZ hs hl
     show (m.aA.map (fun i=>ck m i.fV)++m.ax.map (fun g=>ck m g.fV))[n.toNat]?=some s
     rw [List.getElem?_append_left (by simp;omega),List.getElem?_map,hx]
     exact congrArg some (C5 vO)
   · obtain ⟨x,hx,vO,_,_,_⟩:=Cg hs hl
     show (m.aA.map (fun i=>ck m i.fV)++m.ax.map (fun g=>ck m g.fV))[n.toNat]?=some s
     rw [List.getElem?_append_right (by simp;omega),List.getElem?_map,List.length_map]
     rw [show n.toNat-m.aA.length=(n-(m.aA.length:Int)).toNat by omega,hx]
     exact congrArg some (C5 vO)
 · have hno:¬(gM m n).isSome=true:=fun e=>hc ((GV h1 h2).1 e)
   have:gM m n=none:=by simpa using hno
   rw [this]
   unfold dL
   rw [if_neg (by rw [hlen];unfold iU cw at hc;omega)]
theorem bP {β:Type} {g:α→β}:dL (L.map g) n=(dL L n).map g:=by
 unfold dL
 rw [List.length_map]
 split
 · rw [List.getElem?_map]
 · rfl
theorem fF (fs:List dV) (b:dV) (s:cU):(iQ fs++[kN (cN fs).length b s]).map yw=(fs++[b]).map qd:=by
 rw [List.map_append,List.map_append,C2];rfl
def I5 (fs:List dV) (st:List UInt8) (B:List Kb):Prop:=B=iQ fs∧(fs≠[]→st=cN fs)
theorem LR (fs:List dV) (b:dV) (s:cU):I5 (fs++[{b with st:=s}]) (cN fs++s.1) (iQ fs++[kN (cN fs).length b s]):=
 ⟨by rw [j6];rfl,fun _=>by rw [gf]⟩
theorem I6 (s:cU):bq s []=s:=by simp [bq]
theorem mU (s:cU) (i:List UInt8):nL s i []=cF s i:=by
 unfold nL;cases cF s i<;>simp [I6]
section
variable {v:mw} {x:au} {s:cU} {labs:List (List UInt8)}
theorem Pv (h:x.Code=0):fP v x s labs=some ef:=by unfold fP;rw [if_pos h]
theorem uw (h:x.Code=12):fP v x s labs=(hU labs x.A).bind fun w=>(cF s w).map fun _=>ef:=by unfold fP;rw [if_neg (by omega),if_pos h]
theorem qh (h:x.Code=13):fP v x s labs=(hU labs x.A).bind fun w=>nL s (w++[127]) w:=by unfold fP;rw [if_neg (by omega),if_neg (by omega),if_pos h]
open Classical in
theorem lp (h:x.Code=14):fP v x s labs=(hU labs x.A).bind fun w=>if ∀n∈x.L,hU labs n=some w then (cF s (w++[127])).map fun _=>ef else none:=by unfold fP;rw [if_neg (by omega),if_neg (by omega),if_neg (by omega),if_pos h]
theorem AD (h : x.Code = 15) : fP v x s labs = (cF s v.cL.R).map fun _ => ef := by            unfold fP;iterate 4 rw [if_neg (by omega)]
                                                                                              rw [if_pos h]
theorem xI (h:x.Code=16):fP v x s labs=(dL v.ax x.A).bind fun g=>nL s g.P g.R:=by
 unfold fP;iterate 5 rw [if_neg (by omega)]
 rw [if_pos h]
open Classical in
theorem ux (h:x.Code=17):fP v x s labs=(dL v.bF x.A).bind fun g=>if x.B=0∧v.Table then nL s (g.P++[127]) g.R else none:=by
 unfold fP;iterate 6 rw [if_neg (by omega)]
 rw [if_pos h]
theorem Fm (h:x.Code=26):fP v x s labs=(hH s 0).map Prod.fst:=by
 unfold fP;iterate 7 rw [if_neg (by omega)]
 rw [if_pos h]
theorem rX (h:x.Code=27):fP v x s labs=(cF s [127]).bind fun s=>(hH s 0).bind fun p=>(hH p.1 p.2).map fun p=>bq p.1 [p.2]:=by
 unfold fP;iterate 8 rw [if_neg (by omega)]
 rw [if_pos h]
theorem AE (h:x.Code=32):fP v x s labs=(dL v.aS x.A).map fun t=>bq s [t]:=by
 unfold fP;iterate 9 rw [if_neg (by omega)]
 rw [if_pos h]
theorem xJ (h:x.Code=33):fP v x s labs=(dL v.aS x.A).bind fun t=>cF s [t]:=by
 unfold fP;iterate 10 rw [if_neg (by omega)]
 rw [if_pos h]
theorem xK (h:x.Code=34):fP v x s labs=(dL v.aS x.A).bind fun t=>nL s [t] [t]:=by
 unfold fP;iterate 11 rw [if_neg (by omega)]
 rw [if_pos h]
theorem AF (h:x.Code=35):fP v x s labs=(dL v.ay x.A).map fun t=>bq s [t]:=by
 unfold fP;iterate 12 rw [if_neg (by omega)]
 rw [if_pos h]
open Classical in
theorem rY (h:x.Code=36):fP v x s labs=(dL v.ay x.A).bind fun t=>(dL v.eI x.A).bind fun m=>if m then cF s [t] else none:=by
 unfold fP;iterate 13 rw [if_neg (by omega)]
 rw [if_pos h]
def dM (c:Int):Prop:=32≤c∧c≤36
def cq (c:Int):Prop:=c=16∨c=17∨c=26∨c=27
def eL (c:Int):Prop:=c=0∨c=2∨c=3∨c=4∨c=5∨c=11∨c=12∨c=13∨c=14∨c=15
theorem xL (h1:¬eL x.Code) (h2:¬dM x.Code) (h3:¬cq x.Code) (hf:aQ x.Code<8∨10<aQ x.Code):fP v x s labs=nL s (aK x.Code).1 (aK x.Code).2:=by
 unfold eL at h1;unfold dM at h2;unfold cq at h3
 unfold fP;iterate 14 rw [if_neg (by omega)]
 rw [if_pos hf]
theorem fo (h1:¬eL x.Code) (h2:¬dM x.Code) (h3:¬cq x.Code) (hf:¬(aQ x.Code<8∨10<aQ x.Code)):fP v x s labs=o5 v x s:=by
 unfold eL at h1;unfold dM at h2;unfold cq at h3
 unfold fP;iterate 14 rw [if_neg (by omega)]
 rw [if_neg hf]
open Classical in
theorem oC (hf:aQ x.Code=8):o5 v x s=(dL v.bE x.A).bind fun wa=>if (¬wa∧4294967295<x.B)∨fL x.Code<2^x.cR.toNat then none else nL s (bL wa::(aK x.Code).1.tail) (aK x.Code).2:=by
 unfold o5
 refine Option.bind_congr fun wa _=> ?_
 rw [if_neg (by omega),Option.bind_some,if_pos hf]
theorem LS {c:Int} (h:aQ c=9):c=63∨c=64∨c=64523:=by
 unfold aQ at h
 repeat' split at h
 all_goals omega
theorem Hg {c:Int} (h:aQ c=10):c=64522:=by
 unfold aQ at h
 repeat' split at h
 all_goals omega
theorem vP (h:x.Code=63):o5 v x s=(dL v.bE x.A).bind fun wa=>some (bq s [bL wa]):=by
 unfold o5
 have hf:aQ x.Code=9:=by rw [h];decide
 refine Option.bind_congr fun wa _=> ?_
 rw [if_neg (by omega),Option.bind_some,if_neg (by omega),if_pos h,h];rfl
theorem tc (h:x.Code=64):o5 v x s=(dL v.bE x.A).bind fun wa=>nL s [bL wa] [bL wa]:=by
 unfold o5
 have hf:aQ x.Code=9:=by rw [h];decide
 refine Option.bind_congr fun wa _=> ?_
 rw [if_neg (by omega),Option.bind_some,if_neg (by omega),if_neg (by omega),if_pos h]
theorem nN (h:x.Code=64523):o5 v x s=(dL v.bE x.A).bind fun wa=>cF s [bL wa,127,bL wa]:=by
 unfold o5
 have hf:aQ x.Code=9:=by rw [h];decide
 refine Option.bind_congr fun wa _=> ?_
 rw [if_neg (by omega),Option.bind_some,if_neg (by omega),if_neg (by omega),if_neg (by omega),if_pos h,h]
 exact mU _ _
theorem lP (h:x.Code=64522):o5 v x s=(dL v.bE x.A).bind fun wa=>(dL v.bE x.B).bind fun wb=>cF s [bL wa,bL wb,bL (wa∧wb)]:=by
 unfold o5
 have hf:aQ x.Code=10:=by rw [h];decide
 refine Option.bind_congr fun wa _=> ?_
 rw [if_pos hf]
 refine Option.bind_congr fun wb _=> ?_
 rw [if_neg (by omega),if_neg (by omega),if_neg (by omega),if_neg (by omega),h]
 exact mU _ _
end
theorem kO {w:Prop}:((bL w).toNat:Int)=126↔w:=by
 unfold bL;split<;>simp_all
noncomputable abbrev ij (m:aU) (f:cK) (x:au) (fs:List dV) (b:dV):Option (List dV):=dz (·.Code) dW (fP (cn m f)) x fs b
section
variable {m:aU} {f:cK} {x:au} {fs:List dV} {b:dV}
theorem xM (h11:x.Code≠11) (h5:x.Code≠5) (ho:¬aO x.Code):ij m f x fs b=(fP (cn m f) x b.st ((fs++[b]).map qd)).map fun s=>fs++[{b with st:=s}]:=by
 unfold ij dz;rw [if_neg h11,if_neg h5,if_neg ho]
open Classical in
theorem rZ (ho:aO x.Code):ij m f x fs b=(if x.Code=4 then cF b.st [127] else some b.st).map fun s=>fs++[{b with st:=s}]++[⟨x.Code=3,x.Code=4,dW x,([],False)⟩]:=by
 have ho':=ho
 unfold aO at ho'
 have e1:¬x.Code=11:=by omega
 have e2:¬x.Code=5:=by omega
 unfold ij dz;rw [if_neg e1,if_neg e2,if_pos ho]
theorem Fo (h:x.Code=5) (hc:yx b.res b.st):ij m f x fs b=some (fs++[{b with is:=False,st:=([],False)}]):=by
 have e1:¬x.Code=11:=by omega
 unfold ij dz;rw [if_neg e1,if_pos h,if_pos (show nh b from hc)]
theorem yy (h:x.Code=5) (hc:¬yx b.res b.st):ij m f x fs b=none:=by
 have e1:¬x.Code=11:=by omega
 unfold ij dz;rw [if_neg e1,if_pos h,if_neg (show ¬nh b from hc)]
theorem I7 (h:x.Code=11) (hc:yx b.res b.st∧(b.is→b.res=[])):ij m f x fs b=some (match fs.getLast? with|none=>[]|some t=>fs.dropLast++[{t with st:=bq t.st b.res}]):=by
 unfold ij dz;rw [if_pos h,if_pos (show nh b∧(b.is→b.res=[]) from hc)];try rfl
theorem AG (h:x.Code=11) (hc:¬(yx b.res b.st∧(b.is→b.res=[]))):ij m f x fs b=none:=by
 unfold ij dz;rw [if_pos h,if_neg (show ¬(nh b∧(b.is→b.res=[])) from hc)]
theorem LU (fs:List dV) (r:List UInt8):I5 (match fs.getLast? with|none=>[]|some t=>fs.dropLast++[{t with st:=bq t.st r}]) (cN fs++r) (iQ fs):=by
 rcases List.eq_nil_or_concat fs with rfl|⟨gs,t,rfl⟩
 · exact ⟨rfl,fun h=>absurd rfl h⟩
 · simp only [List.concat_eq_append,List.getLast?_append,List.getLast?_singleton,Option.some_or,List.dropLast_concat]
   refine ⟨?_,fun _=> ?_⟩
   · rw [j6,j6];first|done|rfl
   · rw [gf,gf];first|done|simp [bq,List.append_assoc]
theorem zz (fs:List dV) (b:dV) (s:cU) (x:au):I5 (fs++[{b with st:=s}]++[⟨x.Code=3,x.Code=4,dW x,([],False)⟩]) (cN fs++s.1) ((iQ fs++[kN (cN fs).length b s])++[kN (cN fs++s.1).length ⟨x.Code=3,x.Code=4,dW x,([],False)⟩ ([],False)]):=
 ⟨by rw [j6,j6,gf];rfl,fun _=>by rw [gf,gf];simp⟩
theorem I8 (fs:List dV) (b:dV):I5 (fs++[{b with is:=False,st:=([],False)}]) (cN fs) (iQ fs++[kN (cN fs).length ⟨b.loop,False,b.res,([],False)⟩ ([],False)]):=
 ⟨by rw [j6],fun _=>by rw [gf];simp⟩
end
end Go.Hl
end
section
namespace Go.Hl
variable {s:cU} {s':cU}
theorem ki {i o:List UInt8} (h:nL s i o=some s'):s'.1.length≤s.1.length+o.length:=by
 unfold nL at h
 obtain ⟨t,h1,rfl⟩:=Option.map_eq_some_iff.1 h
 rw [nM]
 have:=rW h1
 omega
theorem uy {w:List UInt8} (h:((cF s w).map fun _=>ef)=some s'):s'.1.length≤s.1.length:=by
 obtain ⟨t,h1,rfl⟩:=Option.map_eq_some_iff.1 h
 simp [ef]
theorem zA {L:List (List UInt8)} {n:Int} {w:List UInt8} (h:hU L n=some w):w∈L:=by
 unfold hU at h
 split at h
 · exact List.mem_of_getElem? h
 · cases h
theorem C6 {α:Type} {L:List α} {n:Int} {w:α} (h:dL L n=some w):w∈L:=by
 unfold dL at h
 split at h
 · exact List.mem_of_getElem? h
 · cases h
variable {v:mw} {x:au}
theorem I9 (ht:(aK x.Code).2.length≤20) (h:o5 v x s=some s'):s'.1.length≤s.1.length+20:=by
 unfold o5 at h
 obtain ⟨wa,_,h⟩:=Option.bind_eq_some_iff.1 h
 obtain ⟨wb,_,h⟩:=Option.bind_eq_some_iff.1 h
 split at h
 · split at h
   · cases h
   · have:=ki h;omega
 split at h
 · have:=ki h;simp only [List.length_cons,List.length_nil] at this;omega
 split at h
 · have:=ki h;simp only [List.length_cons,List.length_nil] at this;omega
 split at h
 · have:=ki h;omega
 · have:=ki h;omega
theorem LV {labs:List (List UInt8)} (hl:∀w∈labs,w.length≤20) (hF:∀g∈v.ax,g.R.length≤20) (hS:∀g∈v.bF,g.R.length≤20) (ht:(aK x.Code).2.length≤20)
    (h:fP v x s labs=some s'):s'.1.length≤s.1.length+20:=by
  unfold fP at h
  by_cases c0:x.Code=0
  · rw [if_pos c0] at h
    cases h;simp [ef]
  rw [if_neg c0] at h
  by_cases c1:x.Code=12
  · rw [if_pos c1] at h
    obtain ⟨w,hw,h⟩:=Option.bind_eq_some_iff.1 h
    have:=uy h;omega
  rw [if_neg c1] at h
  by_cases c2:x.Code=13
  · rw [if_pos c2] at h
    obtain ⟨w,hw,h⟩:=Option.bind_eq_some_iff.1 h
    have:=ki h;have:=hl w (zA hw);omega
  rw [if_neg c2] at h
  by_cases c3:x.Code=14
  · rw [if_pos c3] at h
    obtain ⟨w,hw,h⟩:=Option.bind_eq_some_iff.1 h
    split at h
    · have:=uy h;omega
    · cases h
  rw [if_neg c3] at h
  by_cases c4:x.Code=15
  · rw [if_pos c4] at h
    have:=uy h;omega
  rw [if_neg c4] at h
  by_cases c5:x.Code=16
  · rw [if_pos c5] at h
    obtain ⟨g,hg,h⟩:=Option.bind_eq_some_iff.1 h
    have:=ki h;have:=hF g (C6 hg);omega
  rw [if_neg c5] at h
  by_cases c6:x.Code=17
  · rw [if_pos c6] at h
    obtain ⟨g,hg,h⟩:=Option.bind_eq_some_iff.1 h
    split at h
    · have:=ki h;have:=hS g (C6 hg);omega
    · cases h
  rw [if_neg c6] at h
  by_cases c7:x.Code=26
  · rw [if_pos c7] at h
    obtain ⟨p,h1,rfl⟩:=Option.map_eq_some_iff.1 h
    have:=mA h1;omega
  rw [if_neg c7] at h
  by_cases c8:x.Code=27
  · rw [if_pos c8] at h
    obtain ⟨p,h1,h⟩:=Option.bind_eq_some_iff.1 h
    obtain ⟨q,h2,h⟩:=Option.bind_eq_some_iff.1 h
    obtain ⟨r,h3,rfl⟩:=Option.map_eq_some_iff.1 h
    have:=rW h1;have:=mA h2;have:=mA h3
    rw [nM];simp only [List.length_cons,List.length_nil];omega
  rw [if_neg c8] at h
  by_cases c9:x.Code=32
  · rw [if_pos c9] at h
    obtain ⟨t,_,rfl⟩:=Option.map_eq_some_iff.1 h
    rw [nM];simp only [List.length_cons,List.length_nil];omega
  rw [if_neg c9] at h
  by_cases jH:x.Code=33
  · rw [if_pos jH] at h
    obtain ⟨t,_,h⟩:=Option.bind_eq_some_iff.1 h
    have:=rW h;omega
  rw [if_neg jH] at h
  by_cases lH:x.Code=34
  · rw [if_pos lH] at h
    obtain ⟨t,_,h⟩:=Option.bind_eq_some_iff.1 h
    have:=ki h;simp only [List.length_cons,List.length_nil] at this;omega
  rw [if_neg lH] at h
  by_cases nj:x.Code=35
  · rw [if_pos nj] at h
    obtain ⟨t,_,rfl⟩:=Option.map_eq_some_iff.1 h
    rw [nM];simp only [List.length_cons,List.length_nil];omega
  rw [if_neg nj] at h
  by_cases qJ:x.Code=36
  · rw [if_pos qJ] at h
    obtain ⟨t,_,h⟩:=Option.bind_eq_some_iff.1 h
    obtain ⟨mu,_,h⟩:=Option.bind_eq_some_iff.1 h
    split at h
    · have:=rW h;omega
    · cases h
  rw [if_neg qJ] at h
  by_cases oT:aQ x.Code<8∨10<aQ x.Code
  · rw [if_pos oT] at h
    have:=ki h;omega
  · rw [if_neg oT] at h;exact I9 ht h
def AH (fs:List dV):Prop:=∀k∈fs,k.res.length≤20
theorem C7 {fs:List dV} (h:AH fs):∀w∈fs.map qd,w.length≤20:=fun w hw=>by
 obtain ⟨k,hk,rfl⟩:=List.mem_map.1 hw
 unfold qd
 split
 · simp
 · exact h k hk
theorem Fp {fs fs':List dV} {b:dV} {rr:au→List UInt8} (hr:(rr x).length≤20) (hb:AH (fs++[b])) (hF:∀g∈v.ax,g.R.length≤20) (hS:∀g∈v.bF,g.R.length≤20) (ht:(aK x.Code).2.length≤20)
    (h:dz (·.Code) rr (fP v) x fs b=some fs'):AH fs'∧qe fs'≤qe (fs++[b])+20∧fs'.length≤fs.length+2:=by
  have yb:b.res.length≤20:=hb b (by simp)
  have J2:AH fs:=fun k hk=>hb k (by simp [hk])
  rw [fZ]
  unfold dz at h
  split at h
  · split at h
    · simp only [Option.some.injEq] at h
      subst h
      rcases List.eq_nil_or_concat fs with rfl|⟨gs,t,rfl⟩
      · exact ⟨fun k hk=>by simp at hk,by simp [qe],by simp⟩
      · simp only [List.concat_eq_append,List.getLast?_append,List.getLast?_singleton,Option.some_or,List.dropLast_concat]
        refine ⟨fun k hk=> ?_, ?_,by simp⟩
        · rcases List.mem_append.1 hk with hk|hk
          · exact J2 k (by simp [hk])
          · simp only [List.mem_singleton] at hk;subst hk;exact J2 t (by simp)
        · rw [fZ,fZ];simp only [nM];omega
    · cases h
  split at h
  · split at h
    · simp only [Option.some.injEq] at h
      subst h
      refine ⟨fun k hk=> ?_, ?_,by simp⟩
      · rcases List.mem_append.1 hk with hk|hk
        · exact J2 k hk
        · simp only [List.mem_singleton] at hk;subst hk;exact yb
      · rw [fZ];simp only [List.length_nil];omega
    · cases h
  split at h
  · obtain ⟨s,h1,rfl⟩:=Option.map_eq_some_iff.1 h
    have hs:s.1.length≤b.st.1.length:=by
      split at h1
      · exact rW h1
      · cases h1;exact Nat.le_refl _
    refine ⟨fun k hk=> ?_, ?_,by simp⟩
    · rcases List.mem_append.1 hk with hk|hk
      · rcases List.mem_append.1 hk with hk|hk
        · exact J2 k hk
        · simp only [List.mem_singleton] at hk;subst hk;exact yb
      · simp only [List.mem_singleton] at hk;subst hk;exact hr
    · rw [fZ,fZ];simp only [List.length_nil];omega
  · obtain ⟨s,h1,rfl⟩:=Option.map_eq_some_iff.1 h
    have hs:=LV (C7 hb) hF hS ht h1
    refine ⟨fun k hk=> ?_, ?_,by simp⟩
    · rcases List.mem_append.1 hk with hk|hk
      · exact J2 k hk
      · simp only [List.mem_singleton] at hk;subst hk;exact yb
    · rw [fZ];simp only;omega
end Go.Hl
end
section
namespace Go.Hl
open Go.RowKit
def kP (x:nK) (g:SB):List VP:=[ag .i64 x.Code,cM x.Name,ag .i64 x.Form,af (br g x.sW.length),ah 1 aj x.q8]
instance (x:nK) (g:SB):bC (kP x g):=⟨fun q h=>by simp only [kP,List.mem_cons,List.not_mem_nil,or_false] at h;rcases h with h|h|h|h|h<;>subst h<;>infer_instance⟩
theorem Hh {c:Int} (h:aQ c=8):∃t tl,(aK c).1=t::tl:=by
 have hc:40≤c∧c≤62:=by
  unfold aQ at h
  repeat' split at h
  all_goals first|omega|assumption
 unfold aK
 rw [if_neg (by omega)]
 by_cases h1:c=40∨44≤c∧c≤47
 · rw [if_pos h1];exact ⟨_,_,rfl⟩
 rw [if_neg h1]
 by_cases h2:c=41∨48≤c∧c≤53
 · rw [if_pos h2];exact ⟨_,_,rfl⟩
 rw [if_neg h2]
 by_cases h3:(c=54∨c=58)∨c=59
 · rw [if_pos h3];exact ⟨_,_,rfl⟩
 rw [if_neg h3,if_pos hc.2]
 exact ⟨_,_,rfl⟩
theorem NZ {a:Int} (h:a<8):IntKind.i64.wrap (1*2^a.toNat)=2^a.toNat:=by
 have:a.toNat=0∨a.toNat=1∨a.toNat=2∨a.toNat=3∨a.toNat=4∨a.toNat=5∨a.toNat=6∨a.toNat=7:=by omega
 rcases this with h|h|h|h|h|h|h|h<;>rw [h]<;>decide
theorem N0 {a:Int} (h:¬a<8):(256:Int)≤2^a.toNat:=by
 have h8:8≤a.toNat:=by omega
 have h9:2^8≤2^a.toNat:=Nat.pow_le_pow_right (by decide) h8
 have:((2^a.toNat:Nat):Int)=2^a.toNat:=by simp
 omega
theorem Ja (c:Int):fL c≤8:=by unfold fL;repeat (first|split|omega)
variable {x:au}
theorem xN:(x.cR<8∧2^x.cR.toNat≤(j5 x.Code).getD 0)↔¬fL x.Code<2^x.cR.toNat:=by
 rw [(I2 x.Code).1]
 constructor
 · rintro ⟨h1,h2⟩;omega
 · intro h
   refine ⟨Classical.byContradiction fun h8=> ?_,by omega⟩
   have:=N0 h8
   have:=Ja x.Code
   omega
abbrev Pw:=SB×SB×List UInt8×List Kb
abbrev WV (cb:Nat) (m:aU) (f:cK) (z:Pw):List HP:=LO cb m f z.1 z.2.1 z.2.2.1 z.2.2.2
def Hi (m:aU) (f:cK) (x:au) (fs:List dV) (b:dV) (z:Pw):Prop:=∃fs',ij m f x fs b=some fs'∧I5 fs' z.2.2.1 z.2.2.2
variable {fs:List dV}
theorem gj {m:aU} {f:cK} {b:dV} {gs gb:SB} {s:cU} (h11:x.Code≠11) (h5:x.Code≠5) (ho:¬aO x.Code) (h:fP (cn m f) x b.st ((fs++[b]).map qd)=some s):
    Hi m f x fs b (gs,gb,cN fs++s.1,iQ fs++[kN (cN fs).length b s]):=⟨_,by rw [xM h11 h5 ho,h];rfl,LR fs b s⟩
theorem dG {m:aU} {f:cK} {b:dV} (h11:x.Code≠11) (h5:x.Code≠5) (ho:¬aO x.Code) (h:fP (cn m f) x b.st ((fs++[b]).map qd)=none):ij m f x fs b=none:=by rw [xM h11 h5 ho,h];rfl
theorem N1 {n:Int} {w:List UInt8} (h:AH fs) (hw:hU (fs.map qd) n=some w):w.length≤20:=C7 h w (zA hw)
end Go.Hl
end
section
namespace Go.Hl
def mV (x:au):Prop:=x.cR=0∧x.L=[]
def lq (x:au) (f:Int):Prop:=
 (f=0∧x.A=0∧x.B=0∧mV x)∨(f=1∧(x.A=64∨x.A=127∨x.A=126)∧x.B=0∧mV x)∨
 ((f=2∨f=4∨f=6∨f=7∨f=9)∧rV x.A∧x.B=0∧mV x)∨
 (f=3∧rV x.A∧(∀n∈x.L,rV n)∧x.L.length≤100∧x.B=0∧x.cR=0)∨
 ((f=5∨f=10)∧rV x.A∧rV x.B∧mV x)∨(f=8∧rV x.A∧0≤x.cR∧x.cR≤31∧x.L=[])∨
 (f=11∧(x.Code=66∨rV x.A)∧x.B=0∧mV x)
theorem C8 {x:au} (hA:0≤x.A) (hB:0≤x.B) (hf:0≤aQ x.Code∧aQ x.Code≤11) (YP:aQ x.Code=11→x.Code=65∨x.Code=66) (Jb:x.Code=65→aQ x.Code=11):
    gy x↔hJ x.Code≠[]∧lq x (aQ x.Code):=by
  unfold gy lq mV
  generalize aQ x.Code=f at*
  refine and_congr_right fun _=> ?_
  simp only [rV]
  have hL:x.L=[]→∀n∈x.L,n≤4294967295:=fun e n h=>by rw [e] at h;cases h
  obtain ⟨h0,h1⟩:=hf
  have hc:f=0∨f=1∨f=2∨f=3∨f=4∨f=5∨f=6∨f=7∨f=8∨f=9∨f=10∨f=11:=by omega
  generalize hQ:(∀n∈x.L,n≤4294967295)=Q at*
  generalize hE:(x.L=[])=E at*
  have hlen:E→x.L.length≤100:=fun h=>by rw [←hE] at h;simp [h]
  rcases hc with rfl|rfl|rfl|rfl|rfl|rfl|rfl|rfl|rfl|rfl|rfl|rfl<;>simp at Jb YP ⊢ <;>(by_cases e:E<;>by_cases q:Q<;>simp [e,q] at hL hlen ⊢)<;>omega
def bn (out:List (Nat×UInt8)) (t:UInt8):List (Nat×UInt8):=
 match out.getLast? with
 |none=>[(1,t)]
 |some p=>if p.2=t then out.dropLast++[(p.1+1,t)] else out++[(1,t)]
theorem oD (o:List (Nat×UInt8)) (n:Nat) (t t':UInt8):bn (o++[(n,t)]) t'=o++bn [(n,t)] t':=by
 simp only [bn,List.getLast?_append,List.getLast?_singleton,Option.some_or]
 split<;>simp_all
theorem Jc (l:List UInt8):∀(o:List (Nat×UInt8)) (n:Nat) (t:UInt8),l.foldl bn (o++[(n,t)])=o++l.foldl bn [(n,t)]:=by
 induction l with
 |nil=>intros;rfl
 |cons a l ih=>
  intro o n t
  simp only [List.foldl_cons,oD]
  by_cases h:t=a
  · subst h
    have e:bn [(n,t)] t=[(n+1,t)]:=by simp [bn]
    rw [e,ih]
  · have e:bn [(n,t)] a=[(n,t)]++[(1,a)]:=by simp [bn,h]
    rw [e,ih [(n,t)] 1 a,←List.append_assoc,ih (o++[(n,t)]) 1 a,List.append_assoc]
theorem xO (t:UInt8) (l:List UInt8):∃n r,fI (t::l)=(n+1)::r:=by
 simp only [fI]
 split
 · split
   · exact ⟨_,_,rfl⟩
   · exact ⟨0,_,rfl⟩
 · exact ⟨0,[],rfl⟩
theorem LW (l:List UInt8):∀(n:Nat) (t:UInt8) (k:Nat) (r:List Nat),fI (t::l)=(k+1)::r→(l.foldl bn [(n,t)]).map Prod.fst=(n+k)::r:=by
 induction l with
 |nil=>intro n t k r h;simp [fI] at h;obtain ⟨rfl,rfl⟩:=h;simp
 | cons a l ih=>
  intro n t k r h
  obtain ⟨n2,r2,e2⟩:=xO a l
  have h':fI (t::a::l)=if a=t then (n2+1+1)::r2 else 1::(n2+1)::r2:=by
   rw [fI];simp only [e2]
  rw [h'] at h
  simp only [List.foldl_cons]
  by_cases e:a=t
  · subst e
    simp only [if_true,List.cons.injEq] at h
    have e3:bn [(n,a)] a=[(n+1,a)]:=by simp [bn]
    rw [e3,ih (n+1) a n2 r2 e2]
    obtain ⟨h1,rfl⟩:=h
    congr 1;omega
  · simp only [e,if_false,List.cons.injEq] at h
    have e3:bn [(n,t)] a=[(n,t)]++[(1,a)]:=by simp [bn,Ne.symm e]
    rw [e3,Jc,List.map_append,ih 1 a n2 r2 e2]
    obtain ⟨h1,rfl⟩:=h
    simp;omega
theorem N2 (l:List UInt8):(l.foldl bn []).map Prod.fst=fI l:=by
 cases l with
 |nil=>rfl
 |cons t l=>
  obtain ⟨n,r,e⟩:=xO t l
  have:bn [] t=[(1,t)]:=rfl
  rw [List.foldl_cons,this,LW l 1 t n r e,e];congr 1;omega
end Go.Hl
end
section
namespace Go.Hl
open Go.RowKit
theorem Tg (n:Int) (h0:0≤n) (h1:n<2^8):IntKind.u8.wrap n=n:=eM (Gw h0 (by omega))
section
variable {P:Program} {hs:List HP} {env:Env} {q:VP} {dst:Option Tmp} {ty T T2 T' E:TypeId} {pos:String} {after:Array Edge} {gd:Option (Nat×Bool)} {x y z:Operand}
theorem xP {a b:Nat} (ha:a<256) (hb:b<256) (hx:bp env x (ag .u8 (a:Int))) (hy:bp env y (ag .u8 (b:Int))):bg P hs env ⟨dst, .binOp .and T x y T',ty,pos,after,gd⟩ (ag .u8 ((a &&& b:Nat):Int)):=
 bg.aI fun ρ w S F _ he=>by
  have h1:=he.o _ _ hx;have h2:=he.o _ _ hy;simp only [af] at h1 h2
  exact ⟨.int .u8 ((a &&& b:Nat):Int),by simp [execOp,h1,h2,go_sem,(bits_nat .u8 8 (by decide) Tg a b (by omega) (by omega)).1],rfl⟩
theorem Hj {a b:Nat} (ha:a<256) (hb:b<256) (hx:bp env x (ag .u8 (a:Int))) (hy:bp env y (ag .u8 (b:Int))):bg P hs env ⟨dst, .binOp .or T x y T',ty,pos,after,gd⟩ (ag .u8 ((a|||b:Nat):Int)):=
 bg.aI fun ρ w S F _ he=>by
  have h1:=he.o _ _ hx;have h2:=he.o _ _ hy;simp only [af] at h1 h2
  exact ⟨.int .u8 ((a|||b:Nat):Int),by simp [execOp,h1,h2,go_sem,(bits_nat .u8 8 (by decide) Tg a b (by omega) (by omega)).2],rfl⟩
theorem Jd {n:Int} (h1: -9223372036854775808≤n) (h2:n≤9223372036854775807):bits .xor .i64 (-1) n= -n-1:=by
 have e:BitVec.ofInt 64 (-1)^^^BitVec.ofInt 64 n= ~~~ (BitVec.ofInt 64 n):=by rw [show BitVec.ofInt 64 (-1)=BitVec.allOnes 64 from by decide,BitVec.allOnes_xor]
 show IntKind.i64.wrap ((BitVec.ofInt 64 (-1)^^^BitVec.ofInt 64 n).toNat:Int)= -n-1
 rw [e,BitVec.toNat_not,BitVec.toNat_ofInt]
 unfold IntKind.wrap
 simp only [IntKind.signed,IntKind.bits]
 simp
 omega
theorem Je {n:Int} (h1: -9223372036854775808≤n) (h2:n≤9223372036854775807) (hx:bp env x (ag .i64 n)):bg P hs env ⟨dst, .unOp .xor T x,ty,pos,after,gd⟩ (ag .i64 (-n-1)):=
 bg.aI fun ρ w S F _ he=>by
  have h3:=he.o _ _ hx;simp only [af] at h3
  exact ⟨.int .i64 (-n-1),by simp [execOp,h3,go_sem,Jd h1 h2,show IntKind.i64.signed=true from rfl],rfl⟩
end
theorem mW (n:Int):IntKind.u8.wrap n=((n%256).toNat:Int):=by
 unfold IntKind.wrap
 simp [IntKind.signed,IntKind.bits]
 omega
theorem C9 (k:Nat):k &&& 127<256:=Nat.lt_of_le_of_lt Nat.and_le_right (by decide)
theorem LX {k:Nat} (h:k<256):k|||128<256:=Nat.or_lt_two_pow (n:=8) h (by decide)
theorem mX {k:Nat} (h:k<256):aa (ag .u8 (k:Int)) (ag .u8 ((UInt8.ofNat k).toNat:Int)):=aa.int (by simp;omega)
theorem N3 (a:Nat):vn a=Ka a:=rfl
theorem N4 (n:Int):jJ n=(vn (if n<0 then (-n-1).toNat else n.toNat)+7)/7:=I3 n.natAbs n (Nat.le_refl _)
theorem Th {a:Nat} (h:a<18446744073709551616):vn a≤64:=by rw [N3];exact Fk (k:=64) h
def q9 (x:au):Int:=(ec x.Code).elim (-1) (·.Form)
theorem xQ {x:au} (h:ec x.Code=none):q9 x= -1∧hJ x.Code=[]:=by unfold q9;rw [h];exact ⟨rfl,oA h⟩
theorem xR {x:au} {i:nK} (h:ec x.Code=some i):q9 x=aQ x.Code∧hJ x.Code≠[]:=by
 unfold q9;rw [h];have:=lG h;exact ⟨this.2.2.2.1,this.2.2.1⟩
theorem r7 (c:Int):0≤aQ c∧aQ c≤11:=by unfold aQ;repeat (first|split|omega)
theorem Ho {c:Int} (h:aQ c=11):c=65∨c=66:=by
 unfold aQ at h
 repeat' split at h
 all_goals omega
theorem LY {x:au} (hA:0≤x.A) (hB:0≤x.B):gy x↔lq x (q9 x):=by
 rw [C8 hA hB (r7 _) (fun h=>Ho h) (fun h=>by rw [h];decide)]
 cases hf:ec x.Code with
 |none=>
  obtain ⟨h1,h2⟩:=xQ hf
  rw [h1,h2]
  constructor
  · rintro ⟨h,_⟩;exact absurd rfl h
  · intro h;unfold lq at h;omega
 |some i=>
  obtain ⟨h1,h2⟩:=xR hf
  rw [h1]
  exact ⟨fun h=>h.2,fun h=>⟨h2,h⟩⟩
theorem Fq {x:au} (hA:0≤x.A) (hB:0≤x.B) (h:gy x):q9 x=aQ x.Code∧hJ x.Code≠[]:=by
 cases hf:ec x.Code with
 |none=>exact absurd (xQ hf).2 h.1
 |some i=>exact xR hf
theorem vQ {c:Int} (h:hJ c≠[]):0≤c∧c≤196∨64522≤c∧c≤64523:=by
 by_cases h2:c<0∨196<c∧c<64522∨64523<c
 · exact absurd (oA (CZ h2)) h
 · omega
end Go.Hl
namespace Go.Hl
def qk (l:List Int):Nat:=(l.map bw).sum
theorem zC (l:List Int) (n:Int):qk (l++[n])=qk l+bw n:=by simp [qk]
theorem oE:∀(l:List Int),(∀n∈l,0≤n∧n<18446744073709551616)→qk l≤10*l.length
 |[],_=>by simp [qk]
 |n::l,h=>by
  have h1:=oE l (fun m hm=>h m (List.mem_cons_of_mem _ hm))
  have h2:=h n (List.mem_cons_self ..)
  have h3:bw n≤10:=cZ (by omega)
  simp only [qk,List.map_cons,List.sum_cons,List.length_cons] at h1 ⊢
  omega
def mY (x:au):Nat:=if 64512≤x.Code then 1+bw (x.Code-64512) else 1
def jo (x:au):Int:=if x.Code=65 then (if x.A<2147483648 then x.A else x.A-4294967296) else (if x.A<9223372036854775808 then x.A else x.A-18446744073709551616)
def Fs (x:au):Nat:=(if x.A=0 then bw x.cR else bw (x.cR+64)+bw x.A)+bw x.B
theorem fM (x:au):mz x=mY x+(if aQ x.Code=1 then 1
   else if aQ x.Code=2∨aQ x.Code=4∨aQ x.Code=6∨aQ x.Code=7∨aQ x.Code=9 then bw x.A
   else if aQ x.Code=3 then eK x.L.length+qk x.L+bw x.A
   else if aQ x.Code=5∨aQ x.Code=10 then bw x.A+bw x.B
   else if aQ x.Code=8 then Fs x
   else if aQ x.Code=11 then jJ (jo x) else 0):=rfl
theorem Hp {a:Int} (h0:0≤a) (h1:a<18446744073709551616):IntKind.i64.wrap a=if a<9223372036854775808 then a else a-18446744073709551616:=by
 by_cases h:a<9223372036854775808
 · rw [if_pos h];unfold IntKind.wrap;simp only [IntKind.signed,IntKind.bits];simp;omega
 · rw [if_neg h];unfold IntKind.wrap;simp only [IntKind.signed,IntKind.bits];simp;omega
theorem N5 {a:Int} (h0:0≤a) (h1:a≤4294967295):IntKind.i32.wrap a=if a<2147483648 then a else a-4294967296:=by
 by_cases h:a<2147483648
 · rw [if_pos h];unfold IntKind.wrap;simp only [IntKind.signed,IntKind.bits];simp;omega
 · rw [if_neg h];unfold IntKind.wrap;simp only [IntKind.signed,IntKind.bits];simp;omega
end Go.Hl
end
section
namespace Go.Hl
open Go.RowKit
abbrev yz:=Int×Int×Int
def fG (s:yz):List VP:=[ag .i64 s.1,ag .i64 s.2.1,ag .i64 s.2.2]
instance:gN 3 fG:=⟨fun _=>rfl,fun x q h=>by simp only [fG,List.mem_cons,List.not_mem_nil,or_false] at h;rcases h with h|h|h<;>rw [h]<;>infer_instance⟩
instance (x:yz):bC (fG x):=bC.of x
def gJ (n:Nat):List VP:=[ag .i64 (n:Int)]
instance:gN 1 gJ:=⟨fun _=>rfl,fun x q h=>by simp only [gJ,List.mem_cons,List.not_mem_nil,or_false] at h;rw [h];infer_instance⟩
instance (x:Nat):bC (gJ x):=bC.of x
def oF (r:Nat×UInt8):List VP:=[ag .i64 (r.1:Int),ag .u8 (r.2.toNat:Int)]
instance:gN 2 oF:=⟨fun _=>rfl,fun x q h=>by simp only [oF,List.mem_cons,List.not_mem_nil,or_false] at h;rcases h with h|h<;>rw [h]<;>infer_instance⟩
instance (x:Nat×UInt8):bC (oF x):=bC.of x
structure N6 where
 gp:SB
 go:SB
 sp:List yz
 op:List Nat
 cl:Prop
 dp:Int
abbrev Bp (nb:Nat) (l:List au) (z:N6):List HP:=[aF nb [ah 5 aG l,af (br z.gp z.sp.length),af (br z.go z.op.length),ak z.cl,ag .i64 z.dp],av z.gp 3 fG z.sp,av z.go 1 gJ z.op]
def Da (l:List au) (sp:List yz) (p:Nat) (ce:Int×Bool):Prop:=∃(i:Nat) (el en:Int) (x:au),sp[p]?=some ((i:Int),el,en)∧l[i]?=some x∧x.Code=ce.1∧(ce.2=true↔el≠ -1)
structure fU (l:List au) (sp:List yz) (op:List Nat) (rs:List (Int×Bool)):Prop where
 len:op.length=rs.length
 inc:op.Pairwise (· < ·)
 rel:∀(k p:Nat) (ce:Int×Bool),op[k]?=some p→rs[k]?=some ce→Da l sp p ce
theorem fU.nil (l:List au) (sp:List yz):fU l sp [] []:=⟨rfl,List.Pairwise.nil,fun k p ce h=>by simp at h⟩
variable {rs:List (Int×Bool)} {l:List au} {sp:List yz} {p:Nat}
theorem fU.at_ {op:List Nat} (h:fU l sp op rs) (hp:p∈op):∃ce,Da l sp p ce:=by
 obtain ⟨k,hk⟩:=List.mem_iff_getElem?.1 hp
 have hl:k<rs.length:=by have:=(List.getElem?_eq_some_iff.1 hk).1;rw [h.len] at this;exact this
 exact ⟨_,h.rel k p _ hk (List.getElem?_eq_getElem hl)⟩
variable {ce:Int×Bool}
theorem Da.lt (h:Da l sp p ce):p<sp.length:=by
 obtain ⟨_,_,_,_,h1,_⟩:=h;exact (List.getElem?_eq_some_iff.1 h1).1
theorem fU.begin {op:List Nat} (h:fU l sp op rs) {i:Nat} {x:au} (hx:l[i]?=some x):fU l (sp++[((i:Int),-1,-1)]) (op++[sp.length]) (rs++[(x.Code,false)]):=by
 refine ⟨by simp [h.len], ?_,fun k p ce hk hr=> ?_⟩
 · rw [List.pairwise_append]
   refine ⟨h.inc,List.pairwise_singleton _ _,fun a ha b hb=> ?_⟩
   simp only [List.mem_singleton] at hb;subst hb
   obtain ⟨ce,hce⟩:=h.at_ ha
   exact hce.lt
 · by_cases DO:k<op.length
   · rw [List.getElem?_append_left DO] at hk
     rw [List.getElem?_append_left (by rw [←h.len];exact DO)] at hr
     obtain ⟨j,el,en,y,h1,h2,h3,h4⟩:=h.rel k p ce hk hr
     exact ⟨j,el,en,y,by rw [List.getElem?_append_left (List.getElem?_eq_some_iff.1 h1).1];exact h1,h2,h3,h4⟩
   · rw [List.getElem?_append_right (by omega)] at hk
     rw [List.getElem?_append_right (by rw [←h.len];omega)] at hr
     have Kc:k-op.length=0:=by
      have:=(List.getElem?_eq_some_iff.1 hk).1;simp at this;omega
     rw [Kc] at hk
     rw [←h.len,Kc] at hr
     simp at hk hr
     subst hk;subst hr
     exact ⟨i,-1,-1,x,by simp,hx,rfl,by simp⟩
theorem AI {α:Type} {o:List α} {p:α}:(o++[p])[o.length]?=some p:=by simp
variable {o:List Nat}
theorem fU.top (h:fU l sp (o++[p]) (rs++[ce])):Da l sp p ce:=by
 have hl:o.length=rs.length:=by have:=h.len;simp at this;exact this
 exact h.rel o.length p ce AI (by rw [hl];exact AI)
theorem fU.QT (h:fU l sp (o++[p]) rs):p∉o:=fun hp=>by
 have:=(List.pairwise_append.1 h.inc).2.2 p hp p (by simp)
 omega
theorem Da.set {l:List au} {sp:List yz} {p q:Nat} {s:yz} {ce:Int×Bool} (h:Da l sp q ce) (hne:q≠p):Da l (sp.set p s) q ce:=by
 obtain ⟨j,el,en,y,h1,h2⟩:=h
 exact ⟨j,el,en,y,by rw [List.getElem?_set_ne (by omega)];exact h1,h2⟩
theorem fU.pop (h:fU l sp (o++[p]) (rs++[ce])) (s:yz):fU l (sp.set p s) o rs:=by
 have hl:o.length=rs.length:=by have:=h.len;simp at this;exact this
 refine ⟨hl,(List.pairwise_append.1 h.inc).1,fun k q c hk hr=> ?_⟩
 have hq:q∈o:=List.mem_of_getElem? hk
 refine (h.rel k q c ?_ ?_).set (fun e=>h.QT (e▸hq))
 · rw [List.getElem?_append_left (List.getElem?_eq_some_iff.1 hk).1];exact hk
 · rw [List.getElem?_append_left (List.getElem?_eq_some_iff.1 hr).1];exact hr
variable {c:Int}
theorem fU.other {e:Bool} (h:fU l sp (o++[p]) (rs++[(c,e)])) {i:Nat} {el en:Int} {x:au} (hs:sp[p]?=some ((i:Int),el,en)) (hx:l[i]?=some x) (hc:x.Code=c) {j:Nat}:
    fU l (sp.set p ((i:Int),(j:Int),en)) (o++[p]) (rs++[(c,true)]):=by
  have hl:o.length=rs.length:=by have:=h.len;simp at this;exact this
  have YQ:=h.pop ((i:Int),(j:Int),en)
  refine ⟨by simp [hl],h.inc,fun k q ce hk hr=> ?_⟩
  by_cases DO:k<o.length
  · rw [List.getElem?_append_left DO] at hk
    rw [List.getElem?_append_left (by omega)] at hr
    exact YQ.rel k q ce hk hr
  · rw [List.getElem?_append_right (by omega)] at hk
    rw [List.getElem?_append_right (by omega)] at hr
    have Kc:k-o.length=0:=by
      have:=(List.getElem?_eq_some_iff.1 hk).1;simp at this;omega
    rw [Kc] at hk
    rw [←hl,Kc] at hr
    simp at hk hr
    subst hk;subst hr
    exact ⟨i,j,en,x,by rw [List.getElem?_set_self (List.getElem?_eq_some_iff.1 hs).1],hx,hc,by simp⟩
def ep (cl:Prop) (rs:List (Int×Bool)) (r:List Int):Prop:=(cl∧r=[])∨(¬cl∧ey r rs.reverse)
variable {r:List Int}
theorem Ft (h:aO c) (hl:rs.length≠64) (hb:rs.length≤64):ep False rs (c::r)↔ep False (rs++[(c,false)]) r:=by
 simp only [ep,false_and,not_false_eq_true,true_and,false_or,List.reverse_append,List.reverse_cons,List.reverse_nil,List.nil_append,List.singleton_append]
 rw [fY,if_pos h]
 simp only [List.length_reverse]
 exact ⟨fun h=>h.2,fun h=>⟨by omega,h⟩⟩
theorem Fu (h:aO c) (hl:rs.length=64):¬ep False rs (c::r):=by
 simp only [ep,false_and,not_false_eq_true,true_and,false_or]
 rw [fY,if_pos h]
 simp only [List.length_reverse]
 omega
theorem yA:¬ep False [] (5::r):=by
 simp only [ep,false_and,not_false_eq_true,true_and,false_or,List.reverse_nil]
 rw [fY];simp [aO]
theorem xS {b:Int} {e:Bool}:ep False (rs++[(b,e)]) (5::r)↔(b=4∧e=false)∧ep False (rs++[(b,true)]) r:=by
 simp only [ep,false_and,not_false_eq_true,true_and,false_or,List.reverse_append,List.reverse_cons,List.reverse_nil,List.nil_append,List.singleton_append]
 rw [fY];simp [aO]
theorem xT:ep False [] (11::r)↔ep True [] r:=by
 simp only [ep,false_and,not_false_eq_true,true_and,false_or,not_true_eq_false,or_false,List.reverse_nil]
 rw [fY];simp [aO]
theorem Jf:ep False (rs++[ce]) (11::r)↔ep False rs r:=by
 simp only [ep,false_and,not_false_eq_true,true_and,false_or,List.reverse_append,List.reverse_cons,List.reverse_nil,List.nil_append,List.singleton_append]
 rw [fY];simp [aO]
theorem Db (h1:¬aO c) (h2:c≠5) (h3:c≠11):ep False rs (c::r)↔ep False rs r:=by
 simp only [ep,false_and,not_false_eq_true,true_and,false_or]
 rw [fY,if_neg h1,if_neg h2,if_neg h3]
theorem AJ:¬ep True rs (c::r):=by simp [ep]
theorem Jg {cl:Prop}:ep cl rs []↔cl:=by simp [ep,ey]
def YR (l:List au) (cl:Prop) (rs:List (Int×Bool)) (c:Int) (m:Nat) (e:Int) (z:N6):Prop:=
 (e=0∧z.sp.length≤m∧z.op.length≤64∧∃rs',fU l z.sp z.op rs'∧∀r,ep cl rs (c::r)↔ep z.cl rs' r)∨(e≠0∧∀r,¬ep cl rs (c::r))
theorem N7 {α β:Type} {n k:Nat} {e1:α→List VP} {e2:β→List VP} {r:List HP}:aB r (av none n e1 []::av none k e2 []::r):=fun F S w h=>
 ⟨fun _=>False,F,fun _ h=>h.elim,fun _ h=>h,rfl,fun _=>False,F,fun _ h=>h.elim,fun _ h=>h,rfl,h⟩
end Go.Hl
end
section
namespace Go.Hl
theorem Dc (t:UInt8):bn [] t=[(1,t)]:=rfl
theorem td (m:List (Nat×UInt8)) (n:Nat) (t:UInt8):bn (m++[(n,t)]) t=m++[(n+1,t)]:=by rw [oD];simp [bn]
variable {t:UInt8}
theorem ri (m:List (Nat×UInt8)) (n:Nat) {t':UInt8} (h:¬t=t'):bn (m++[(n,t)]) t'=(m++[(n,t)])++[(1,t')]:=by rw [oD];simp [bn,h]
theorem r8 {l:List UInt8} {k:Nat} (h:l[k]?=some t):(l.take (k+1)).foldl bn []=bn ((l.take k).foldl bn []) t:=by
 rw [←bt h,List.foldl_append];rfl
theorem Fv {o:List (Nat×UInt8)} {M:Nat} (h:∀p∈o,p.1≤M):(∀p∈bn o t,p.1≤M+1)∧(bn o t).length≤o.length+1:=by
 rcases List.eq_nil_or_concat o with rfl|⟨m,⟨n,t'⟩,rfl⟩
 · simp [Dc]
 · rw [List.concat_eq_append] at h ⊢
   by_cases e:t'=t
   · subst e
     rw [td]
     refine ⟨fun p hp=> ?_,by simp⟩
     rcases List.mem_append.1 hp with hp|hp
     · have:=h p (by simp [hp]);omega
     · simp only [List.mem_singleton] at hp;subst hp
       have:=h (n,t') (by simp);simp only at this ⊢;omega
   · rw [ri _ _ e]
     refine ⟨fun p hp=> ?_,by simp⟩
     rcases List.mem_append.1 hp with hp|hp
     · have:=h p hp;omega
     · simp only [List.mem_singleton] at hp;subst hp;simp
theorem vR:∀(l:List UInt8) (o:List (Nat×UInt8)) (M:Nat),(∀p∈o,p.1≤M)→(∀p∈l.foldl bn o,p.1≤M+l.length)∧(l.foldl bn o).length≤o.length+l.length
 |[],o,M,h=>⟨by simpa using h,by simp⟩
 |t::l,o,M,h=>by
  obtain ⟨h1,h2⟩:=Fv (t:=t) h
  obtain ⟨h3,h4⟩:=vR l _ _ h1
  simp only [List.foldl_cons,List.length_cons]
  exact ⟨fun p hp=>by have:=h3 p hp;omega,by omega⟩
theorem AK {x:au} (h:lA x) (r:gy x):mz x≤1100:=by
 obtain ⟨r1,r2,r3,r4,r5,r6⟩:=r
 have hL:x.L.length≤100:=r6.elim (fun h=>by rw [h];simp) (fun h=>h.2)
 have hA:bw x.A≤10:=cZ (by have:=h.A0;have:=h.vo;omega)
 have hB:bw x.B≤10:=cZ (by have:=h.B0;have:=h.WU;omega)
 have hs:=oE x.L (fun n hn=>⟨h.L0 n hn,by have h9:n≤4294967295:=r5 n hn;omega⟩)
 have hl:eK x.L.length≤10:=cZ (by omega)
 have ha:bw x.cR≤10:=cZ (by have:=h.QS;omega)
 have ha2:bw (x.cR+64)≤10:=cZ (by have:=h.QS;omega)
 have hm:Fs x≤30:=by unfold Fs;split<;>omega
 have Jb:x.Code=65→x.A≤4294967295:=fun Jb=>Classical.byContradiction fun h9=>r2 (.inr (.inl ⟨Jb,h9⟩))
 have hw:jJ (jo x)≤10:=vM (by have:=h.A0;have:=h.vo;unfold jo;(repeat split)<;>(try omega)) (by have:=h.A0;have:=h.vo;unfold jo;split<;>(try have:=Jb (by assumption))<;>split<;>omega)
 have hh:mY x≤11:=by
  unfold mY
  split
  · have:bw (x.Code-64512)≤10:=cZ (by have:=vQ r1;omega)
    omega
  · omega
 rw [fM]
 repeat (first|split|omega)
def uz (l:List au):Nat:=(l.map mz).sum
theorem zD (l:List au) (x:au):uz (l++[x])=uz l+mz x:=by simp [uz]
theorem AL:∀(l:List au),(∀x∈l,lA x∧gy x)→uz l≤1100*l.length
 |[],_=>by simp [uz]
 |x::l,h=>by
  have h1:=AL l (fun y hy=>h y (List.mem_cons_of_mem _ hy))
  have h2:=h x (List.mem_cons_self ..)
  have h3:=AK h2.1 h2.2
  simp only [uz,List.map_cons,List.sum_cons,List.length_cons] at h1 ⊢
  omega
def xU (r:List (Nat×UInt8)):Nat:=(r.map fun p=>eK p.1+1).sum
theorem Jh (r:List (Nat×UInt8)) (p:Nat×UInt8):xU (r++[p])=xU r+(eK p.1+1):=by simp [xU]
theorem AM:∀(r:List (Nat×UInt8)),(∀p∈r,p.1≤1000000)→xU r≤11*r.length
 |[],_=>by simp [xU]
 |p::r,h=>by
  have h1:=AM r (fun q hq=>h q (List.mem_cons_of_mem _ hq))
  have h2:=h p (List.mem_cons_self ..)
  have h3:eK p.1≤10:=cZ (by omega)
  simp only [xU,List.map_cons,List.sum_cons,List.length_cons] at h1 ⊢
  omega
theorem N8 (b:jm):I4 b=eK (b.aS.foldl bn []).length+xU (b.aS.foldl bn [])+uz b.L:=by
 unfold I4 xU uz
 rw [←N2]
 simp [List.map_map,Function.comp_def]
theorem lA.of {x:au} (h:xH x) (r:gy x):lA x where
 toxH:=h
 A16:=fun e=>by
  have hf:aQ x.Code≠11:=by rw [e];decide
  have h1:=r.2.1
  have h2:rV x.A:=Classical.byContradiction fun h9=>h1 (.inl ⟨hf,h9⟩)
  have:=h.A0
  unfold rV at h2;omega
 a0:=by have h1:=r.2.2.2.1;omega
 QS:=by have h1:=r.2.2.2.1;omega
structure N9 (b:jm):Prop where
 ins:∀x∈b.L,xH x
 len:b.L.length≤10000
 loc:b.aS.length≤60000
end Go.Hl
end
section
namespace Go.Hl
open Go.RowKit
def Hq (rest:List au) (fs:List dV):Prop:=(fs=[]∧rest=[])∨∃st:List (Int×Bool),st.length+1=fs.length∧ey (rest.map (·.Code)) st
theorem LZ {x:au} {r:List au} {fs:List dV} (h:Hq (x::r) fs):∃gs b,fs=gs++[b]:=by
 rcases h with ⟨_,h⟩|⟨st,h,_⟩
 · cases h
 · exact s8 (fun e=>by rw [e] at h;simp at h)
theorem Fw {m:aU} {f:cK} {x:au} {r:List au} {fs fs':List dV} {b:dV} (h:Hq (x::r) (fs++[b])) (hs:ij m f x fs b=some fs'):Hq r fs':=by
 rcases h with ⟨h,_⟩|⟨st,hl,hn⟩
 · simp at h
 simp only [List.length_append,List.length_cons,List.length_nil] at hl
 rw [List.map_cons,fY] at hn
 by_cases h11:x.Code=11
 · rw [if_neg (by rw [h11];decide),if_neg (by omega),if_pos h11] at hn
   unfold ij dz at hs
   rw [if_pos h11] at hs
   split at hs
   · simp only [Option.some.injEq] at hs
     subst hs
     cases st with
     |nil=>
      simp only at hn
      have:fs=[]:=List.eq_nil_of_length_eq_zero (by simp only [List.length_nil] at hl;omega)
      subst this
      exact .inl ⟨rfl,by simpa using hn⟩
     |cons p t=>
      simp only at hn
      rcases List.eq_nil_or_concat fs with rfl|⟨gs,y,rfl⟩
      · simp at hl
      · refine .inr ⟨t, ?_,hn⟩
        simp only [List.concat_eq_append,List.getLast?_append,List.getLast?_singleton,Option.some_or,List.dropLast_concat,List.length_append,List.length_cons,List.length_nil] at hl ⊢
        omega
   · cases hs
 by_cases h5:x.Code=5
 · rw [if_neg (by rw [h5];decide),if_pos h5] at hn
   unfold ij dz at hs
   rw [if_neg h11,if_pos h5] at hs
   split at hs
   · simp only [Option.some.injEq] at hs
     subst hs
     cases st with
     |nil=>exact hn.elim
     |cons p t=>
      obtain ⟨pb,pe⟩:=p
      simp only at hn
      exact .inr ⟨(pb,true)::t,by simpa using hl,hn.2⟩
   · cases hs
 by_cases ho:aO x.Code
 · rw [if_pos ho] at hn
   unfold ij dz at hs
   rw [if_neg h11,if_neg h5,if_pos ho] at hs
   obtain ⟨s,_,rfl⟩:=Option.map_eq_some_iff.1 hs
   exact .inr ⟨(x.Code,false)::st,by simp;omega,hn.2⟩
 · rw [if_neg ho,if_neg h5,if_neg h11] at hn
   rw [xM h11 h5 ho] at hs
   obtain ⟨s,_,rfl⟩:=Option.map_eq_some_iff.1 hs
   exact .inr ⟨st,by simp;omega,hn⟩
theorem Fx {m:aU} {f:cK} (h:dy m):∀g∈(cn m f).ax,g.R.length≤20:=fun g hg=>by
 obtain ⟨k,hk⟩:=List.mem_iff_getElem?.1 hg
 have h9:=qI (f:=f) (n:=(k:Int)) h
 have:dL (cn m f).ax (k:Int)=some g:=by unfold dL;rw [if_pos ⟨by have:=(List.getElem?_eq_some_iff.1 hk).1;omega,by omega⟩];simpa using hk
 rw [this] at h9
 exact (h.yh g (Af h9.symm)).2
theorem L1 (x:au):(dW x).length≤20:=by unfold dW;split<;>simp
structure vr (m:aU) (f:cK) (i:Nat) (hts:List Nat) (fs:List dV):Prop where
 yh:AH fs
 hgt:qe fs≤20*i
 len:fs.length≤1+i
 nest:Hq (f.Body.L.drop i) fs
 run:ia m f=(mE (·.Code) dW (fP (cn m f)) (f.Body.L.drop i) fs).map (hts++ ·)
theorem vr.init {m:aU} {f:cK} (h:dy m) (hs:ck m f.fV∈m.bF) (hn:ey (f.Body.L.map (·.Code)) []):vr m f 0 [] [dV.mk False False (ck m f.fV).R ([],False)] where
 yh:=fun k hk=>by simp only [List.mem_singleton] at hk;subst hk;exact (h.yh _ hs).2
 hgt:=by simp [qe]
 len:=by simp
 nest:= .inr ⟨[],by simp,by simpa using hn⟩
 run:=by
  show ia m f=(mE _ _ _ f.Body.L _).map ([]++ ·)
  unfold ia
  cases mE (fun x:au=>x.Code) dW (fP (cn m f)) f.Body.L [dV.mk False False (ck m f.fV).R ([],False)]<;>rfl
theorem vS {α:Type} {l:List α} {i:Nat} {x:α} (h:l[i]?=some x):l.drop i=x::l.drop (i+1):=by
 have hl:=(List.getElem?_eq_some_iff.1 h)
 rw [List.drop_eq_getElem_cons hl.1,hl.2]
theorem vr.next {m:aU} {f:cK} {i:Nat} {hts:List Nat} {fs fs':List dV} {b:dV} {x:au} (h:vr m f i hts (fs++[b])) (hm:dy m) (hx:f.Body.L[i]?=some x) (hs:ij m f x fs b=some fs'):vr m f (i+1) (hts++[qe (fs++[b])]) fs':=by
 obtain ⟨g1,g2,g3⟩:=Fp (v:=cn m f) (x:=x) (rr:=dW) (L1 x) h.yh (Fx hm) (fun g hg=>(hm.yh g hg).2) (by have:=(iE x.Code).2;omega) hs
 have hd:=vS hx
 refine ⟨g1,by have:=h.hgt;omega,by have:=h.len;simp at this;omega,Fw (hd▸h.nest) hs, ?_⟩
 rw [h.run,hd,ur]
 have hs':dz (fun x:au=>x.Code) dW (fP (cn m f)) x fs b=some fs':=hs
 rw [hs']
 simp only [Option.bind_some,Option.map_map]
 congr 1
 funext l
 simp
theorem vr.Ti {m:aU} {f:cK} {i:Nat} {hts:List Nat} {fs:List dV} {b:dV} {x:au} (h:vr m f i hts (fs++[b])) (hx:f.Body.L[i]?=some x) (hs:ij m f x fs b=none):ia m f=none:=by
 rw [h.run,vS hx,ur]
 have hs':dz (fun x:au=>x.Code) dW (fP (cn m f)) x fs b=none:=hs
 rw [hs'];rfl
theorem vr.done {m:aU} {f:cK} {i:Nat} {hts:List Nat} {fs:List dV} (h:vr m f i hts fs) (hi:f.Body.L.length≤i):ia m f=some hts:=by
 rw [h.run,List.drop_eq_nil_of_le hi];simp [mE]
structure jP (m:aU):Prop where
 ins:∀f∈m.ax,∀x∈f.Body.L,xH x
 len:∀f∈m.ax,f.Body.L.length≤2000
 loc:∀f∈m.ax,f.Body.aS.length≤50000
theorem jP.bd {m:aU} (h:jP m) {f:cK} (hf:f∈m.ax):N9 f.Body:=⟨h.ins f hf,by have:=h.len f hf;omega,by have:=h.loc f hf;omega⟩
theorem mB {m:aU} (h:dy m) {f:cK} (hf:f∈m.ax):iU f.fV m.bF.length:=Classical.not_not.1 ((cu (by decide)).1 (oo h.funcs f hf))
theorem zE {m:aU} (h:dy m) {f:cK} {i:Nat} (hf:m.ax[i]?=some f):gM m ((m.aA.length:Int)+(i:Int))=some (ck m f.fV):=by
 have hl:=(List.getElem?_eq_some_iff.1 hf).1
 have h1:=qI (f:=f) (n:=(m.aA.length:Int)+(i:Int)) h
 rw [←h1]
 have hlen:(cn m f).ax.length=m.aA.length+m.ax.length:=by simp [cn]
 unfold dL
 rw [if_pos (by rw [hlen];omega)]
 show (m.aA.map (fun i=>ck m i.fV)++m.ax.map (fun g=>ck m g.fV))[_]?=_
 rw [List.getElem?_append_right (by simp;omega),List.getElem?_map,List.length_map]
 rw [show ((m.aA.length:Int)+(i:Int)).toNat-m.aA.length=i by omega,hf];rfl
end Go.Hl
namespace Go.Hl
def dA (l:List UInt8):List VP:=[ah 1 aj l]
instance:gN 1 dA:=⟨fun _=>rfl,fun x q h=>by simp only [dA,List.mem_cons,List.not_mem_nil,or_false] at h;subst h;infer_instance⟩
end Go.Hl
namespace Go.Hl
def oG (x:List UInt8×Int×Int×Int):List VP:=[cM x.1,ag .i64 x.2.1,ag .i64 x.2.2.1,ag .i64 x.2.2.2]
instance:gN 4 oG:=⟨fun _=>rfl,fun x q h=>by simp only [oG,List.mem_cons,List.not_mem_nil,or_false] at h;rcases h with h|h|h|h<;>subst h<;>infer_instance⟩
instance (x:List UInt8×Int×Int×Int):bC (oG x):=bC.of x
end Go.Hl
end
section
namespace Go.Hl
open Go.RowKit
structure QU (m:aU):Prop where
 gv:∀z∈m.ay,0≤z.Value∧z.Value<18446744073709551616
 el:∀z∈m.bY,0≤z.At∧z.At<18446744073709551616
 da:∀z∈m.bK,0≤z.At∧z.At<18446744073709551616
theorem Oa {t:UInt8} (h:(t.toNat:Int)=126∨(t.toNat:Int)=127):fH t=32∨fH t=64:=by
 unfold fH
 rcases h with h|h
 · exact .inr (by rw [if_neg (by omega),if_pos h])
 · exact .inl (if_pos h)
theorem Tj {m:aU} (h:dy m) (hb:QU m) (hs:wY m):o4 m where
 gl:=by have:=hs.globals;omega
 gv:=fun z hz=>⟨(hb.gv z hz).1,(hb.gv z hz).2,Oa ((zn h hz).imp id And.left)⟩
 tb:=by have:=(cv h).table;omega
 ms:=fun z hz=>LI h hz
 ml:=by have:=hs.dI;omega
 ll:=by have:=hs.elems;omega
 el:=fun e he=>by
  obtain ⟨h1,h2,h3,h4⟩:=vJ h he
  refine ⟨(hb.el e he).1,(hb.el e he).2,by omega,fun f hf=> ?_⟩
  have h5:=h4 f hf
  have h6:=hs.imports
  have h7:=hs.funcs
  unfold iU cw at h5
  omega
 dl:=by have:=hs.bO;omega
 da:=fun d hd=>by
  obtain ⟨h1,h2,_⟩:=vK h hd
  exact ⟨h2,(hb.da d hd).1,(hb.da d hd).2,by omega⟩
noncomputable def L2 (m:aU) (a:eO) (ke:Nat):eO:=uh m (a.height+rO m) (Lt m a.height (p4 a m) m.ay.length) ke
theorem AN {X:yd} {m:aU} {a:eO} (h:eg X a) (hm:o4 m) (hf:a.height+(rO m+DT m)≤X.size) (ke:Nat):eg X (L2 m a ke)∧p6 (p4 a m) (L2 m a ke):=by
 have h1:=hm.r1;have h2:=hm.r2
 have h3:eg X (p4 a m):=pZ (pZ h (by omega)) (by simp only;omega)
 have h4:=Ak (m:=m) (g:=a.height) h3 m.ay.length (by omega)
 have h5:=Al (m:=m) (t:=a.height+rO m) h4 hm (by omega) ke
 exact ⟨h5.1,(Ci _).trans h5.2⟩
def jK:aU:=⟨[],[],[],-1,[],[⟨127,False,5⟩,⟨126,False,6⟩],[],-1,[],[]⟩
instance (m:aU):bC (bh m):=by unfold bh;infer_instance
theorem Dd:dy jK:=by
 refine ⟨?_, ?_, ?_, ?_, ?_, ?_, ?_, ?_, ?_, ?_⟩<;>simp [jK,za,nG,jD,l9,zc,nH,me,iJ,ua,uc,mR,fK,cw,jk,mP,Ip,pT,Ad,jC,iU,qB,fH]
theorem Fy:jE jK:=⟨Dd,fun f hf=>by simp [jK] at hf⟩
theorem Ob:jP jK:=⟨fun f hf=>by simp [jK] at hf,fun f hf=>by simp [jK] at hf,fun f hf=>by simp [jK] at hf⟩
theorem Hr:o4 jK:=Tj Dd ⟨fun z hz=>by simp [jK] at hz;rcases hz with rfl|rfl<;>decide,fun z hz=>by simp [jK] at hz,fun z hz=>by simp [jK] at hz⟩
 ⟨by decide,by decide,by decide,by decide,by decide,by decide,by decide,by decide,fun z hz=>by simp [jK] at hz,fun z hz=>by simp [jK] at hz,fun z hz=>by simp [jK] at hz,fun z hz=>by simp [jK] at hz,fun z hz=>by simp [jK] at hz,fun z hz=>by simp [jK] at hz⟩
theorem L3 {r:Nat×Nat×Int} (h:vm jK r):r=(0,0,0):=by
 rcases h with ⟨k,e,h1,_⟩|⟨_,k,d,h1,_⟩|⟨_,_,h⟩
 · simp [jK] at h1
 · simp [jK] at h1
 · exact h
def Kd (n:Nat):eO:=⟨List.replicate n 0,0,0,[]⟩
theorem Fz {X:yd} {n:Nat} (h:X.size=n) (hn:n≤4194304):eg X (Kd n):=⟨by rw [h];exact List.length_replicate,Nat.zero_le _,by omega,Nat.le_refl _⟩
def Tk:eO:=Lt jK 0 (p4 (Kd 1000) jK) 2
theorem Tl:BZ ((Tk.bytes.drop 8).take 8)=6:=by decide+kernel
theorem De:(Kd 1000).height+(rO jK+DT jK)≤1000:=by decide+kernel
end Go.Hl
end
section
namespace Go.Hl
def Tm (p:Prop):List VP:=[ak p]
instance:gN 1 Tm:=⟨fun _=>rfl,fun x q h=>by simp only [Tm,List.mem_cons,List.not_mem_nil,or_false] at h;subst h;infer_instance⟩
def sgP (n:Nat) (op:Int) (A:Nat):Prop:=(op=3∨op=5)∧2^(n-1)≤A
instance {n:Nat} {op:Int} {A:Nat}:Decidable (sgP n op A):=by unfold sgP;infer_instance
def noI:au:=⟨-1,0,0,0,[]⟩
def isC (x:au):Prop:=x.Code=65∨x.Code=66
instance (x:au):Decidable (isC x):=by unfold isC;infer_instance
def Px (c:Int):Prop:=((c=0∨c=12)∨c=14)∨c=15
def L4 (c:Int):Prop:=(2≤c∧c≤5)∨c=11
instance (c:Int):Decidable (Px c):=by unfold Px;infer_instance
instance (c:Int):Decidable (L4 c):=by unfold L4;infer_instance
abbrev gI (l:List au) (i:Nat):au:=l.getD i noI
end Go.Hl
end
