/- Plain laws of the functions uV this seat's, laid anew from another seat's text. No conditions but those that the theorems name. -/
import Derived.Test.YtoeengmnmhhpgaaGreatP15zxD
import Derived.Test.YtoeengmnmhhpgaaGreatR15z
import Derived.Test.YtoeengmnmhhpgaaGreatB15za
import Derived.Test.YtoeengmnmhhpgaaGreatB15zb
import Derived.Test.YtoeengmnmhhpgaaGreatB15zc
import Derived.Test.YtoeengmnmhhpgaaGreatB15zd
import Derived.Test.YtoeengmnmhhpgaaGreatB15ze
import Derived.Test.YtoeengmnmhhpgaaGreatB15zf
import Derived.Test.YtoeengmnmhhpgaaGreatB15zg
import Derived.Test.YtoeengmnmhhpgaaGreatB15zh
import Derived.Test.YtoeengmnmhhpgaaGreatB15zi
import Derived.Test.YtoeengmnmhhpgaaGreatB15zj
import Derived.Test.YtoeengmnmhhpgaaGreatB15zk
import Derived.Test.YtoeengmnmhhpgaaGreatB15zt
import Derived.Test.YtoeengmnmhhpgaaGreatB15zm
import Derived.Test.YtoeengmnmhhpgaaGreatB15zn
import Derived.Test.YtoeengmnmhhpgaaGreatB15zo
import Derived.Test.YtoeengmnmhhpgaaGreatC15za
import Derived.Test.YtoeengmnmhhpgaaGreatC15zb
import Derived.Test.YtoeengmnmhhpgaaGreatC15zc
import Derived.Test.YtoeengmnmhhpgaaGreatC15zd
namespace Go.Ab
open Go
set_option linter.unusedVariables false
structure RdS where
 snaps:List yU
 packs:List z8
 used:Int
 cs:List yU
 cp:List z8
 pos:Int
 stage:Nat
def TO (h:yF) (l:List z8) (body:List Int):Prop:=(uX body).2.2=0∧(uX body).2.1=(body.length:Int)∧(uX body).1.Thread∈bA h∧bP l (uX body).1=true∧evN l+(uX body).1.Events.length≤20000
instance decGoodP {h:yF} {l:List z8} {b:List Int}:Decidable (TO h l b):=inferInstanceAs (Decidable (_∧_))
def B6 (h:yF) (st:RdS) (k:Int) (body:List Int) (pos:Int):Option RdS :=
 if k=83 then (if st.stage≤1 then (match kV body with
  | some (x,[])=>if kJ h.Domains (st.cs++[x])=0 then some { st with cs:=st.cs++[x],stage:=1,pos:=pos } else none
  | _=>none) else none)
 else if k=80 then (if TO h st.cp body then some { st with cp:=st.cp++[(uX body).1],stage:=2,pos:=pos } else none)
 else if k=70 then (if body=[]∧st.stage≠0 then some ⟨st.cs,st.cp,pos,st.cs,st.cp,pos,0⟩ else none)
 else none
def nH (h:yF):Nat→RdS→List Int→RdS
 | 0,st,_=>st
 | n+1,st,b=>match p9 b with
  | none=>st
  | some (k,body,r)=>match B6 h st k body (st.pos+((b.length:Int) - r.length)) with
   | none=>st
   | some st'=>nH h n st' r
def jW (b:List Int):Option (yF×List Int):=match p9 b with
 | none=>none
 | some (k,body,r)=>if k=72 then (match pI body with
  | some (h,[])=>if aH h=0 then some (h,r) else none
  | _=>none) else none
def CJ (h:yF) (n:Int):RdS:=⟨h.Snaps,[],n,h.Snaps,[],n,0⟩
def fin (b:List Int) (h:yF) (r:List Int):RdS:=nH h r.length (CJ h ((b.length:Int) - r.length)) r
def bO (b:List Int):yF×List z8×Int:=match jW b with
 | none=>(⟨[],[],[]⟩,[],0)
 | some (h,r)=>(⟨h.Threads,h.Domains,(fin b h r).snaps⟩,(fin b h r).packs,(fin b h r).used)
structure RdI (st:RdS):Prop where
 v:nR st.cp
 ev:evN st.cp≤20000
 cs:st.cs.length≤200
 pre:∃ m,st.cp=st.packs++m
 snaps:st.snaps.length≤200
 stg:st.stage≤2
theorem CW {l:List z8} (hv:nR l):l.length≤evN l:=by
 induction l with
 | nil=>simp
 | cons a r ih =>
  have h1:=zC3 hv (p:=a) (by simp)
  have h2:=ih fun p hp=>hv p (by simp [hp])
  simp only [evN,List.map_cons,List.sum_cons,List.length_cons] at *
  omega
theorem O7 {d:List yS} {l:List yU} (h:kJ d l=0):d.length≤8∧l.length≤200:=by
 unfold kJ at h
 split at h
 ·omega
 ·split at h
  ·omega
  ·omega
theorem R7 {l:List z8} {p:z8} (h:nR l) (hp:qI p=0):nR (l++[p]):=by
 intro q hq
 rcases List.mem_append.1 hq with hq | hq
 ·exact h q hq
 ·rw [List.mem_singleton.1 hq];exact hp
theorem zBZ {h:yF} {st st':RdS} {k pos:Int} {body:List Int} (hb:∀ x∈body,x6 x) (hi:RdI st) (hs:B6 h st k body pos=some st'):RdI st':=by
 unfold B6 at hs
 split at hs
 ·split at hs
  ·split at hs
   ·split at hs
    ·rename_i hc
     injection hs with hs;subst hs
     exact ⟨hi.v,hi.ev,(O7 hc).2,hi.pre,hi.snaps,by simp⟩
    ·cases hs
   ·cases hs
  ·cases hs
 ·split at hs
  ·split at hs
   ·rename_i hg
    injection hs with hs;subst hs
    obtain ⟨g1,g2,g3,g4,g5⟩:=hg
    have hz:=SJ hb g1
    refine ⟨R7 hi.v hz.1,by simp only [BU];omega,hi.cs,?_,hi.snaps,by simp⟩
    obtain ⟨m,hm⟩:=hi.pre
    exact ⟨m++[(uX body).1],by simp only;rw [hm,List.append_assoc]⟩
   ·cases hs
  ·split at hs
   ·split at hs
    ·injection hs with hs;subst hs
     exact ⟨hi.v,hi.ev,hi.cs,⟨[],by simp⟩,hi.cs,by simp⟩
    ·cases hs
   ·cases hs
theorem QO {h:yF} {n:Int} (hc:h.Snaps.length≤200):RdI (CJ h n):=⟨fun p hp=>(by cases hp),by simp [CJ,evN],hc,⟨[],rfl⟩,hc,by simp [CJ]⟩
/-! The program's side. -/
def fH (E:Option (List (Int×wJ))) (l:List z8):Prop:=(∀ k,(uN (E.getD []) k).getD ⟨0,0⟩=(⟨(jU l k).1,(jU l k).2⟩:wJ))∧(E.getD []).length≤l.length
theorem UC:fH none []:=⟨fun k=>rfl,by simp⟩
theorem zCL {l:List y7} {p:z8} (hl:l.length≤100000):DX 281474976710656 l p=some (decide (p.Thread∈l.map (·.Id))):=by
 unfold DX J9
 rw [n6 (l:=l) (fun n i=>JF 281474976710656 l p n i) (fun i x=>if x.Id=p.Thread then some ((i:Nat):Int) else none) hl]
 ·rw [zbs]
  cases hb:uS (fun (i:Nat) (x:y7)=>if x.Id=p.Thread then some ((i:Nat):Int) else none) 0 l with
  | inl u =>
   have hn:=Y4 hb
   rw [yM (show ¬ p.Thread∈l.map (·.Id) from fun hm=>?_)]
   ·rfl
   ·obtain ⟨x,hx,hxe⟩:=List.mem_map.1 hm
    obtain ⟨i,hi⟩:=List.mem_iff_getElem?.1 hx
    have:=hn i x hi
    rw [if_pos hxe] at this;cases this
  | inr q =>
   have:∀ (m:List y7) (i:Nat),uS (fun (i:Nat) (x:y7)=>if x.Id=p.Thread then some ((i:Nat):Int) else none) i m=.inr q→0≤q∧p.Thread∈m.map (·.Id):=by
    intro m
    induction m with
    | nil=>intro i h;cases h
    | cons a r ih =>
     intro i h
     simp only [uS] at h
     by_cases ha:a.Id=p.Thread
     ·rw [if_pos ha] at h
      injection h with h
      exact ⟨by omega,by simp [ha]⟩
     ·rw [if_neg ha] at h
      obtain ⟨h1,h2⟩:=ih _ h
      exact ⟨h1,by simp only [List.map_cons,List.mem_cons];exact .inr h2⟩
   obtain ⟨q1,q2⟩:=this l 0 hb
   rw [yP q2]
   simp only [zbs]
   rw [yP (show q≥0 from q1)]
 ·intro n i hi
  show oB _ _ _ _ _=_
  unfold oB
  rw [yM (by omega),cond_false]
 ·intro n i x r hd hi
  show oB _ _ _ _ _=_
  unfold oB
  rw [yP (by omega),cond_true,w5 hd,zbs,wW (by omega)]
  unfold MA
  rw [zbs]
  by_cases he:x.Id=p.Thread
  ·rw [if_pos he,uF he];rfl
  ·rw [if_neg he,uH he];rfl
theorem zCR {h:yF} {cs:List yU} {l:List z8} {E:Option (List (Int×wJ))} {p:z8} (ht:h.Threads.length≤100000) (hv:nR l) (hN:evN l≤100000) (hE:fH E l) (hp:qI p=0) :
  ∃ E',AC 281474976710656 ⟨⟨h.Threads,h.Domains,cs⟩,l,E,evN l⟩ p=some (if p.Thread∉bA h then (5,⟨⟨h.Threads,h.Domains,cs⟩,l,E,evN l⟩) else if bP l p=false then (11,⟨⟨h.Threads,h.Domains,cs⟩,l,E,evN l⟩)
   else (0,⟨⟨h.Threads,h.Domains,cs⟩,l++[p],E',evN (l++[p])⟩))∧fH E' (l++[p]):=by
 have hz:=bN hp
 have hr:=YM hv p.Thread
 have hc:=CW hv
 obtain ⟨x0,i0,v0⟩:=SP hz.2.2.2.2.2.2.1
 obtain ⟨x1,i1,v1⟩:=SU hz.2.2.2.2.2.2.1 (by omega)
 refine ⟨some (wS (E.getD []) p.Thread ⟨p.Serial+p.Events.length,DN p.Events⟩),?_,?_⟩
 ·unfold AC
  rw [zCL ht,zbs]
  by_cases h1:p.Thread∈bA h
  ·rw [if_neg (by simpa using h1),yP (show p.Thread∈h.Threads.map (·.Id) from h1),Bool.not_true,cond_false]
   simp only
   rw [hE.1]
   simp only
   rw [w64 (by omega) (by omega),i0,zbs]
   by_cases h2:p.Serial=(jU l p.Thread).1+p.Lost∧(jU l p.Thread).2≤GE p.Events
   ·have hf:bP l p=true:=by unfold bP;rw [yP h2.1,yP h2.2];rfl
    rw [wF h2.1,cond_false,v0,yM (by omega),zbs,cond_false,hf]
    rw [show (bif E.isNone then some [] else some (E.getD []))=some (E.getD []) by cases E<;>rfl,zbs,i1,zbs,xZ (by have:=hE.2;omega),zbs,xZ (by simp only [List.length_singleton];omega),zbs,w64 (by omega) (by omega),w64 (by omega) (by omega),v1,BU]
    simp
   ·have hf:bP l p=false:=by
     unfold bP
     rw [Bool.and_eq_false_iff]
     by_cases h3:p.Serial=(jU l p.Thread).1+p.Lost
     ·exact .inr (yM fun h4=>h2 ⟨h3,h4⟩)
     ·exact .inl (yM h3)
    rw [hf]
    by_cases h3:p.Serial=(jU l p.Thread).1+p.Lost
    ·rw [wF h3,cond_false,v0,yP (show GE p.Events<(jU l p.Thread).2 by
      rcases Int.lt_or_le (GE p.Events) (jU l p.Thread).2 with h4 | h4
      ·exact h4
      ·exact absurd ⟨h3,h4⟩ h2),zbs,cond_true];rfl
    ·rw [wE h3,cond_true,zbs,cond_true];rfl
  ·rw [if_pos h1,yM (show ¬ p.Thread∈h.Threads.map (·.Id) from h1),Bool.not_false,cond_true]
 ·refine ⟨fun k=>?_,?_⟩
  ·simp only [Option.getD_some]
   rw [XG,VG]
   unfold fX
   by_cases hk:p.Thread=k
   ·rw [if_pos hk,if_pos hk];rfl
   ·rw [if_neg hk,if_neg hk];exact hE.1 k
  ·simp only [Option.getD_some,List.length_append,List.length_singleton]
   have:=UO (E.getD []) p.Thread (⟨p.Serial+p.Events.length,DN p.Events⟩:wJ)
   have:=hE.2
   omega
theorem UP {c:y8} (h1:c.packets.length≤100000) (h2:c.head.Snaps.length≤100000):AH c=some c:=by
 unfold AH LS DZ
 rw [xZ (by simp only [List.length_nil];omega),zbs,zbs,xZ (by simp only [List.length_nil];omega),zbs,zbs];rfl
theorem MN {b body r:List Int} {k:Int} (h:p9 b=some (k,body,r)):fV b=(k,body,(b.length:Int) - r.length):=by unfold fV;rw [h]
theorem MF {b:List Int} (h:p9 b=none):fV b=(0,[],0):=by unfold fV;rw [h]
theorem B4 {b body r:List Int} {k:Int} (hb:vV b) (h:p9 b=some (k,body,r)):vV body∧vV r∧r.length+3≤b.length∧r=b.drop (b.length - r.length):=by
 have e:=zBb hb.1 h
 have hl:=(zCV k body).1
 have h2:=hb.2
 have hlen:b.length=(fE k body).length+r.length:=by conv=>lhs;rw [e,List.length_append]
 refine ⟨⟨fun x hx=>hb.1 x (by rw [e];unfold fE;simp [hx]),by omega⟩,⟨fun x hx=>hb.1 x (by rw [e];simp [hx]),by omega⟩,by omega,?_⟩
 conv=>rhs;arg 2;rw [e]
 rw [show b.length - r.length=(fE k body).length by omega,List.drop_left]
theorem zEg {b:List Int} {h:yF} (hb:vV b) (ht:h.Threads.length≤100000) (hdl:h.Domains.length≤100000):∀ (n m:Nat) (st:RdS) (rest:List Int) (E1 E2:Option (List (Int×wJ))),rest.length≤n→n<m→RdI st→rest=b.drop (b.length - rest.length)→rest.length≤b.length→st.pos=(b.length:Int) - rest.length →
  fH E1 st.packs→fH E2 st.cp →
  ∃ E,fH E (nH h n st rest).packs∧r9 281474976710656 b m (decide (st.stage≠0)) (decide (st.stage=2)) st.pos h.Threads h.Domains st.snaps E1 (evN st.packs) st.used st.packs h.Threads h.Domains E2 (evN st.cp) st.cs st.cp =
   some ⟨⟨⟨h.Threads,h.Domains,(nH h n st rest).snaps⟩,(nH h n st rest).packs,E,evN (nH h n st rest).packs⟩,(nH h n st rest).used⟩:=by
 intro n
 induction n with
 | zero =>
  intro m st rest E1 E2 hr hm hi hd hrl hpos he1 he2
  have:rest=[]:=List.length_eq_zero_iff.1 (by omega)
  subst this
  cases m with
  | zero=>omega
  | succ m =>
   refine ⟨E1,he1,?_⟩
   show lH _ _ _ _ _ _ _ _ _ _ _ _ _ _ _ _ _ _ _=_
   unfold lH
   simp only [List.length_nil] at hpos
   rw [xZ (by omega),zbs,aV (by omega),show st.pos.toNat=b.length by omega,List.drop_length,NZ vV.nil,zbs]
   rfl
 | succ n ih =>
  intro m st rest E1 E2 hr hm hi hd hrl hpos he1 he2
  cases m with
  | zero=>omega
  | succ m =>
   show ∃ E,_∧lH _ _ _ _ _ _ _ _ _ _ _ _ _ _ _ _ _ _ _=_
   unfold lH
   have hbl:=hb.2
   have hrest:vV rest:=by rw [hd];exact hb.drop _
   have hpn:st.pos.toNat=b.length - rest.length:=by omega
   have hcp:=CW hi.v
   have hev:=hi.ev
   have hcs:=hi.cs
   rw [xZ (by omega),zbs,aV (by omega),hpn,← hd,NZ hrest,zbs]
   unfold nH
   cases hc:p9 rest with
   | none =>
    rw [MF hc]
    exact ⟨E1,he1,rfl⟩
   | some v =>
    obtain ⟨k,body,r⟩:=v
    obtain ⟨q1,q2,q3,q4⟩:=B4 hrest hc
    have hbb:=q1.2
    rw [MN hc]
    simp only
    rw [uH (show (rest.length:Int) - r.length≠0 by omega),cond_false,w64 (by omega) (by omega)]
    have hr':r=b.drop (b.length - r.length):=by
     conv=>lhs;rw [q4,hd,List.drop_drop]
     congr 1
     rw [List.length_drop];omega
    unfold B6
    by_cases k1:k=83
    ·rw [uF k1,cond_true,if_pos k1]
     obtain ⟨x,p,e1,e2⟩:=zAG q1
     rw [e1,zbs]
     simp only
     rw [xZ (by simp only [List.length_singleton];omega),zbs]
     by_cases hst:st.stage≤1
     ·rw [if_pos hst,yM (show ¬ st.stage=2 by omega)]
      cases hps:kV body with
      | none =>
       rw [hps] at e2
       simp only at e2
       subst e2
       simp only [Bool.not_false,cond_true,zbs]
       exact ⟨E1,he1,rfl⟩
      | some v =>
       obtain ⟨y,rr⟩:=v
       rw [hps] at e2
       cases rr with
       | cons c cs =>
        simp only at e2
        subst e2
        simp only [Bool.not_false,cond_true,zbs]
        exact ⟨E1,he1,rfl⟩
       | nil =>
        simp only at e2
        obtain ⟨rfl,rfl⟩:=e2
        simp only [Bool.not_true,cond_false]
        rw [VX hdl (by simp only [List.length_append,List.length_singleton];omega),zbs,zbs]
        by_cases hcl:kJ h.Domains (st.cs++[x])=0
        ·rw [wF hcl,cond_false,if_pos hcl]
         have:=ih m { st with cs:=st.cs++[x],stage:=1,pos:=st.pos+((rest.length:Int) - r.length) } r E1 E2 (by omega) (by omega) ⟨hi.v,hi.ev,(O7 hcl).2,hi.pre,hi.snaps,by simp⟩ hr' (by omega) (by simp only;omega) he1 he2
         exact this
        ·rw [wE hcl,cond_true,if_neg hcl]
         exact ⟨E1,he1,rfl⟩
     ·rw [if_neg hst]
      rw [yP (show st.stage=2 by have:=hi.stg;omega)]
      cases p with
      | false=>exact ⟨E1,he1,rfl⟩
      | true=>exact ⟨E1,he1,rfl⟩
    ·rw [uH k1,cond_false,if_neg k1]
     by_cases k2:k=80
     ·rw [uF k2,cond_true,if_pos k2,zFg q1.1 q1.2,zbs]
      by_cases g1:(uX body).2.2=0
      ·rw [wF g1,cond_false]
       have hz:=SJ q1.1 g1
       by_cases g2:(uX body).2.1=(body.length:Int)
       ·rw [wF g2,cond_false]
        obtain ⟨E',f1,f2⟩:=zCR (cs:=st.cs) ht hi.v (by omega) he2 hz.1
        rw [f1,zbs]
        by_cases g3:(uX body).1.Thread∈bA h
        ·rw [if_neg (show ¬ (uX body).1.Thread∉bA h by simpa using g3)]
         cases g4:bP st.cp (uX body).1 with
         | false =>
          simp only [if_true]
          rw [wE (show (11:Int)≠0 by decide),cond_true,zbs]
          simp only [cond_true]
          rw [if_neg (fun hg=>by have:=hg.2.2.2.1;rw [g4] at this;cases this)]
          exact ⟨E1,he1,rfl⟩
         | true =>
          simp only [Bool.true_eq_false,if_false]
          rw [wF rfl,cond_false,zbs]
          simp only
          by_cases g5:evN (st.cp++[(uX body).1])>20000
          ·rw [yP (by omega),cond_true,if_neg (fun hg=>by have:=hg.2.2.2.2;rw [BU] at g5;omega)]
           exact ⟨E1,he1,rfl⟩
          ·rw [yM (by omega),cond_false,if_pos ⟨g1,g2,g3,g4,by rw [BU] at g5;omega⟩]
           obtain ⟨mm,hmm⟩:=hi.pre
           have:=ih m { st with cp:=st.cp++[(uX body).1],stage:=2,pos:=st.pos+((rest.length:Int) - r.length) } r E1 E' (by omega) (by omega) ⟨R7 hi.v hz.1,by simp only;omega,hi.cs,⟨mm++[(uX body).1],by simp only;rw [hmm,List.append_assoc]⟩,hi.snaps,by simp⟩ hr' (by omega) (by simp only;omega) he1 f2
           exact this
        ·rw [if_pos (show (uX body).1.Thread∉bA h from g3)]
         simp only
         rw [wE (show (5:Int)≠0 by decide),cond_true,zbs]
         simp only [cond_true]
         rw [if_neg (fun hg=>g3 hg.2.2.1)]
         exact ⟨E1,he1,rfl⟩
       ·rw [wE g2,cond_true,zbs]
        simp only [cond_true]
        rw [if_neg (fun hg=>g2 hg.2.1)]
        exact ⟨E1,he1,rfl⟩
      ·rw [wE g1,cond_true,zbs]
       simp only [cond_true]
       rw [if_neg (fun hg=>g1 hg.1)]
       exact ⟨E1,he1,rfl⟩
     ·rw [uH k2,cond_false,if_neg k2]
      by_cases k3:k=70
      ·rw [uF k3,cond_true,if_pos k3]
       by_cases g1:body=[]∧st.stage≠0
       ·rw [if_pos g1,yP g1.2,g1.1,yM (show ¬ ((([]:List Int).length:Nat):Int)>0 by simp),Bool.not_true,Bool.or_self,cond_false,UP (by simp only;omega) (by simp only;omega),zbs]
        have:=ih m ⟨st.cs,st.cp,st.pos+((rest.length:Int) - r.length),st.cs,st.cp,st.pos+((rest.length:Int) - r.length),0⟩ r E2 E2 (by omega) (by omega) ⟨hi.v,hi.ev,hi.cs,⟨[],by simp⟩,hi.cs,by simp⟩ hr' (by omega) (by simp only;omega) he2 he2
        exact this
       ·rw [if_neg g1]
        rw [show (decide (((body.length:Nat):Int)>(0:Int))||!decide (st.stage≠0))=true by
         by_cases hbn:body=[]
         ·rw [yM (show ¬ st.stage≠0 from fun h=>g1 ⟨hbn,h⟩)];simp
         ·rw [yP (show ((body.length:Nat):Int)>0 by have:=List.length_pos_iff.2 hbn;omega)];rfl,cond_true]
        exact ⟨E1,he1,rfl⟩
      ·rw [uH k3,cond_false,if_neg k3]
       exact ⟨E1,he1,rfl⟩
end Go.Ab
