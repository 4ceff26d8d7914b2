/- Plain laws of the functions wU this seat's, laid anew from another seat's text. No conditions but those that the theorems name. -/
import Derived.Test.YtoeengmnmhhpgaaP15xD
import Derived.Test.YtoeengmnmhhpgaaR15
import Derived.Test.YtoeengmnmhhpgaaB15a
import Derived.Test.YtoeengmnmhhpgaaB15b
import Derived.Test.YtoeengmnmhhpgaaB15c
import Derived.Test.YtoeengmnmhhpgaaB15d
import Derived.Test.YtoeengmnmhhpgaaB15e
import Derived.Test.YtoeengmnmhhpgaaB15f
import Derived.Test.YtoeengmnmhhpgaaB15g
import Derived.Test.YtoeengmnmhhpgaaB15h
import Derived.Test.YtoeengmnmhhpgaaB15i
import Derived.Test.YtoeengmnmhhpgaaB15j
import Derived.Test.YtoeengmnmhhpgaaB15k
import Derived.Test.YtoeengmnmhhpgaaB15t
import Derived.Test.YtoeengmnmhhpgaaB15m
import Derived.Test.YtoeengmnmhhpgaaB15n
import Derived.Test.YtoeengmnmhhpgaaB15o
import Derived.Test.YtoeengmnmhhpgaaC15a
import Derived.Test.YtoeengmnmhhpgaaC15b
import Derived.Test.YtoeengmnmhhpgaaC15c
import Derived.Test.YtoeengmnmhhpgaaC15d
namespace Go.Ab
open Go
set_option linter.unusedVariables false
structure RdS where
 snaps:List yQ
 packs:List zQ
 used:Int
 cs:List yQ
 cp:List zQ
 pos:Int
 stage:Nat
def HJ (h:zT) (l:List zQ) (body:List Int):Prop:=(uW body).2.2=0∧(uW body).2.1=(body.length:Int)∧(uW body).1.Thread∈pV h∧aT l (uW body).1=true∧evN l+(uW body).1.Events.length≤20000
instance decGoodP {h:zT} {l:List zQ} {b:List Int}:Decidable (HJ h l b):=inferInstanceAs (Decidable (_∧_))
def qR (h:zT) (st:RdS) (k:Int) (body:List Int) (pos:Int):Option RdS :=
 if k=83 then (if st.stage≤1 then (match pM body with
  | some (x,[])=>if uZ h.Domains (st.cs++[x])=0 then some { st with cs:=st.cs++[x],stage:=1,pos:=pos } else none
  | _=>none) else none)
 else if k=80 then (if HJ h st.cp body then some { st with cp:=st.cp++[(uW body).1],stage:=2,pos:=pos } else none)
 else if k=70 then (if body=[]∧st.stage≠0 then some ⟨st.cs,st.cp,pos,st.cs,st.cp,pos,0⟩ else none)
 else none
def t6 (h:zT):Nat→RdS→List Int→RdS
 | 0,st,_=>st
 | n+1,st,b=>match tF b with
  | none=>st
  | some (k,body,r)=>match qR h st k body (st.pos+((b.length:Int) - r.length)) with
   | none=>st
   | some st'=>t6 h n st' r
def jC (b:List Int):Option (zT×List Int):=match tF b with
 | none=>none
 | some (k,body,r)=>if k=72 then (match a9 body with
  | some (h,[])=>if qB h=0 then some (h,r) else none
  | _=>none) else none
def kU (h:zT) (n:Int):RdS:=⟨h.Snaps,[],n,h.Snaps,[],n,0⟩
def fin (b:List Int) (h:zT) (r:List Int):RdS:=t6 h r.length (kU h ((b.length:Int) - r.length)) r
def vJ (b:List Int):zT×List zQ×Int:=match jC b with
 | none=>(⟨[],[],[]⟩,[],0)
 | some (h,r)=>(⟨h.Threads,h.Domains,(fin b h r).snaps⟩,(fin b h r).packs,(fin b h r).used)
structure RdI (st:RdS):Prop where
 v:nL st.cp
 ev:evN st.cp≤20000
 cs:st.cs.length≤200
 pre:∃ m,st.cp=st.packs++m
 snaps:st.snaps.length≤200
 stg:st.stage≤2
theorem K3 {l:List zQ} (hv:nL l):l.length≤evN l:=by
 induction l with
 | nil=>simp
 | cons a r ih =>
  have h1:=X9 hv (p:=a) (by simp)
  have h2:=ih fun p hp=>hv p (by simp [hp])
  simp only [evN,List.map_cons,List.sum_cons,zlc] at *
  omega
theorem LN {d:List y0} {l:List yQ} (h:uZ d l=0):d.length≤8∧l.length≤200:=by
 unfold uZ at h
 split at h
 ·omega
 ·split at h
  ·omega
  ·omega
theorem HP {l:List zQ} {p:zQ} (h:nL l) (hp:u3 p=0):nL (l++[p]):=by
 intro q hq
 rcases List.mem_append.1 hq with hq | hq
 ·exact h q hq
 ·rw [List.mem_singleton.1 hq];exact hp
theorem zBu {h:zT} {st st':RdS} {k pos:Int} {body:List Int} (hb:∀ x∈body,xO x) (hi:RdI st) (hs:qR h st k body pos=some st'):RdI st':=by
 unfold qR at hs
 split at hs
 ·split at hs
  ·split at hs
   ·split at hs
    ·rename_i hc
     injection hs with hs;subst hs
     exact ⟨hi.v,hi.ev,(LN hc).2,hi.pre,hi.snaps,by simp⟩
    ·cases hs
   ·cases hs
  ·cases hs
 ·split at hs
  ·split at hs
   ·rename_i hg
    injection hs with hs;subst hs
    obtain ⟨g1,g2,g3,g4,g5⟩:=hg
    have hz:=Q1 hb g1
    refine ⟨HP hi.v hz.1,by simp only [oY];omega,hi.cs,?_,hi.snaps,by simp⟩
    obtain ⟨m,hm⟩:=hi.pre
    exact ⟨m++[(uW body).1],by simp only;rw [hm,List.append_assoc]⟩
   ·cases hs
  ·split at hs
   ·split at hs
    ·injection hs with hs;subst hs
     exact ⟨hi.v,hi.ev,hi.cs,⟨[],by simp⟩,hi.cs,by simp⟩
    ·cases hs
   ·cases hs
theorem QI {h:zT} {n:Int} (hc:h.Snaps.length≤200):RdI (kU h n):=⟨fun p hp=>(by cases hp),by simp [kU,evN],hc,⟨[],rfl⟩,hc,by simp [kU]⟩
/-! The program's side. -/
def cF (E:Option (List (Int×xS))) (l:List zQ):Prop:=(∀ k,(vV (E.getD []) k).getD ⟨0,0⟩=(⟨(pU l k).1,(pU l k).2⟩:xS))∧(E.getD []).length≤l.length
theorem L3:cF none []:=⟨fun k=>rfl,by simp⟩
theorem zDf {l:List xH} {p:zQ} (hl:l.length≤100000):C7 281474976710656 l p=some (decide (p.Thread∈l.map (·.Id))):=by
 unfold C7 GX
 rw [mS (l:=l) (fun n i=>DH 281474976710656 l p n i) (fun i x=>if x.Id=p.Thread then some ((i:Nat):Int) else none) hl]
 ·rw [zbs]
  cases hb:uB (fun (i:Nat) (x:xH)=>if x.Id=p.Thread then some ((i:Nat):Int) else none) 0 l with
  | inl u =>
   have hn:=RR hb
   rw [yO (show ¬ p.Thread∈l.map (·.Id) from fun hm=>?_)]
   ·rfl
   ·obtain ⟨x,hx,hxe⟩:=List.mem_map.1 hm
    obtain ⟨i,hi⟩:=List.mem_iff_getElem?.1 hx
    have:=hn i x hi
    rw [if_pos hxe] at this;cases this
  | inr q =>
   have:∀ (m:List xH) (i:Nat),uB (fun (i:Nat) (x:xH)=>if x.Id=p.Thread then some ((i:Nat):Int) else none) i m=.inr q→0≤q∧p.Thread∈m.map (·.Id):=by
    intro m
    induction m with
    | nil=>intro i h;cases h
    | cons a r ih =>
     intro i h
     simp only [uB] at h
     by_cases ha:a.Id=p.Thread
     ·rw [if_pos ha] at h
      injection h with h
      exact ⟨by omega,by simp [ha]⟩
     ·rw [if_neg ha] at h
      obtain ⟨h1,h2⟩:=ih _ h
      exact ⟨h1,by simp only [List.map_cons,List.mem_cons];exact .inr h2⟩
   obtain ⟨q1,q2⟩:=this l 0 hb
   rw [yU q2]
   simp only [zbs]
   rw [yU (show q≥0 from q1)]
 ·intro n i hi
  show gA _ _ _ _ _=_
  unfold gA
  rw [yO (by omega),cond_false]
 ·intro n i x r hd hi
  show gA _ _ _ _ _=_
  unfold gA
  rw [yU (by omega),cond_true,vS hd,zbs,vK (by omega)]
  unfold HH
  rw [zbs]
  by_cases he:x.Id=p.Thread
  ·rw [if_pos he,uE he];rfl
  ·rw [if_neg he,tA he];rfl
theorem TN {h:zT} {cs:List yQ} {l:List zQ} {E:Option (List (Int×xS))} {p:zQ} (ht:h.Threads.length≤100000) (hv:nL l) (hN:evN l≤100000) (hE:cF E l) (hp:u3 p=0) :
  ∃ E',rW 281474976710656 ⟨⟨h.Threads,h.Domains,cs⟩,l,E,evN l⟩ p=some (if p.Thread∉pV h then (5,⟨⟨h.Threads,h.Domains,cs⟩,l,E,evN l⟩) else if aT l p=false then (11,⟨⟨h.Threads,h.Domains,cs⟩,l,E,evN l⟩)
   else (0,⟨⟨h.Threads,h.Domains,cs⟩,l++[p],E',evN (l++[p])⟩))∧cF E' (l++[p]):=by
 have hz:=fA hp
 have hr:=zB3 hv p.Thread
 have hc:=K3 hv
 obtain ⟨x0,i0,v0⟩:=WM hz.2.2.2.2.2.2.1
 obtain ⟨x1,i1,v1⟩:=zAP hz.2.2.2.2.2.2.1 (by omega)
 refine ⟨some (x6 (E.getD []) p.Thread ⟨p.Serial+p.Events.length,BD p.Events⟩),?_,?_⟩
 ·unfold rW
  rw [zDf ht,zbs]
  by_cases h1:p.Thread∈pV h
  ·rw [if_neg (by simpa using h1),yU (show p.Thread∈h.Threads.map (·.Id) from h1),Bool.not_true,cond_false]
   simp only
   rw [hE.1]
   simp only
   rw [w64 (by omega) (by omega),i0,zbs]
   by_cases h2:p.Serial=(pU l p.Thread).1+p.Lost∧(pU l p.Thread).2≤BM p.Events
   ·have hf:aT l p=true:=by unfold aT;rw [yU h2.1,yU h2.2];rfl
    rw [x8 h2.1,cond_false,v0,yO (by omega),zbs,cond_false,hf]
    rw [show (bif E.isNone then some [] else some (E.getD []))=some (E.getD []) by cases E<;>rfl,zbs,i1,zbs,x7 (by have:=hE.2;omega),zbs,x7 (by simp only [zls];omega),zbs,w64 (by omega) (by omega),w64 (by omega) (by omega),v1,oY]
    simp
   ·have hf:aT l p=false:=by
     unfold aT
     rw [Bool.and_eq_false_iff]
     by_cases h3:p.Serial=(pU l p.Thread).1+p.Lost
     ·exact .inr (yO fun h4=>h2 ⟨h3,h4⟩)
     ·exact .inl (yO h3)
    rw [hf]
    by_cases h3:p.Serial=(pU l p.Thread).1+p.Lost
    ·rw [x8 h3,cond_false,v0,yU (show BM p.Events<(pU l p.Thread).2 by
      rcases Int.lt_or_le (BM p.Events) (pU l p.Thread).2 with h4 | h4
      ·exact h4
      ·exact absurd ⟨h3,h4⟩ h2),zbs,cond_true];rfl
    ·rw [wA h3,cond_true,zbs,cond_true];rfl
  ·rw [if_pos h1,yO (show ¬ p.Thread∈h.Threads.map (·.Id) from h1),Bool.not_false,cond_true]
 ·refine ⟨fun k=>?_,?_⟩
  ·simp only [Option.getD_some]
   rw [S5,zBy]
   unfold oH
   by_cases hk:p.Thread=k
   ·rw [if_pos hk,if_pos hk];rfl
   ·rw [if_neg hk,if_neg hk];exact hE.1 k
  ·simp only [Option.getD_some,zla,zls]
   have:=TA (E.getD []) p.Thread (⟨p.Serial+p.Events.length,BD p.Events⟩:xS)
   have:=hE.2
   omega
theorem OE {c:yJ} (h1:c.packets.length≤100000) (h2:c.head.Snaps.length≤100000):o3 c=some c:=by
 unfold o3 JL rD
 rw [x7 (by simp only [List.length_nil];omega),zbs,zbs,x7 (by simp only [List.length_nil];omega),zbs,zbs];rfl
theorem QC {b body r:List Int} {k:Int} (h:tF b=some (k,body,r)):r8 b=(k,body,(b.length:Int) - r.length):=by unfold r8;rw [h]
theorem T3 {b:List Int} (h:tF b=none):r8 b=(0,[],0):=by unfold r8;rw [h]
theorem d9 {b body r:List Int} {k:Int} (hb:wI b) (h:tF b=some (k,body,r)):wI body∧wI r∧r.length+3≤b.length∧r=b.drop (b.length - r.length):=by
 have e:=zCu hb.1 h
 have hl:=(g9 k body).1
 have h2:=hb.2
 have hlen:b.length=(y9 k body).length+r.length:=by conv=>lhs;rw [e,zla]
 refine ⟨⟨fun x hx=>hb.1 x (by rw [e];unfold y9;simp [hx]),by omega⟩,⟨fun x hx=>hb.1 x (by rw [e];simp [hx]),by omega⟩,by omega,?_⟩
 conv=>rhs;arg 2;rw [e]
 rw [show b.length - r.length=(y9 k body).length by omega,List.drop_left]
theorem Z9 {b:List Int} {h:zT} (hb:wI b) (ht:h.Threads.length≤100000) (hdl:h.Domains.length≤100000):∀ (n m:Nat) (st:RdS) (rest:List Int) (E1 E2:Option (List (Int×xS))),rest.length≤n→n<m→RdI st→rest=b.drop (b.length - rest.length)→rest.length≤b.length→st.pos=(b.length:Int) - rest.length →
  cF E1 st.packs→cF E2 st.cp →
  ∃ E,cF E (t6 h n st rest).packs∧mU 281474976710656 b m (decide (st.stage≠0)) (decide (st.stage=2)) st.pos h.Threads h.Domains st.snaps E1 (evN st.packs) st.used st.packs h.Threads h.Domains E2 (evN st.cp) st.cs st.cp =
   some ⟨⟨⟨h.Threads,h.Domains,(t6 h n st rest).snaps⟩,(t6 h n st rest).packs,E,evN (t6 h n st rest).packs⟩,(t6 h n st rest).used⟩:=by
 intro n
 induction n with
 | zero =>
  intro m st rest E1 E2 hr hm hi hd hrl hpos he1 he2
  have:rest=[]:=List.length_eq_zero_iff.1 (by omega)
  subst this
  cases m with
  | zero=>omega
  | succ m =>
   refine ⟨E1,he1,?_⟩
   show g7 _ _ _ _ _ _ _ _ _ _ _ _ _ _ _ _ _ _ _=_
   unfold g7
   simp only [List.length_nil] at hpos
   rw [x7 (by omega),zbs,oT (by omega),show st.pos.toNat=b.length by omega,List.drop_length,MP wI.nil,zbs]
   rfl
 | succ n ih =>
  intro m st rest E1 E2 hr hm hi hd hrl hpos he1 he2
  cases m with
  | zero=>omega
  | succ m =>
   show ∃ E,_∧g7 _ _ _ _ _ _ _ _ _ _ _ _ _ _ _ _ _ _ _=_
   unfold g7
   have hbl:=hb.2
   have hrest:wI rest:=by rw [hd];exact hb.drop _
   have hpn:st.pos.toNat=b.length - rest.length:=by omega
   have hcp:=K3 hi.v
   have hev:=hi.ev
   have hcs:=hi.cs
   rw [x7 (by omega),zbs,oT (by omega),hpn,← hd,MP hrest,zbs]
   unfold t6
   cases hc:tF rest with
   | none =>
    rw [T3 hc]
    exact ⟨E1,he1,rfl⟩
   | some v =>
    obtain ⟨k,body,r⟩:=v
    obtain ⟨q1,q2,q3,q4⟩:=d9 hrest hc
    have hbb:=q1.2
    rw [QC hc]
    simp only
    rw [tA (show (rest.length:Int) - r.length≠0 by omega),cond_false,w64 (by omega) (by omega)]
    have hr':r=b.drop (b.length - r.length):=by
     conv=>lhs;rw [q4,hd,List.drop_drop]
     congr 1
     rw [List.length_drop];omega
    unfold qR
    by_cases k1:k=83
    ·rw [uE k1,cond_true,if_pos k1]
     obtain ⟨x,p,e1,e2⟩:=zB8 q1
     rw [e1,zbs]
     simp only
     rw [x7 (by simp only [zls];omega),zbs]
     by_cases hst:st.stage≤1
     ·rw [if_pos hst,yO (show ¬ st.stage=2 by omega)]
      cases hps:pM body with
      | none =>
       rw [hps] at e2
       simp only at e2
       subst e2
       simp only [Bool.not_false,cond_true,zbs]
       exact ⟨E1,he1,rfl⟩
      | some v =>
       obtain ⟨y,rr⟩:=v
       rw [hps] at e2
       cases rr with
       | cons c cs =>
        simp only at e2
        subst e2
        simp only [Bool.not_false,cond_true,zbs]
        exact ⟨E1,he1,rfl⟩
       | nil =>
        simp only at e2
        obtain ⟨rfl,rfl⟩:=e2
        simp only [Bool.not_true,cond_false]
        rw [MV hdl (by simp only [zla,zls];omega),zbs,zbs]
        by_cases hcl:uZ h.Domains (st.cs++[x])=0
        ·rw [x8 hcl,cond_false,if_pos hcl]
         have:=ih m { st with cs:=st.cs++[x],stage:=1,pos:=st.pos+((rest.length:Int) - r.length) } r E1 E2 (by omega) (by omega) ⟨hi.v,hi.ev,(LN hcl).2,hi.pre,hi.snaps,by simp⟩ hr' (by omega) (by simp only;omega) he1 he2
         exact this
        ·rw [wA hcl,cond_true,if_neg hcl]
         exact ⟨E1,he1,rfl⟩
     ·rw [if_neg hst]
      rw [yU (show st.stage=2 by have:=hi.stg;omega)]
      cases p with
      | false=>exact ⟨E1,he1,rfl⟩
      | true=>exact ⟨E1,he1,rfl⟩
    ·rw [tA k1,cond_false,if_neg k1]
     by_cases k2:k=80
     ·rw [uE k2,cond_true,if_pos k2,zAQ q1.1 q1.2,zbs]
      by_cases g1:(uW body).2.2=0
      ·rw [x8 g1,cond_false]
       have hz:=Q1 q1.1 g1
       by_cases g2:(uW body).2.1=(body.length:Int)
       ·rw [x8 g2,cond_false]
        obtain ⟨E',f1,f2⟩:=TN (cs:=st.cs) ht hi.v (by omega) he2 hz.1
        rw [f1,zbs]
        by_cases g3:(uW body).1.Thread∈pV h
        ·rw [if_neg (show ¬ (uW body).1.Thread∉pV h by simpa using g3)]
         cases g4:aT st.cp (uW body).1 with
         | false =>
          simp only [if_true]
          rw [wA (show (11:Int)≠0 by decide),cond_true,zbs]
          simp only [cond_true]
          rw [if_neg (fun hg=>by have:=hg.2.2.2.1;rw [g4] at this;cases this)]
          exact ⟨E1,he1,rfl⟩
         | true =>
          simp only [Bool.true_eq_false,if_false]
          rw [x8 rfl,cond_false,zbs]
          simp only
          by_cases g5:evN (st.cp++[(uW body).1])>20000
          ·rw [yU (by omega),cond_true,if_neg (fun hg=>by have:=hg.2.2.2.2;rw [oY] at g5;omega)]
           exact ⟨E1,he1,rfl⟩
          ·rw [yO (by omega),cond_false,if_pos ⟨g1,g2,g3,g4,by rw [oY] at g5;omega⟩]
           obtain ⟨mm,hmm⟩:=hi.pre
           have:=ih m { st with cp:=st.cp++[(uW body).1],stage:=2,pos:=st.pos+((rest.length:Int) - r.length) } r E1 E' (by omega) (by omega) ⟨HP hi.v hz.1,by simp only;omega,hi.cs,⟨mm++[(uW body).1],by simp only;rw [hmm,List.append_assoc]⟩,hi.snaps,by simp⟩ hr' (by omega) (by simp only;omega) he1 f2
           exact this
        ·rw [if_pos (show (uW body).1.Thread∉pV h from g3)]
         simp only
         rw [wA (show (5:Int)≠0 by decide),cond_true,zbs]
         simp only [cond_true]
         rw [if_neg (fun hg=>g3 hg.2.2.1)]
         exact ⟨E1,he1,rfl⟩
       ·rw [wA g2,cond_true,zbs]
        simp only [cond_true]
        rw [if_neg (fun hg=>g2 hg.2.1)]
        exact ⟨E1,he1,rfl⟩
      ·rw [wA g1,cond_true,zbs]
       simp only [cond_true]
       rw [if_neg (fun hg=>g1 hg.1)]
       exact ⟨E1,he1,rfl⟩
     ·rw [tA k2,cond_false,if_neg k2]
      by_cases k3:k=70
      ·rw [uE k3,cond_true,if_pos k3]
       by_cases g1:body=[]∧st.stage≠0
       ·rw [if_pos g1,yU g1.2,g1.1,yO (show ¬ ((([]:List Int).length:Nat):Int)>0 by simp),Bool.not_true,Bool.or_self,cond_false,OE (by simp only;omega) (by simp only;omega),zbs]
        have:=ih m ⟨st.cs,st.cp,st.pos+((rest.length:Int) - r.length),st.cs,st.cp,st.pos+((rest.length:Int) - r.length),0⟩ r E2 E2 (by omega) (by omega) ⟨hi.v,hi.ev,hi.cs,⟨[],by simp⟩,hi.cs,by simp⟩ hr' (by omega) (by simp only;omega) he2 he2
        exact this
       ·rw [if_neg g1]
        rw [show (decide (((body.length:Nat):Int)>(0:Int))||!decide (st.stage≠0))=true by
         by_cases hbn:body=[]
         ·rw [yO (show ¬ st.stage≠0 from fun h=>g1 ⟨hbn,h⟩)];simp
         ·rw [yU (show ((body.length:Nat):Int)>0 by have:=List.length_pos_iff.2 hbn;omega)];rfl,cond_true]
        exact ⟨E1,he1,rfl⟩
      ·rw [tA k3,cond_false,if_neg k3]
       exact ⟨E1,he1,rfl⟩
end Go.Ab
