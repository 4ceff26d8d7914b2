/- Plain laws of the functions uS this seat's, laid anew from another seat's text. No conditions but those that the theorems name. -/
import Derived.Test.YtoeengmnmhhpgaaGreatP15zxD
import Derived.Test.YtoeengmnmhhpgaaGreatR15z
import Derived.Test.YtoeengmnmhhpgaaGreatB15za
import Derived.Test.YtoeengmnmhhpgaaGreatB15zb
import Derived.Test.YtoeengmnmhhpgaaGreatB15zc
import Derived.Test.YtoeengmnmhhpgaaGreatB15zd
import Derived.Test.YtoeengmnmhhpgaaGreatB15ze
import Derived.Test.YtoeengmnmhhpgaaGreatB15zf
import Derived.Test.YtoeengmnmhhpgaaGreatB15zg
import Derived.Test.YtoeengmnmhhpgaaGreatB15zh
import Derived.Test.YtoeengmnmhhpgaaGreatB15zi
import Derived.Test.YtoeengmnmhhpgaaGreatB15zj
import Derived.Test.YtoeengmnmhhpgaaGreatB15zk
import Derived.Test.YtoeengmnmhhpgaaGreatB15zt
import Derived.Test.YtoeengmnmhhpgaaGreatB15zm
import Derived.Test.YtoeengmnmhhpgaaGreatB15zn
import Derived.Test.YtoeengmnmhhpgaaGreatB15zo
import Derived.Test.YtoeengmnmhhpgaaGreatC15za
import Derived.Test.YtoeengmnmhhpgaaGreatC15zb
import Derived.Test.YtoeengmnmhhpgaaGreatC15zc
import Derived.Test.YtoeengmnmhhpgaaGreatC15zd
namespace Go.Ab
open Go
set_option linter.unusedVariables false
structure RdS where
 snaps:List yZ
 packs:List z7
 used:Int
 cs:List yZ
 cp:List z7
 pos:Int
 stage:Nat
def VJ (h:yB) (l:List z7) (body:List Int):Prop:=(tB body).2.2=0/\(tB body).2.1=(body.length:Int)/\(tB body).1.Thread∈kV h/\aW l (tB body).1=true/\evN l+(tB body).1.Events.length<=20000
instance decGoodP {h:yB} {l:List z7} {b:List Int}:Decidable (VJ h l b):=inferInstanceAs (Decidable (_/\_))
def bW (h:yB) (st:RdS) (k:Int) (body:List Int) (pos:Int):Option RdS :=
 if k=83 then (if st.stage<=1 then (match pU body with
  | some (x,[])=>if tV h.Domains (st.cs++[x])=0 then some { st with cs:=st.cs++[x],stage:=1,pos:=pos } else none
  | _=>none) else none)
 else if k=80 then (if VJ h st.cp body then some { st with cp:=st.cp++[(tB body).1],stage:=2,pos:=pos } else none)
 else if k=70 then (if body=[]/\st.stage≠0 then some ⟨st.cs,st.cp,pos,st.cs,st.cp,pos,0⟩ else none)
 else none
def kN (h:yB):Nat->RdS->List Int->RdS
 | 0,st,_=>st
 | n+1,st,b=>match pR b with
  | none=>st
  | some (k,body,r)=>match bW h st k body (st.pos+((b.length:Int) - r.length)) with
   | none=>st
   | some st'=>kN h n st' r
def jR (b:List Int):Option (yB×List Int):=match pR b with
 | none=>none
 | some (k,body,r)=>if k=72 then (match p9 body with
  | some (h,[])=>if pC h=0 then some (h,r) else none
  | _=>none) else none
def bS (h:yB) (n:Int):RdS:=⟨h.Snaps,[],n,h.Snaps,[],n,0⟩
def fin (b:List Int) (h:yB) (r:List Int):RdS:=kN h r.length (bS h ((b.length:Int) - r.length)) r
def vW (b:List Int):yB×List z7×Int:=match jR b with
 | none=>(⟨[],[],[]⟩,[],0)
 | some (h,r)=>(⟨h.Threads,h.Domains,(fin b h r).snaps⟩,(fin b h r).packs,(fin b h r).used)
structure RdI (st:RdS):Prop where
 v:nI st.cp
 ev:evN st.cp<=20000
 cs:st.cs.length<=200
 pre:∃ m,st.cp=st.packs++m
 snaps:st.snaps.length<=200
 stg:st.stage<=2
theorem BJ {l:List z7} (hv:nI l):l.length<=evN l:=by
 induction l with
 | nil=>simp
 | cons a r ih =>
  have h1:=zBE hv (p:=a) (by simp);have h2:=ih fun p hp=>hv p (by simp [hp])
  simp only [evN,List.map_cons,List.sum_cons,zlc] at *;omega
theorem NN {d:List xA} {l:List yZ} (h:tV d l=0):d.length<=8/\l.length<=200:=by
 unfold tV at h
 split at h
 ·omega
 ·split at h
  ·omega
  ·omega
theorem A0 {l:List z7} {p:z7} (h:nI l) (hp:t8 p=0):nI (l++[p]):=by
 intro q hq;rcases List.mem_append.1 hq with hq | hq
 ·exact h q hq
 ·rw [List.mem_singleton.1 hq];exact hp
theorem zCz {h:yB} {st st':RdS} {k pos:Int} {body:List Int} (hb:∀ x∈body,xY x) (hi:RdI st) (hs:bW h st k body pos=some st'):RdI st':=by
 unfold bW at hs
 split at hs
 ·split at hs
  ·split at hs
   ·split at hs
    ·rename_i hc
     injection hs with hs;subst hs;exact ⟨hi.v,hi.ev,(NN hc).2,hi.pre,hi.snaps,by simp⟩
    ·cases hs
   ·cases hs
  ·cases hs
 ·split at hs
  ·split at hs
   ·rename_i hg
    injection hs with hs;subst hs;obtain ⟨g1,g2,g3,g4,g5⟩:=hg;have hz:=S4 hb g1;refine ⟨A0 hi.v hz.1,by simp only [gQ];omega,hi.cs,?_,hi.snaps,by simp⟩;obtain ⟨m,hm⟩:=hi.pre;exact ⟨m++[(tB body).1],by simp only;rw [hm,List.append_assoc]⟩
   ·cases hs
  ·split at hs
   ·split at hs
    ·injection hs with hs;subst hs;exact ⟨hi.v,hi.ev,hi.cs,⟨[],by simp⟩,hi.cs,by simp⟩
    ·cases hs
   ·cases hs
theorem RM {h:yB} {n:Int} (hc:h.Snaps.length<=200):RdI (bS h n):=⟨fun p hp=>(by cases hp),by simp [bS,evN],hc,⟨[],rfl⟩,hc,by simp [bS]⟩
/-! The program's side. -/
def cN (E:Option (List (Int×wO))) (l:List z7):Prop:=(∀ k,(uY (E.getD []) k).getD ⟨0,0⟩=(⟨(kH l k).1,(kH l k).2⟩:wO))/\(E.getD []).length<=l.length
theorem TX:cN none []:=⟨fun k=>rfl,by simp⟩
theorem zHb {l:List xI} {p:z7} (hl:l.length<=100000):EG 281474976710656 l p=some (decide (p.Thread∈l.map (·.Id))):=by
 unfold EG NL;rw [aJ (l:=l) (fun n i=>K0 281474976710656 l p n i) (fun i x=>if x.Id=p.Thread then some ((i:Nat):Int) else none) hl]
 ·rw [zbs];cases hb:uR (fun (i:Nat) (x:xI)=>if x.Id=p.Thread then some ((i:Nat):Int) else none) 0 l with
  | inl u =>
   have hn:=W4 hb;rw [yP (show ¬ p.Thread∈l.map (·.Id) from fun hm=>?_)]
   ·rfl
   ·obtain ⟨x,hx,hxe⟩:=List.mem_map.1 hm;obtain ⟨i,hi⟩:=List.mem_iff_getElem?.1 hx
    have:=hn i x hi
    rw [if_pos hxe] at this;cases this
  | inr q =>
   have:∀ (m:List xI) (i:Nat),uR (fun (i:Nat) (x:xI)=>if x.Id=p.Thread then some ((i:Nat):Int) else none) i m=.inr q->0<=q/\p.Thread∈m.map (·.Id):=by
    intro m
    induction m with
    | nil=>intro i h;cases h
    | cons a r ih =>
     intro i h;simp only [uR] at h
     by_cases ha:a.Id=p.Thread
     ·rw [if_pos ha] at h;injection h with h;exact ⟨by omega,by simp [ha]⟩
     ·rw [if_neg ha] at h;obtain ⟨h1,h2⟩:=ih _ h;exact ⟨h1,by simp only [List.map_cons,List.mem_cons];exact .inr h2⟩
   obtain ⟨q1,q2⟩:=this l 0 hb;rw [yN q2];simp only [zbs];rw [yN (show q>=0 from q1)]
 ·intro n i hi;show o9 _ _ _ _ _=_;unfold o9;rw [yP (by omega),cond_false]
 ·intro n i x r hd hi;show o9 _ _ _ _ _=_;unfold o9;rw [yN (by omega),cond_true,vE hd,zbs,wX (by omega)];unfold MY;rw [zbs]
  by_cases he:x.Id=p.Thread
  ·rw [if_pos he,u9 he];rfl
  ·rw [if_neg he,uK he];rfl
theorem XA {h:yB} {cs:List yZ} {l:List z7} {E:Option (List (Int×wO))} {p:z7} (ht:h.Threads.length<=100000) (hv:nI l) (hN:evN l<=100000) (hE:cN E l) (hp:t8 p=0) :
  ∃ E',rX 281474976710656 ⟨⟨h.Threads,h.Domains,cs⟩,l,E,evN l⟩ p=some (if p.Thread∉kV h then (5,⟨⟨h.Threads,h.Domains,cs⟩,l,E,evN l⟩) else if aW l p=false then (11,⟨⟨h.Threads,h.Domains,cs⟩,l,E,evN l⟩)
   else (0,⟨⟨h.Threads,h.Domains,cs⟩,l++[p],E',evN (l++[p])⟩))/\cN E' (l++[p]):=by
 have hz:=c9 hp;have hr:=zAm hv p.Thread;have hc:=BJ hv;obtain ⟨x0,i0,v0⟩:=V2 hz.2.2.2.2.2.2.1;obtain ⟨x1,i1,v1⟩:=W0 hz.2.2.2.2.2.2.1 (by omega);refine ⟨some (w8 (E.getD []) p.Thread ⟨p.Serial+p.Events.length,GI p.Events⟩),?_,?_⟩
 ·unfold rX;rw [zHb ht,zbs]
  by_cases h1:p.Thread∈kV h
  ·rw [if_neg (by simpa using h1),yN (show p.Thread∈h.Threads.map (·.Id) from h1),Bool.not_true,cond_false];simp only;rw [hE.1];simp only;rw [w64 (by omega) (by omega),i0,zbs]
   by_cases h2:p.Serial=(kH l p.Thread).1+p.Lost/\(kH l p.Thread).2<=EI p.Events
   ·have hf:aW l p=true:=by unfold aW;rw [yN h2.1,yN h2.2];rfl
    rw [x7 h2.1,cond_false,v0,yP (by omega),zbs,cond_false,hf];rw [show (bif E.isNone then some [] else some (E.getD []))=some (E.getD []) by cases E<;>rfl,zbs,i1,zbs,xQ (by have:=hE.2;omega),zbs,xQ (by simp only [zls];omega),zbs,w64 (by omega) (by omega),w64 (by omega) (by omega),v1,gQ];simp
   ·have hf:aW l p=false:=by
     unfold aW;rw [Bool.and_eq_false_iff]
     by_cases h3:p.Serial=(kH l p.Thread).1+p.Lost
     ·exact .inr (yP fun h4=>h2 ⟨h3,h4⟩)
     ·exact .inl (yP h3)
    rw [hf]
    by_cases h3:p.Serial=(kH l p.Thread).1+p.Lost
    ·rw [x7 h3,cond_false,v0,yN (show EI p.Events<(kH l p.Thread).2 by
      rcases Int.lt_or_le (EI p.Events) (kH l p.Thread).2 with h4 | h4
      ·exact h4
      ·exact absurd ⟨h3,h4⟩ h2),zbs,cond_true];rfl
    ·rw [xX h3,cond_true,zbs,cond_true];rfl
  ·rw [if_pos h1,yP (show ¬ p.Thread∈h.Threads.map (·.Id) from h1),Bool.not_false,cond_true]
 ·refine ⟨fun k=>?_,?_⟩
  ·simp only [Option.getD_some];rw [XX,zAg];unfold i5
   by_cases hk:p.Thread=k
   ·rw [if_pos hk,if_pos hk];rfl
   ·rw [if_neg hk,if_neg hk];exact hE.1 k
  ·simp only [Option.getD_some,zla,zls]
   have:=VZ (E.getD []) p.Thread (⟨p.Serial+p.Events.length,GI p.Events⟩:wO)
   have:=hE.2
   omega
theorem ZZ {c:xF} (h1:c.packets.length<=100000) (h2:c.head.Snaps.length<=100000):CT c=some c:=by
 unfold CT MR BI;rw [xQ (by simp only [List.length_nil];omega),zbs,zbs,xQ (by simp only [List.length_nil];omega),zbs,zbs];rfl
theorem LE {b body r:List Int} {k:Int} (h:pR b=some (k,body,r)):gD b=(k,body,(b.length:Int) - r.length):=by unfold gD;rw [h]
theorem LZ {b:List Int} (h:pR b=none):gD b=(0,[],0):=by unfold gD;rw [h]
theorem oF {b body r:List Int} {k:Int} (hb:vN b) (h:pR b=some (k,body,r)):vN body/\vN r/\r.length+3<=b.length/\r=b.drop (b.length - r.length):=by
 have e:=zEH hb.1 h;have hl:=(HA k body).1;have h2:=hb.2;have hlen:b.length=(kO k body).length+r.length:=by conv=>lhs;rw [e,zla]
 refine ⟨⟨fun x hx=>hb.1 x (by rw [e];unfold kO;simp [hx]),by omega⟩,⟨fun x hx=>hb.1 x (by rw [e];simp [hx]),by omega⟩,by omega,?_⟩
 conv=>rhs;arg 2;rw [e]
 rw [show b.length - r.length=(kO k body).length by omega,List.drop_left]
theorem zIy {b:List Int} {h:yB} (hb:vN b) (ht:h.Threads.length<=100000) (hdl:h.Domains.length<=100000):∀ (n m:Nat) (st:RdS) (rest:List Int) (E1 E2:Option (List (Int×wO))),rest.length<=n->n<m->RdI st->rest=b.drop (b.length - rest.length)->rest.length<=b.length->st.pos=(b.length:Int) - rest.length ->
  cN E1 st.packs->cN E2 st.cp ->
  ∃ E,cN E (kN h n st rest).packs/\AL 281474976710656 b m (decide (st.stage≠0)) (decide (st.stage=2)) st.pos h.Threads h.Domains st.snaps E1 (evN st.packs) st.used st.packs h.Threads h.Domains E2 (evN st.cp) st.cs st.cp =
   some ⟨⟨⟨h.Threads,h.Domains,(kN h n st rest).snaps⟩,(kN h n st rest).packs,E,evN (kN h n st rest).packs⟩,(kN h n st rest).used⟩:=by
 intro n
 induction n with
 | zero =>
  intro m st rest E1 E2 hr hm hi hd hrl hpos he1 he2
  have:rest=[]:=List.length_eq_zero_iff.1 (by omega)
  subst this;cases m with
  | zero=>omega
  | succ m =>
   refine ⟨E1,he1,?_⟩;show lZ _ _ _ _ _ _ _ _ _ _ _ _ _ _ _ _ _ _ _=_;unfold lZ;simp only [List.length_nil] at hpos;rw [xQ (by omega),zbs,b8 (by omega),show st.pos.toNat=b.length by omega,List.drop_length,UN vN.nil,zbs];rfl
 | succ n ih =>
  intro m st rest E1 E2 hr hm hi hd hrl hpos he1 he2;cases m with
  | zero=>omega
  | succ m =>
   show ∃ E,_/\lZ _ _ _ _ _ _ _ _ _ _ _ _ _ _ _ _ _ _ _=_;unfold lZ;have hbl:=hb.2;have hrest:vN rest:=by rw [hd];exact hb.drop _
   have hpn:st.pos.toNat=b.length - rest.length:=by omega
   have hcp:=BJ hi.v;have hev:=hi.ev;have hcs:=hi.cs;rw [xQ (by omega),zbs,b8 (by omega),hpn,<- hd,UN hrest,zbs];unfold kN;cases hc:pR rest with
   | none =>
    rw [LZ hc];exact ⟨E1,he1,rfl⟩
   | some v =>
    obtain ⟨k,body,r⟩:=v;obtain ⟨q1,q2,q3,q4⟩:=oF hrest hc;have hbb:=q1.2;rw [LE hc];simp only;rw [uK (show (rest.length:Int) - r.length≠0 by omega),cond_false,w64 (by omega) (by omega)];have hr':r=b.drop (b.length - r.length):=by
     conv=>lhs;rw [q4,hd,List.drop_drop]
     congr 1
     rw [List.length_drop];omega
    unfold bW
    by_cases k1:k=83
    ·rw [u9 k1,cond_true,if_pos k1];obtain ⟨x,p,e1,e2⟩:=zC8 q1;rw [e1,zbs];simp only;rw [xQ (by simp only [zls];omega),zbs]
     by_cases hst:st.stage<=1
     ·rw [if_pos hst,yP (show ¬ st.stage=2 by omega)];cases hps:pU body with
      | none =>
       rw [hps] at e2;simp only at e2;subst e2;simp only [Bool.not_false,cond_true,zbs];exact ⟨E1,he1,rfl⟩
      | some v =>
       obtain ⟨y,rr⟩:=v;rw [hps] at e2;cases rr with
       | cons c cs =>
        simp only at e2;subst e2;simp only [Bool.not_false,cond_true,zbs];exact ⟨E1,he1,rfl⟩
       | nil =>
        simp only at e2;obtain ⟨rfl,rfl⟩:=e2;simp only [Bool.not_true,cond_false];rw [UP hdl (by simp only [zla,zls];omega),zbs,zbs]
        by_cases hcl:tV h.Domains (st.cs++[x])=0
        ·rw [x7 hcl,cond_false,if_pos hcl]
         have:=ih m { st with cs:=st.cs++[x],stage:=1,pos:=st.pos+((rest.length:Int) - r.length) } r E1 E2 (by omega) (by omega) ⟨hi.v,hi.ev,(NN hcl).2,hi.pre,hi.snaps,by simp⟩ hr' (by omega) (by simp only;omega) he1 he2
         exact this
        ·rw [xX hcl,cond_true,if_neg hcl];exact ⟨E1,he1,rfl⟩
     ·rw [if_neg hst];rw [yN (show st.stage=2 by have:=hi.stg;omega)];cases p with
      | false=>exact ⟨E1,he1,rfl⟩
      | true=>exact ⟨E1,he1,rfl⟩
    ·rw [uK k1,cond_false,if_neg k1]
     by_cases k2:k=80
     ·rw [u9 k2,cond_true,if_pos k2,zIG q1.1 q1.2,zbs]
      by_cases g1:(tB body).2.2=0
      ·rw [x7 g1,cond_false];have hz:=S4 q1.1 g1
       by_cases g2:(tB body).2.1=(body.length:Int)
       ·rw [x7 g2,cond_false];obtain ⟨E',f1,f2⟩:=XA (cs:=st.cs) ht hi.v (by omega) he2 hz.1;rw [f1,zbs]
        by_cases g3:(tB body).1.Thread∈kV h
        ·rw [if_neg (show ¬ (tB body).1.Thread∉kV h by simpa using g3)];cases g4:aW st.cp (tB body).1 with
         | false =>
          simp only [if_true];rw [xX (show (11:Int)≠0 by decide),cond_true,zbs];simp only [cond_true];rw [if_neg (fun hg=>by have:=hg.2.2.2.1;rw [g4] at this;cases this)];exact ⟨E1,he1,rfl⟩
         | true =>
          simp only [Bool.true_eq_false,if_false];rw [x7 rfl,cond_false,zbs];simp only
          by_cases g5:evN (st.cp++[(tB body).1])>20000
          ·rw [yN (by omega),cond_true,if_neg (fun hg=>by have:=hg.2.2.2.2;rw [gQ] at g5;omega)];exact ⟨E1,he1,rfl⟩
          ·rw [yP (by omega),cond_false,if_pos ⟨g1,g2,g3,g4,by rw [gQ] at g5;omega⟩];obtain ⟨mm,hmm⟩:=hi.pre
           have:=ih m { st with cp:=st.cp++[(tB body).1],stage:=2,pos:=st.pos+((rest.length:Int) - r.length) } r E1 E' (by omega) (by omega) ⟨A0 hi.v hz.1,by simp only;omega,hi.cs,⟨mm++[(tB body).1],by simp only;rw [hmm,List.append_assoc]⟩,hi.snaps,by simp⟩ hr' (by omega) (by simp only;omega) he1 f2
           exact this
        ·rw [if_pos (show (tB body).1.Thread∉kV h from g3)];simp only;rw [xX (show (5:Int)≠0 by decide),cond_true,zbs];simp only [cond_true];rw [if_neg (fun hg=>g3 hg.2.2.1)];exact ⟨E1,he1,rfl⟩
       ·rw [xX g2,cond_true,zbs];simp only [cond_true];rw [if_neg (fun hg=>g2 hg.2.1)];exact ⟨E1,he1,rfl⟩
      ·rw [xX g1,cond_true,zbs];simp only [cond_true];rw [if_neg (fun hg=>g1 hg.1)];exact ⟨E1,he1,rfl⟩
     ·rw [uK k2,cond_false,if_neg k2]
      by_cases k3:k=70
      ·rw [u9 k3,cond_true,if_pos k3]
       by_cases g1:body=[]/\st.stage≠0
       ·rw [if_pos g1,yN g1.2,g1.1,yP (show ¬ ((([]:List Int).length:Nat):Int)>0 by simp),Bool.not_true,Bool.or_self,cond_false,ZZ (by simp only;omega) (by simp only;omega),zbs]
        have:=ih m ⟨st.cs,st.cp,st.pos+((rest.length:Int) - r.length),st.cs,st.cp,st.pos+((rest.length:Int) - r.length),0⟩ r E2 E2 (by omega) (by omega) ⟨hi.v,hi.ev,hi.cs,⟨[],by simp⟩,hi.cs,by simp⟩ hr' (by omega) (by simp only;omega) he2 he2
        exact this
       ·rw [if_neg g1];rw [show (decide (((body.length:Nat):Int)>(0:Int))||!decide (st.stage≠0))=true by
         by_cases hbn:body=[]
         ·rw [yP (show ¬ st.stage≠0 from fun h=>g1 ⟨hbn,h⟩)];simp
         ·rw [yN (show ((body.length:Nat):Int)>0 by have:=List.length_pos_iff.2 hbn;omega)];rfl,cond_true]
        exact ⟨E1,he1,rfl⟩
      ·rw [uK k3,cond_false,if_neg k3];exact ⟨E1,he1,rfl⟩
end Go.Ab
