/- Plain laws of the functions w6 this seat's, laid anew from another seat's text. No conditions but those that the theorems name. -/
import Derived.Test.YtoeengmnmhhpgaaP15xD
import Derived.Test.YtoeengmnmhhpgaaR15
import Derived.Test.YtoeengmnmhhpgaaB15a
import Derived.Test.YtoeengmnmhhpgaaB15b
import Derived.Test.YtoeengmnmhhpgaaB15c
import Derived.Test.YtoeengmnmhhpgaaB15d
import Derived.Test.YtoeengmnmhhpgaaB15e
import Derived.Test.YtoeengmnmhhpgaaB15f
import Derived.Test.YtoeengmnmhhpgaaB15g
import Derived.Test.YtoeengmnmhhpgaaB15h
import Derived.Test.YtoeengmnmhhpgaaB15i
import Derived.Test.YtoeengmnmhhpgaaB15j
import Derived.Test.YtoeengmnmhhpgaaB15k
import Derived.Test.YtoeengmnmhhpgaaB15t
import Derived.Test.YtoeengmnmhhpgaaB15m
import Derived.Test.YtoeengmnmhhpgaaB15n
import Derived.Test.YtoeengmnmhhpgaaB15o
import Derived.Test.YtoeengmnmhhpgaaC15a
import Derived.Test.YtoeengmnmhhpgaaC15b
import Derived.Test.YtoeengmnmhhpgaaC15c
import Derived.Test.YtoeengmnmhhpgaaC15d
import Derived.Test.YtoeengmnmhhpgaaC15e
import Derived.Test.YtoeengmnmhhpgaaC15f
import Derived.Test.YtoeengmnmhhpgaaC15g
import Derived.Test.YtoeengmnmhhpgaaC15h
import Derived.Test.YtoeengmnmhhpgaaC15i
import Derived.Test.YtoeengmnmhhpgaaC15j
import Derived.Test.YtoeengmnmhhpgaaC15k
import Derived.Test.YtoeengmnmhhpgaaC15l
import Derived.Test.YtoeengmnmhhpgaaC15m
import Derived.Test.YtoeengmnmhhpgaaC15n
import Derived.Test.YtoeengmnmhhpgaaC15o
import Derived.Test.YtoeengmnmhhpgaaC15p
import Derived.Test.YtoeengmnmhhpgaaC15q
import Derived.Test.YtoeengmnmhhpgaaC15r
namespace Go.Ab
open Go
set_option linter.unusedVariables false
theorem QU:∀ (l:List Fl) (j:Nat),qO l j≤l.length∧(wR (l.take (qO l j))).length≤j
 | [],j=>⟨Nat.le_refl _,by simp [qO,wR]⟩
 | g::l,j=>by
  unfold qO
  by_cases h:(flC g.1 g.2).flatten.length≤j
  ·obtain ⟨h1,h2⟩:=QU l (j - (flC g.1 g.2).flatten.length)
   rw [if_pos h,List.take_succ_cons]
   refine ⟨by rw [zlc];omega,?_⟩
   show ((flC g.1 g.2).flatten++wR _).length≤j
   rw [zla];omega
  ·rw [if_neg h]
   exact ⟨by omega,by simp [wR]⟩
theorem RO:∀ (l:List Fl) (j m:Nat),m≤l.length→(wR (l.take m)).length≤j→m≤qO l j
 | [],j,m,h,_=>by rw [List.length_nil] at h;omega
 | g::l,j,0,_,_=>by omega
 | g::l,j,m+1,h,hm=>by
  rw [List.take_succ_cons] at hm
  have hm:((flC g.1 g.2).flatten++wR (l.take m)).length≤j:=hm
  rw [zla] at hm
  rw [zlc] at h
  unfold qO
  rw [if_pos (by omega)]
  have:=RO l (j - (flC g.1 g.2).flatten.length) m (by omega) (by omega)
  omega
theorem Ack.cut0 {h:zU} {l:List Fl} {d:z9} {j:Nat} (hl:jW h) (a:Ack h l d) (hj:j<(xL 72 (hdB h)).length):vZ (d.Data.take j)=(⟨[],[],[]⟩,[],0):=by
 have:=DH hl
 unfold vZ jR
 rw [a.data,List.take_append_of_le_length (by omega),KL (by omega) hj]
theorem Ack.cut {h:zU} {l:List Fl} {d:z9} {j:Nat} (hl:jW h) (h0:qP h=0) (a:Ack h l d) (hj:(xL 72 (hdB h)).length≤j) :
  vZ (d.Data.take j)=(⟨h.Threads,h.Domains,h.Snaps++uP (l.take (qO l (j - (xL 72 (hdB h)).length)))⟩,vR (l.take (qO l (j - (xL 72 (hdB h)).length))),(((xL 72 (hdB h)).length+(wR (l.take (qO l (j - (xL 72 (hdB h)).length)))).length:Nat):Int)):=by
 have hb:wM (wR l):=by have:=a.bs;rw [a.data] at this;exact bX this
 have hc:=T4 (h:=h) l h.Snaps [] ((xL 72 (hdB h)).length:Int) (j - (xL 72 (hdB h)).length) a.ok hb
 rw [a.data,List.take_append,List.take_of_length_le hj,R9 hl h0]
 rw [show a9 h ((xL 72 (hdB h)).length:Int)=⟨h.Snaps,[],((xL 72 (hdB h)).length:Int),h.Snaps,[],((xL 72 (hdB h)).length:Int),0⟩ from rfl]
 generalize run h ⟨h.Snaps,[],((xL 72 (hdB h)).length:Int),h.Snaps,[],((xL 72 (hdB h)).length:Int),0⟩ _=st at hc ⊢
 obtain ⟨s1,s2,s3,s4,s5,s6,s7⟩:=st
 simp only [bH,Prod.mk.injEq,List.nil_append] at hc
 obtain ⟨e1,e2,e3⟩:=hc
 simp only [e1,e2,e3,Prod.mk.injEq,true_and]
 omega
theorem zA4 {cut:Int} {o:Int×(List Int)×Int×Int×Bool×(List yP)×(List zQ)×(List Int)×(List Int)} {E:List Int} (hE:o.2.2.2.2.2.2.2.1=E) (hl:E.length≤100):∀ (n v k:Nat),(E.drop v).length<n→(∃ e,E[k]?=some e∧e≤cut)→(∀ j e,k<j→j<v→E[j]?=some e→cut<e) →
  ∃ k':Nat,BG 281474976710656 cut o n (k:Nat) (v:Nat)=some ((k':Nat):Int)∧(∃ e,E[k']?=some e∧e≤cut)∧∀ j e,k'<j→E[j]?=some e→cut<e:=by
 intro n
 induction n with
 | zero=>intro v k hn;omega
 | succ n ih =>
  intro v k hn h1 h2
  show ∃ k':Nat,D9 _ _ _ _ _ _=some ((k':Nat):Int)∧(∃ e,E[k']?=some e∧e≤cut)∧∀ j e,k'<j→E[j]?=some e→cut<e
  unfold D9
  rw [hE]
  cases hd:E.drop v with
  | nil =>
   have hv:E.length≤v:=List.drop_eq_nil_iff.1 hd
   refine ⟨k,?_,h1,fun j e hj he=>h2 j e hj ?_ he⟩
   ·rw [yO (by omega),cond_false]
   ·have:=(List.getElem?_eq_some_iff.1 he).1;omega
  | cons x r =>
   have hx:=cM hd
   have hxe:E[v]?=some x:=by have:=w9 hd;rwa [nF] at this
   rw [hd] at hn
   simp only [zlc] at hn
   rw [yR (by omega),cond_true,w9 hd,zbs,vC (by omega)]
   by_cases hc:x≤cut
   ·rw [yR hc,cond_true]
    exact ih (v+1) v (by rw [qF hd];omega) ⟨x,hxe,hc⟩ (fun j e g1 g2 _=>by omega)
   ·rw [yO hc,cond_false]
    refine ih (v+1) k (by rw [qF hd];omega) h1 (fun j e g1 g2 g3=>?_)
    by_cases hj:j<v
    ·exact h2 j e g1 hj g3
    ·have:j=v:=by omega
     subst this
     rw [hxe] at g3;injection g3 with g3;omega
theorem aW.last {z:Nat} {fl:List Fl} {M:List Nat} {E C:List Int} {cut:Int} {k:Nat} (q:aW z fl M E C) (hz:(z:Int)≤cut) (h1:∃ e,E[k]?=some e∧e≤cut) (h2:∀ j e,k<j→E[j]?=some e→cut<e) :
  M[k]?=some (qO fl (cut.toNat - z)):=by
 obtain ⟨e,he,hec⟩:=h1
 have hEi:∀ i:Nat,E[i]?=(M[i]?).map fun m=>((z+(wR (fl.take m)).length:Nat):Int):=fun i=>by rw [q.e,List.getElem?_map]
 rw [hEi] at he
 cases hk:M[k]? with
 | none=>rw [hk] at he;cases he
 | some m =>
  rw [hk] at he
  injection he with he
  have he:((z+(wR (fl.take m)).length:Nat):Int)=e:=he
  have hkm:m∈M:=List.mem_of_getElem? hk
  have hw:=QU fl (cut.toNat - z)
  have g1:=RO fl (cut.toNat - z) m (q.le m hkm) (by omega)
  obtain ⟨i,hi⟩:=List.mem_iff_getElem?.1 (q.all _ hw.1)
  have g2:¬ k<i:=fun hki=>by
   have:cut<((z+(wR (fl.take (qO fl (cut.toNat - z)))).length:Nat):Int):=h2 i _ hki (by rw [hEi,hi];rfl)
   omega
  rcases zlg i k with h | h
  ·obtain ⟨i1,i2⟩:=List.getElem?_eq_some_iff.1 hi
   obtain ⟨k1,k2⟩:=List.getElem?_eq_some_iff.1 hk
   have:=List.pairwise_iff_getElem.1 q.mono i k i1 k1 h
   rw [i2,k2] at this
   congr 1;omega
  ·have:i=k:=by omega
   subst this
   rw [hk] at hi;exact hi
def mG (h:zU):Prop:=h.Threads.length≤70∧h.Domains.length≤10∧h.Snaps.length≤20
instance decLightH {h:zU}:Decidable (mG h):=inferInstanceAs (Decidable (_∧_))
theorem zCt (h:zU):AA zD h=some (decide (mG h)):=by
 unfold AA
 congr 1
 rw [Bool.eq_iff_iff]
 simp only [zba,decide_eq_true_eq]
 unfold mG
 constructor
 ·intro ⟨_,_,a,b,c⟩;omega
 ·intro ⟨a,b,c⟩;exact ⟨by simp,by decide,by omega,by omega,by omega⟩
abbrev nD:z9:=⟨60000,[],0, -1,false⟩
theorem zBe:C5 (60000:Int)=some (nD,0):=rfl
theorem zCz {h:zU} (ho:fA h) (he:(gC nD h).2=0):jW h∧qP h=0∧Ack h [] (gC nD h).1:=by
 have hc:u5 nD=0:=by decide
 unfold gC at he ⊢
 rw [if_neg (show ¬ u5 nD≠0 by simpa using hc),if_neg (show ¬ ([]:List Int).length>0 by simp)] at he ⊢
 by_cases h0:qP h=0
 ·have hl:=SA ho h0
  have hn:=DH hl
  have hn2:=(oR 72 (hdB h)).2
  have e:([xL 72 (hdB h)]:List (List Int)).flatten=xL 72 (hdB h):=by simp
  rw [if_neg (show ¬ qP h≠0 by simpa using h0),OW hc rfl rfl (by rw [e];show ((0:Nat):Int)+_≤60000;omega),e]
  refine ⟨hl,h0,rfl,by simp [wR],rfl,rfl,rfl,trivial,by simp only [List.nil_append];omega,?_⟩
  simp only [List.nil_append]
  exact G2 ON (RA ho hl) (by omega)
 ·rw [if_pos h0] at he
  exact absurd he h0
theorem L15_FileBack_plain:∀ (h:zU) (l:List tH) (cut:Int),fA h→aE HE l→yU cut→∃ F,gQ F h l cut=some true:=by
 intro h l cut hh hll _
 refine ⟨281474976710656,?_⟩
 unfold gQ
 rw [zCt,Z9 hll.2,zbs,zbs]
 by_cases hL:mG h
 ·obtain ⟨l1,l2,l3⟩:=hL
  by_cases hF:lU l
  ·rw [yR (show mG h from ⟨l1,l2,l3⟩),yR hF]
   simp only [Bool.not_true,cond_false,zbs]
   rw [zBe,zbs,zDy hh (by omega) (by omega) (by omega),zbs]
   by_cases he:(gC nD h).2=0
   ·rw [x8 he,cond_false,xY (by simp only [List.length_nil];omega),zbs]
    obtain ⟨c1,c2,c3⟩:=zCz hh he
    have hlen:=c3.len
    rw [show wR []=[] from rfl,List.length_nil,Nat.add_zero] at hlen
    obtain ⟨d',fl,M,E,C,b1,b2,b3,b4,b5⟩:=zCD c1 c2 hF (fun g hg x hx=>R1 ((hll.1 g hg).1.1 x hx)) 281474976710656 0 (gC nD h).1 [] [0] _ _ (by rw [zdz];have:=hF.2;omega) (by omega) c3 (WW _) (by simp) (by simp [uP]) (by simp [vR])
    rw [hlen,List.nil_append]
    rw [show h.Snaps++uP []=h.Snaps by simp [uP],show vR []=[] from rfl,show (((0:Nat):Nat):Int)=(0:Int) from rfl] at b5
    rw [b5,zbs]
    have hr:=b1.read c1 c2
    obtain ⟨w1,w2,w3,w4,w5⟩:=J1 b1.bs
    have hev:=Q7 w4 (by omega)
    rw [hr] at w3 hev
    simp only at w3 hev
    simp only
    rw [SL b1.bs,zbs,hr]
    simp only
    rw [x8 rfl,cond_false,zDj (by simp only;omega) (by simp only;omega) (by simp only;omega),zbs,yR ⟨rfl,rfl,rfl⟩,Bool.not_true,cond_false,UM hev,zbs,yR rfl,zbs]
    simp only [Bool.not_true,cond_false]
    rw [RU]
    by_cases hcut:cut<0∨cut>(d'.Data.length:Int)
    ·rw [yR hcut,cond_true,mF];rfl
    ·have hbs:=b1.bs
     have hbl:=hbs.2
     have hB:wM (d'.Data.take cut.toNat):=NG hbs _
     rw [yO hcut,cond_false,xY (by omega),zbs,MQ (by omega),SL hB,zbs]
     obtain ⟨M',hM⟩:=b2.front
     have hE0:xG E (0:Int)=some ((xL 72 (hdB h)).length:Int):=by
      rw [b2.e,hM]
      show some (((xL 72 (hdB h)).length+0:Nat):Int)=_
      rw [Nat.add_zero]
     rw [hE0,zbs]
     by_cases hz:cut<((xL 72 (hdB h)).length:Int)
     ·rw [yR hz,cond_true,b1.cut0 c1 (by omega)]
      simp only
      rw [uW rfl,cond_true,uW (show ((([]:List zQ).length:Nat):Int)=0 from rfl),cond_true,mF]
      rfl
     ·have hEl:E.length=M.length:=by rw [b2.e,List.length_map]
      have hCl:C.length=M.length:=by rw [b2.c,List.length_map]
      rw [yO hz,cond_false]
      obtain ⟨k,k1,k2,k3⟩:=zA4 (cut:=cut) (o:=(d'.Size,d'.Data,d'.Durable,d'.Left,d'.Down,h.Snaps++uP fl,vR fl,E,C)) (E:=E) rfl (by omega) 281474976710656 0 0 (by rw [zdz];omega) ⟨_,by rw [← nF];exact hE0,by omega⟩ (fun j e _ g=>by omega)
      rw [show (((0:Nat):Nat):Int)=(0:Int) from rfl] at k1
      rw [k1,zbs]
      have hMk:=b2.last (by omega) k2 k3
      have hEk:xG E (k:Int)=some (((xL 72 (hdB h)).length+(wR (fl.take (qO fl (cut.toNat - (xL 72 (hdB h)).length)))).length:Nat):Int):=by
       rw [nF,b2.e,List.getElem?_map,hMk];rfl
      have hCk:xG C (k:Int)=some (((vR (fl.take (qO fl (cut.toNat - (xL 72 (hdB h)).length)))).length:Nat):Int):=by
       rw [nF,b2.c,List.getElem?_map,hMk];rfl
      obtain ⟨v1,v2,v3,v4,v5⟩:=J1 hB
      have hev2:=Q7 v4 (by omega)
      have hcs:=b1.cut (j:=cut.toNat) c1 c2 (by omega)
      rw [hcs] at hev2 ⊢
      simp only at hev2 ⊢
      have hpre:vR fl=vR (fl.take (qO fl (cut.toNat - (xL 72 (hdB h)).length)))++vR (fl.drop (qO fl (cut.toNat - (xL 72 (hdB h)).length))):=by
       unfold vR
       rw [← List.flatMap_append,List.take_append_drop]
      rw [hEk,zbs,uW rfl,cond_true,hCk,zbs,hpre,zla,xY (by omega),zbs,Int.toNat_natCast,xY (by omega),zbs,List.take_left,zdz,UM hev2,zbs,yR rfl,cond_true,mF]
      rfl
   ·rw [wA he,cond_true,mF];rfl
  ·rw [yR (show mG h from ⟨l1,l2,l3⟩),yO hF]
   simp only [Bool.not_true,Bool.not_false,cond_false,cond_true,zbs]
   rw [mF];rfl
 ·rw [yO hL]
  simp only [Bool.not_false,cond_true,zbs]
  rw [mF];rfl
end Go.Ab
