/- Plain laws of the functions w6 this seat's, laid anew from another seat's text. No conditions but those that the theorems name. -/
import Derived.Test.YtoeengmnmhhpgaaP15xD
import Derived.Test.YtoeengmnmhhpgaaR15
import Derived.Test.YtoeengmnmhhpgaaB15a
import Derived.Test.YtoeengmnmhhpgaaB15b
import Derived.Test.YtoeengmnmhhpgaaB15c
import Derived.Test.YtoeengmnmhhpgaaB15d
import Derived.Test.YtoeengmnmhhpgaaB15e
import Derived.Test.YtoeengmnmhhpgaaB15f
import Derived.Test.YtoeengmnmhhpgaaB15g
import Derived.Test.YtoeengmnmhhpgaaB15h
import Derived.Test.YtoeengmnmhhpgaaB15i
import Derived.Test.YtoeengmnmhhpgaaB15j
import Derived.Test.YtoeengmnmhhpgaaB15k
import Derived.Test.YtoeengmnmhhpgaaB15t
import Derived.Test.YtoeengmnmhhpgaaB15m
import Derived.Test.YtoeengmnmhhpgaaB15n
import Derived.Test.YtoeengmnmhhpgaaB15o
import Derived.Test.YtoeengmnmhhpgaaC15a
import Derived.Test.YtoeengmnmhhpgaaC15b
import Derived.Test.YtoeengmnmhhpgaaC15c
import Derived.Test.YtoeengmnmhhpgaaC15d
import Derived.Test.YtoeengmnmhhpgaaC15e
import Derived.Test.YtoeengmnmhhpgaaC15f
import Derived.Test.YtoeengmnmhhpgaaC15g
import Derived.Test.YtoeengmnmhhpgaaC15h
import Derived.Test.YtoeengmnmhhpgaaC15i
import Derived.Test.YtoeengmnmhhpgaaC15j
import Derived.Test.YtoeengmnmhhpgaaC15k
import Derived.Test.YtoeengmnmhhpgaaC15l
import Derived.Test.YtoeengmnmhhpgaaC15m
import Derived.Test.YtoeengmnmhhpgaaC15n
import Derived.Test.YtoeengmnmhhpgaaC15o
import Derived.Test.YtoeengmnmhhpgaaC15p
import Derived.Test.YtoeengmnmhhpgaaC15q
namespace Go.Ab
open Go
set_option linter.unusedVariables false
def okG (g:tH):Prop:=g.Snaps.length≤10∧g.Packets.length≤8∧∀ p∈g.Packets,p.Events.length≤60
instance decOkG {g:tH}:Decidable (okG g):=inferInstanceAs (Decidable (_∧_))
def lU (l:List tH):Prop:=(∀ g∈l,okG g)∧l.length≤6
instance decFewG {l:List tH}:Decidable (lU l):=inferInstanceAs (Decidable (_∧_))
theorem Y4 {l:List tH} (hl:l.length≤140737488355328):∀ (n i:Nat),(l.drop i).length<n→CR 281474976710656 l n (i:Nat)=some (if ∀ g∈l.drop i,okG g then .inl () else .inr false):=by
 intro n
 induction n with
 | zero=>intro i h;omega
 | succ n ih =>
  intro i hn
  show AI _ _ _ _=_
  unfold AI
  cases hd:l.drop i with
  | nil =>
   have:l.length≤i:=List.drop_eq_nil_iff.1 hd
   rw [yO (by omega),cond_false];simp
  | cons g r =>
   have h1:=cM hd
   rw [hd] at hn
   simp only [zlc] at hn
   rw [yR (by omega),cond_true,w9 hd,zbs,RU]
   by_cases hp:((g.Snaps.length:Nat):Int)>10∨((g.Packets.length:Nat):Int)>8
   ·rw [yR hp,cond_true,if_neg (fun h=>by have:=h g (by simp);unfold okG at this;omega)]
   ·have e:=zBb (x:=g) (by omega) 281474976710656 0 (by rw [zdz];omega)
    rw [show (((0:Nat):Nat):Int)=(0:Int) from rfl,zdz] at e
    rw [yO hp,cond_false,e,zbs]
    by_cases h2:∀ p∈g.Packets,p.Events.length≤60
    ·rw [if_pos h2]
     simp only
     rw [vC (by omega),ih (i+1) (by rw [qF hd];omega),qF hd]
     have hg:okG g:=⟨by omega,by omega,h2⟩
     by_cases hr:∀ g∈r,okG g
     ·rw [if_pos hr,if_pos (fun y hy=>by
       rcases List.mem_cons.1 hy with rfl | hy
       ·exact hg
       ·exact hr y hy)]
     ·rw [if_neg hr,if_neg (fun h=>hr fun y hy=>h y (by simp [hy]))]
    ·rw [if_neg h2,if_neg (fun h=>h2 (h g (by simp)).2.2)]
theorem Z9 {l:List tH} (hl:l.length≤140737488355328):CT 281474976710656 l=some (decide (lU l)):=by
 have e:=Y4 hl 281474976710656 0 (by rw [zdz];omega)
 rw [show (((0:Nat):Nat):Int)=(0:Int) from rfl,zdz] at e
 unfold CT
 rw [e,zbs]
 by_cases h:∀ g∈l,okG g
 ·rw [if_pos h]
  simp only
  by_cases h6:l.length≤6
  ·rw [yR (show lU l from ⟨h,h6⟩),yR (by omega)]
  ·rw [yO (show ¬ lU l from fun q=>h6 q.2),yO (by omega)]
 ·rw [if_neg h,yO (show ¬ lU l from fun q=>h q.1)]
structure aW (z:Nat) (fl:List Fl) (M:List Nat) (E C:List Int):Prop where
 e:E=M.map fun m=>((z+(wR (fl.take m)).length:Nat):Int)
 c:C=M.map fun m=>(((vR (fl.take m)).length:Nat):Int)
 le:∀ m∈M,m≤fl.length
 all:∀ m,m≤fl.length→m∈M
 mono:M.Pairwise (·≤·)
 front:∃ r,M=0::r
theorem aW.same {z:Nat} {fl:List Fl} {M:List Nat} {E C:List Int} (k:aW z fl M E C):aW z fl (M++[fl.length]) (E++[((z+(wR fl).length:Nat):Int)]) (C++[(((vR fl).length:Nat):Int)]) where
 e:=by rw [k.e];simp
 c:=by rw [k.c];simp
 le m hm:=by
  rcases List.mem_append.1 hm with h | h
  ·exact k.le m h
  ·rw [List.mem_singleton.1 h];exact Nat.le_refl _
 all m hm:=List.mem_append.2 (.inl (k.all m hm))
 mono:=by
  rw [List.pairwise_append]
  exact ⟨k.mono,by simp,fun a ha b hb=>by rw [List.mem_singleton.1 hb];exact k.le a ha⟩
 front:=by obtain ⟨r,h⟩:=k.front;exact ⟨r++[fl.length],by rw [h];rfl⟩
theorem aW.more {z:Nat} {fl:List Fl} {M:List Nat} {E C:List Int} {g:Fl} (k:aW z fl M E C):aW z (fl++[g]) (M++[fl.length+1]) (E++[((z+(wR (fl++[g])).length:Nat):Int)]) (C++[(((vR (fl++[g])).length:Nat):Int)]) where
 e:=by
  have:∀ m∈M,((z+(wR (fl.take m)).length:Nat):Int)=((z+(wR ((fl++[g]).take m)).length:Nat):Int):=fun m hm=>by rw [List.take_append_of_le_length (k.le m hm)]
  rw [k.e,List.map_append,List.map_congr_left this,List.map_singleton,List.take_of_length_le (by simp)]
 c:=by
  have:∀ m∈M,(((vR (fl.take m)).length:Nat):Int)=(((vR ((fl++[g]).take m)).length:Nat):Int):=fun m hm=>by rw [List.take_append_of_le_length (k.le m hm)]
  rw [k.c,List.map_append,List.map_congr_left this,List.map_singleton,List.take_of_length_le (by simp)]
 le m hm:=by
  rw [zla,zls]
  rcases List.mem_append.1 hm with h | h
  ·have:=k.le m h;omega
  ·rw [List.mem_singleton.1 h];exact Nat.le_refl _
 all m hm:=by
  rw [zla,zls] at hm
  rw [List.mem_append]
  by_cases h:m≤fl.length
  ·exact .inl (k.all m h)
  ·exact .inr (by rw [List.mem_singleton];omega)
 mono:=by
  rw [List.pairwise_append]
  exact ⟨k.mono,by simp,fun a ha b hb=>by rw [List.mem_singleton.1 hb];have:=k.le a ha;omega⟩
 front:=by obtain ⟨r,h⟩:=k.front;exact ⟨r++[fl.length+1],by rw [h];rfl⟩
theorem WW (z:Nat):aW z [] [0] [(z:Int)] [(0:Int)] where
 e:=by simp [wR]
 c:=by simp [vR]
 le m hm:=by rw [List.mem_singleton.1 hm];exact Nat.le_refl _
 all m hm:=by rw [List.length_nil] at hm;rw [List.mem_singleton];omega
 mono:=by simp
 front:=⟨[],rfl⟩
theorem RK (fl:List Fl) (g:Fl):uP (fl++[g])=uP fl++g.1:=by simp [uP]
theorem TP (fl:List Fl) (g:Fl):vR (fl++[g])=vR fl++g.2:=by simp [vR]
theorem Ack.len {h:zU} {l:List Fl} {d:z9} (a:Ack h l d):d.Data.length=(xL 72 (hdB h)).length+(wR l).length:=by rw [a.data,zla]
theorem Ack.bs {h:zU} {l:List Fl} {d:z9} (a:Ack h l d):wM d.Data:=⟨a.bytes,by have:=a.fits;omega⟩
theorem zCD {h:zU} {l:List tH} (hl:jW h) (h0:qP h=0) (hf:lU l) (ho:∀ g∈l,∀ x∈g.Snaps,kF x):∀ (n i:Nat) (d:z9) (fl:List Fl) (M:List Nat) (E C:List Int),
  (l.drop i).length<n→i≤l.length→Ack h fl d→aW (xL 72 (hdB h)).length fl M E C→M.length≤i+1→(uP fl).length≤10 * i→(vR fl).length≤8 * i →
  ∃ d' fl' M' E' C',Ack h fl' d'∧aW (xL 72 (hdB h)).length fl' M' E' C'∧M'.length≤100∧(vR fl').length≤1000 ∧
   EA 281474976710656 l n (i:Nat) d.Size d.Data d.Durable d.Left d.Down (h.Snaps++uP fl) (vR fl) E C=some (d'.Size,d'.Data,d'.Durable,d'.Left,d'.Down,h.Snaps++uP fl',vR fl',E',C'):=by
 intro n
 induction n with
 | zero=>intro i d fl M E C hn;omega
 | succ n ih =>
  intro i d fl M E C hn hi a k q1 q2 q3
  show ∃ d' fl' M' E' C',_∧_∧_∧_∧DC _ _ _ _ _ _ _ _ _ _ _ _ _=_
  unfold DC
  have h6:=hf.2
  cases hd:l.drop i with
  | nil =>
   have:l.length≤i:=List.drop_eq_nil_iff.1 hd
   refine ⟨d,fl,M,E,C,a,k,by omega,by omega,?_⟩
   rw [yO (by omega),cond_false]
  | cons g r =>
   have h1:=cM hd
   have hm:=BB hd
   obtain ⟨g1,g2,g3⟩:=hf.1 g hm
   have hs:=hl.ns
   have hE:E.length=M.length:=by rw [k.e,List.length_map]
   have hC:C.length=M.length:=by rw [k.c,List.length_map]
   rw [hd] at hn
   simp only [zlc] at hn
   rw [yR (by omega),cond_true,w9 hd,zbs,V7 a.bs (by omega) (ho g hm) ⟨by omega,g3⟩,zbs]
   by_cases he:(fC d g.Snaps g.Packets).2=0
   ·rw [x8 he,cond_false]
    rcases Y8 hl h0 a (ho g hm) g3 he with ⟨z1,z2⟩ | ⟨z1,z2⟩
    ·have zs:g.Snaps=[]:=List.length_eq_zero_iff.1 (by omega)
     have zp:g.Packets=[]:=List.length_eq_zero_iff.1 (by omega)
     rw [z2,zs,zp]
     simp only [List.append_nil]
     rw [xY (by simp only [zla,List.length_nil];omega),zbs,xY (by simp only [List.length_nil];omega),zbs,xY (by simp only [zls];omega),zbs,xY (by simp only [zls];omega),zbs,vC (by omega),a.len]
     exact ih (i+1) d fl _ _ _ (by rw [qF hd];omega) h1 a k.same (by rw [zla,zls];omega) (by omega) (by omega)
    ·rw [xY (by simp only [zla];omega),zbs,xY (by omega),zbs,xY (by simp only [zls];omega),zbs,xY (by simp only [zls];omega),zbs,vC (by omega),z2.len,List.append_assoc,← RK fl (g.Snaps,g.Packets),← TP fl (g.Snaps,g.Packets)]
     exact ih (i+1) (fC d g.Snaps g.Packets).1 (fl++[(g.Snaps,g.Packets)]) _ _ _ (by rw [qF hd];omega) h1 z2 k.more (by rw [zla,zls];omega) (by rw [RK,zla];simp only;omega) (by rw [TP,zla];simp only;omega)
   ·rw [wA he,cond_true,vC (by omega)]
    exact ih (i+1) d fl M E C (by rw [qF hd];omega) h1 a k (by omega) (by omega) (by omega)
end Go.Ab
