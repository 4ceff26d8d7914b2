/- Plain laws of the functions uS this seat's, laid anew from another seat's text. No conditions but those that the theorems name. -/
import Derived.Test.YtoeengmnmhhpgaaGreatP15zxD
import Derived.Test.YtoeengmnmhhpgaaGreatR15z
import Derived.Test.YtoeengmnmhhpgaaGreatB15za
import Derived.Test.YtoeengmnmhhpgaaGreatB15zb
import Derived.Test.YtoeengmnmhhpgaaGreatB15zc
import Derived.Test.YtoeengmnmhhpgaaGreatB15zd
import Derived.Test.YtoeengmnmhhpgaaGreatB15ze
import Derived.Test.YtoeengmnmhhpgaaGreatB15zf
import Derived.Test.YtoeengmnmhhpgaaGreatB15zg
import Derived.Test.YtoeengmnmhhpgaaGreatB15zh
import Derived.Test.YtoeengmnmhhpgaaGreatB15zi
import Derived.Test.YtoeengmnmhhpgaaGreatB15zj
import Derived.Test.YtoeengmnmhhpgaaGreatB15zk
import Derived.Test.YtoeengmnmhhpgaaGreatB15zt
import Derived.Test.YtoeengmnmhhpgaaGreatB15zm
import Derived.Test.YtoeengmnmhhpgaaGreatB15zn
import Derived.Test.YtoeengmnmhhpgaaGreatB15zo
import Derived.Test.YtoeengmnmhhpgaaGreatC15za
import Derived.Test.YtoeengmnmhhpgaaGreatC15zb
import Derived.Test.YtoeengmnmhhpgaaGreatC15zc
import Derived.Test.YtoeengmnmhhpgaaGreatC15zd
import Derived.Test.YtoeengmnmhhpgaaGreatC15ze
import Derived.Test.YtoeengmnmhhpgaaGreatC15zf
import Derived.Test.YtoeengmnmhhpgaaGreatC15zg
import Derived.Test.YtoeengmnmhhpgaaGreatC15zh
import Derived.Test.YtoeengmnmhhpgaaGreatC15zi
import Derived.Test.YtoeengmnmhhpgaaGreatC15zj
namespace Go.Ab
open Go
set_option linter.unusedVariables false
theorem zFx {h:yB} {st st':RdS} {k pos:Int} {body:List Int} (h1:tV h.Domains st.snaps=0) (h2:tV h.Domains st.cs=0) (hs:bW h st k body pos=some st'):tV h.Domains st'.snaps=0/\tV h.Domains st'.cs=0:=by
 unfold bW at hs
 split at hs
 ·split at hs
  ·split at hs
   ·split at hs
    ·rename_i hc
     injection hs with hs;subst hs;exact ⟨h1,hc⟩
    ·cases hs
   ·cases hs
  ·cases hs
 ·split at hs
  ·split at hs
   ·injection hs with hs;subst hs;exact ⟨h1,h2⟩
   ·cases hs
  ·split at hs
   ·split at hs
    ·injection hs with hs;subst hs;exact ⟨h2,h2⟩
    ·cases hs
   ·cases hs
theorem zBb {h:yB}:∀ (n:Nat) (st:RdS) (b:List Int),tV h.Domains st.snaps=0->tV h.Domains st.cs=0->tV h.Domains (kN h n st b).snaps=0
 | 0,st,b,h1,_=>h1
 | n+1,st,b,h1,h2=>by
  unfold kN;cases hc:pR b with
  | none=>exact h1
  | some v =>
   obtain ⟨k,body,r⟩:=v;simp only;cases hs:bW h st k body (st.pos+((b.length:Int) - r.length)) with
   | none=>exact h1
   | some st' =>
    obtain ⟨g1,g2⟩:=zFx h1 h2 hs;exact zBb n st' r g1 g2
theorem zDR {b:List Int} (hb:vN b) (hu:(vW b).2.2≠0):tV (vW b).1.Domains (vW b).1.Snaps=0:=by
 unfold vW at *;cases hh:jR b with
 | none=>rw [hh] at hu;exact absurd rfl hu
 | some v =>
  obtain ⟨h,r⟩:=v;obtain ⟨body,c1,c2,c3,_⟩:=MQ hb hh;simp only
  have:=(YQ c3).1
  exact zBb _ _ _ this this
def NZ (d:yD) (s:List yZ) (q:List z7):yD×Int :=
 if jA d≠0 then (zD,jA d) else if d.Down=true then (d,19) else if (vW d.Data).2.2=0\/(vW d.Data).2.2≠d.Data.length then (zD,18) else
 if s.length+q.length=0 then (d,0) else
 if tV (vW d.Data).1.Domains ((vW d.Data).1.Snaps++s)≠0 then (zD,tV (vW d.Data).1.Domains ((vW d.Data).1.Snaps++s)) else
 match apS (vW d.Data).1 (vW d.Data).2.1 q with
 | .inr e=>(zD,e)
 | .inl l'=>if evN l'>20000 then (zD,7) else if d.Data.length+aP (flC s q)>d.Size then (zD,6) else BK d (flC s q)
theorem zAJ {a b:Int}:((a==(0:Int))||(a != b))=decide (a=0\/a≠b):=by
 rw [Bool.eq_iff_iff];simp
theorem zA4 {h:yB}:∀ {q l l':List z7},apS h l q=.inl l'->l'=l++q/\(nI l->nI l')
 | [],l,l',e=>by
  unfold apS at e;injection e with e;subst e;exact ⟨by simp,fun h=>h⟩
 | p::r,l,l',e=>by
  unfold apS at e
  split at e
  ·cases e
  split at e
  ·cases e
  split at e
  ·cases e
  split at e
  ·cases e
  rename_i k1 k2 k3 k4
  obtain ⟨g1,g2⟩:=zA4 (q:=r) e;exact ⟨by rw [g1,List.append_assoc];rfl,fun hv=>g2 (A0 hv (by simpa using k1))⟩
theorem ZW:∀ {q:List z7},(∀ p∈q,p.Events.length<=60)->evN q<=60 * q.length
 | [],_=>by simp [evN]
 | a::r,h=>by
  have h1:=ZW (q:=r) fun p hp=>h p (by simp [hp])
  have h2:=h a (by simp);unfold evN at *;simp only [List.map_cons,List.sum_cons,zlc] at *;omega
theorem zCw {d:yD} {s:List yZ} {q:List z7} (hb:vN d.Data) (hs:s.length<=1000) (ho:∀ x∈s,aN x) (hq:fG q):mM 281474976710656 d s q=some (NZ d s q):=by
 obtain ⟨w1,w2,w3,w4,w5⟩:=zAK hb;have hq1:=hq.1;have hbl:=hb.2;unfold mM NZ;rw [KJ,zbs]
 by_cases hc:jA d=0
 ·have hc2:=BR hc;rw [x7 hc,cond_false,if_neg (by simpa using hc)];cases hd:d.Down with
  | true=>rw [cond_true,if_pos rfl]
  | false =>
   obtain ⟨E,hE,e⟩:=ZA hb;rw [cond_false,if_neg (by decide),e,zbs];simp only;rw [zAJ]
   by_cases h0:(vW d.Data).2.2=0\/(vW d.Data).2.2≠(d.Data.length:Int)
   ·rw [yN h0,cond_true,if_pos h0]
   ·rw [yP h0,cond_false,if_neg h0,w64 (by omega) (by omega)]
    by_cases hz:s.length+q.length=0
    ·rw [u9 (by omega),cond_true,if_pos hz]
    ·rw [uK (by omega),cond_false,if_neg hz];unfold BI;rw [xQ (by simp only [List.length_nil];omega),zbs,zbs,List.nil_append,xQ (by omega),zbs,UP (by omega) (by rw [zla];omega),zbs]
     by_cases hk:tV (vW d.Data).1.Domains ((vW d.Data).1.Snaps++s)=0
     ·rw [x7 hk,cond_false,if_neg (by simpa using hk)];obtain ⟨r,f1,f2⟩:=zIc (h:=(vW d.Data).1) (sn:=(vW d.Data).1.Snaps++s) (by omega) hq 281474976710656 0 (vW d.Data).2.1 E (by rw [zdz];omega) w4 (by rw [zdz];omega) hE;rw [show (((0:Nat):Nat):Int)=(0:Int) from rfl] at f1;rw [f1,zbs];rw [zdz] at f2;cases ha:apS (vW d.Data).1 (vW d.Data).2.1 q with
      | inr e=>rw [ha] at f2;simp only at f2;subst f2;rfl
      | inl l' =>
       rw [ha] at f2;obtain ⟨E',rfl⟩:=f2;simp only;obtain ⟨g1,g2,g3⟩:=S3 hs hq;have ht:=Y1 g3
       by_cases hev:evN l'>20000
       ·rw [yN (by omega),cond_true,if_pos hev]
       ·rw [yP (by omega),cond_false,if_neg hev,zHQ hs ho hq,zbs];simp only;rw [w64 (by omega) (by omega)]
        by_cases hsz:d.Data.length+aP (flC s q)>d.Size
        ·rw [yN (by omega),cond_true,if_pos hsz]
        ·rw [yP (by omega),cond_false,if_neg hsz,VB g1,zbs]
     ·rw [xX hk,cond_true,if_pos hk]
 ·rw [xX hc,cond_true,if_pos hc]
theorem zDF {d:yD} {s:List yZ} {q:List z7} (hb:vN d.Data) (hs:s.length<=1000) (ho:∀ x∈s,aN x) (hq:fG q):JI 281474976710656 d s q=some (NZ d s q):=by
 obtain ⟨w1,w2,w3,w4,w5⟩:=zAK hb;have hq1:=hq.1;have hbl:=hb.2;unfold JI NZ;rw [N7,zbs]
 by_cases hc:jA d=0
 ·have hc2:=BR hc;rw [x7 hc,cond_false,if_neg (by simpa using hc)];cases hd:d.Down with
  | true=>rw [cond_true,if_pos rfl]
  | false =>
   rw [cond_false,if_neg (by decide),WY hb,zbs,zAJ]
   by_cases h0:(vW d.Data).2.2=0\/(vW d.Data).2.2≠(d.Data.length:Int)
   ·rw [yN h0,cond_true,if_pos h0]
   ·have hcl:=zDR hb (by omega);rw [yP h0,cond_false,if_neg h0,xQ (by simp only [List.length_nil];omega),zbs,List.nil_append,xQ (by omega),zbs,ML (by omega) (by rw [zla];omega),zbs];obtain ⟨g1,g2,g3⟩:=S3 hs hq;have e1:=zBY hs ho 281474976710656 0 [] (by rw [zdz];omega) (by rw [zdz,List.length_nil];omega);rw [show (((0:Nat):Nat):Int)=(0:Int) from rfl,zdz,List.nil_append] at e1;have e2:=zGb (r2:=vW d.Data) (by omega) hq 281474976710656 0 (vW d.Data).2.1 (s.map snC) (by rw [zdz];omega) w4 (by rw [zdz];omega) (by rw [zdz,List.length_map];omega);rw [show (((0:Nat):Nat):Int)=(0:Int) from rfl,zdz] at e2;have hfew:=ZW hq.2
    by_cases hk:tV (vW d.Data).1.Domains ((vW d.Data).1.Snaps++s)=0
    ·rw [x7 hk,cond_false,if_neg (show ¬ tV (vW d.Data).1.Domains ((vW d.Data).1.Snaps++s)≠0 by simpa using hk),e1,zbs,e2,zbs];cases ha:apS (vW d.Data).1 (vW d.Data).2.1 q with
     | inr e =>
      by_cases hz:s.length+q.length=0
      ·have hq0:q=[]:=List.length_eq_zero_iff.1 (by omega);subst hq0;cases ha
      ·rw [if_neg hz]
     | inl l' =>
      simp only;obtain ⟨a1,a2⟩:=zA4 ha;have a3:=BJ (a2 w4);have a4:evN l'<=20000+60 * q.length:=by rw [a1,UO];omega
      rw [VL (by omega) (by omega),zbs]
      by_cases hz:s.length+q.length=0
      ·have hq0:q=[]:=List.length_eq_zero_iff.1 (by omega);have hs0:s=[]:=List.length_eq_zero_iff.1 (by omega);subst hq0;subst hs0;rw [if_pos (by rfl),yP (by rw [List.append_nil] at a1;subst a1;omega),cond_false,u9 (by simp),cond_true]
      ·rw [if_neg hz]
       by_cases hev:evN l'>20000
       ·rw [yN (by omega),cond_true,if_pos hev]
       ·rw [yP (by omega),cond_false,if_neg hev,uK (by simp only [zla,List.length_map];omega),cond_false,NP zAQ (fun x hx=>by cases hx) (by simp),zbs,xQ (by simp only [zla,List.length_map,zls];omega),zbs];have e3:=zEy (q:=(l',s.map snC++q.map pkC)) (e:=kO 70 []) (by have:=g2;unfold flC at this;simp only;omega) g3 281474976710656 0 d.Data.length (by rw [zdz];have:=g2;unfold flC at this;simp only;omega) (by rw [zdz];have:=g2;unfold flC at this;simp only;omega);rw [show (((0:Nat):Nat):Int)=(0:Int) from rfl,zdz] at e3;rw [e3,zbs];show (bif decide (((d.Data.length+aP (flC s q):Nat):Int)>d.Size) then _ else _)=_
        by_cases hsz:d.Data.length+aP (flC s q)>d.Size
        ·rw [yN (by omega),cond_true,if_pos hsz]
        ·rw [yP (by omega),cond_false,if_neg hsz];show ((oT 281474976710656 d (flC s q)).bind _)=_;rw [ZD g1,zbs]
    ·have hz:¬ s.length+q.length=0:=fun hz=>by
      have hs0:s=[]:=List.length_eq_zero_iff.1 (by omega);rw [hs0,List.append_nil] at hk;exact hk hcl
     rw [xX hk,cond_true,if_neg hz,if_pos hk]
 ·rw [xX hc,cond_true,if_pos hc]
/-! The law. -/
theorem zB6 {x:jP} (hx:x.Packets.length<=8):∀ (n i:Nat),(x.Packets.drop i).length<n->EW 281474976710656 x n (i:Nat)=some (if ∀ p∈x.Packets.drop i,p.Events.length<=60 then .inl () else .inr false):=by
 intro n
 induction n with
 | zero=>intro i h;omega
 | succ n ih =>
  intro i hn;show H3 _ _ _ _=_;unfold H3;cases hd:x.Packets.drop i with
  | nil =>
   have:x.Packets.length<=i:=List.drop_eq_nil_iff.1 hd
   rw [yP (by omega),cond_false];simp
  | cons p r =>
   have h1:=dF hd;rw [hd] at hn;simp only [zlc] at hn;rw [yN (by omega),cond_true,vE hd,zbs]
   by_cases hp:p.Events.length>60
   ·rw [yN (by omega),cond_true,if_neg (fun h=>by have:=h p (by simp);omega)]
   ·rw [yP (by omega),cond_false,wX (by omega),ih (i+1) (by rw [qR hd];omega),qR hd]
    by_cases hr:∀ p∈r,p.Events.length<=60
    ·rw [if_pos hr,if_pos (fun y hy=>by
      rcases List.mem_cons.1 hy with rfl | hy
      ·omega
      ·exact hr y hy)]
    ·rw [if_neg hr,if_neg (fun h=>hr fun y hy=>h y (by simp [hy]))]
theorem zH9 (g:jP):H4 281474976710656 [g]=some (decide (g.Snaps.length<=10/\g.Packets.length<=8/\∀ p∈g.Packets,p.Events.length<=60)):=by
 unfold H4;show ((oK _ _ _ _).bind _)=_;unfold oK;rw [yN (by simp),cond_true,show yX [g] (0:Int)=some g from rfl,zbs,SB]
 by_cases h1:((g.Snaps.length:Nat):Int)>10\/((g.Packets.length:Nat):Int)>8
 ·rw [yN h1,cond_true,zbs];show some false=_;rw [yP (show ¬ (g.Snaps.length<=10/\g.Packets.length<=8/\∀ p∈g.Packets,p.Events.length<=60) from fun h=>by omega)]
 ·have e:=zB6 (x:=g) (by omega) 281474976710656 0 (by rw [zdz];omega);rw [show (((0:Nat):Nat):Int)=(0:Int) from rfl,zdz] at e;rw [yP h1,cond_false,e,zbs]
  by_cases h2:∀ p∈g.Packets,p.Events.length<=60
  ·rw [if_pos h2];have e2:BL 281474976710656 [g] 281474976710655 (zI ((0:Int)+1))=some (.inl ()):=by
    show oK _ _ _ _=_;unfold oK;rw [show zI ((0:Int)+1)=1 from by decide,yP (by simp),cond_false]
   show ((BL 281474976710656 [g] 281474976710655 (zI ((0:Int)+1))).bind _)=_;rw [e2,zbs];show some true=_;rw [yN (show g.Snaps.length<=10/\g.Packets.length<=8/\∀ p∈g.Packets,p.Events.length<=60 from ⟨by omega,by omega,h2⟩)]
  ·rw [if_neg h2];show some false=_;rw [yP (show ¬ (g.Snaps.length<=10/\g.Packets.length<=8/\∀ p∈g.Packets,p.Events.length<=60) from fun h=>h2 h.2.2)]
theorem R8 (d:yD):oZ d d=some true:=by
 unfold oZ;simp
theorem L15_FileWrites_plain:∀ (d:yD) (h:yB) (g:jP),OB d->iO h->N9 g->∃ F,mL F d h g=some true:=by
 intro d h g hd hh hg;refine ⟨281474976710656,?_⟩;unfold mL NJ;rw [zbs,zH9]
 by_cases hL:d.Data.length<=4000/\d.Size<=20000/\h.Threads.length<=70/\h.Domains.length<=10/\h.Snaps.length<=20
 ·obtain ⟨l0,l4,l1,l2,l3⟩:=hL;rw [yN (show ((d.Data.length:Nat):Int)<=4000 by omega),yN (show d.Size<=20000 by omega),yN (show ((h.Threads.length:Nat):Int)<=70 by omega),yN (show ((h.Domains.length:Nat):Int)<=10 by omega),yN (show ((h.Snaps.length:Nat):Int)<=20 by omega)];simp only [Bool.and_self,Bool.not_true,cond_false,zbs]
  by_cases hf:g.Snaps.length<=10/\g.Packets.length<=8/\∀ p∈g.Packets,p.Events.length<=60
  ·have hB:vN d.Data:=⟨hd.2.1.1,by omega⟩;have hs:∀ x∈g.Snaps,aN x:=fun x hx=>ZH (hg.1.1 x hx)
   have hq:fG g.Packets:=⟨by omega,hf.2.2⟩;rw [yN hf,Bool.not_true,cond_false,zCp hh (by omega) (by omega) (by omega),zbs,zIq hh (by omega) (by omega) (by omega),zbs,x7 rfl,cond_false,R8,zbs,Bool.not_true,zbs,cond_false,
    zCw hB (by omega) hs hq,zbs,zDF hB (by omega) hs hq,zbs,x7 rfl,cond_false,R8,zbs,Bool.not_true,zbs,cond_false,
    zCX hB,zbs,zBh hB,zbs,u9 rfl,cond_true,R8,zbs,cond_true,RT]
   rfl
  ·rw [yP hf,Bool.not_false,cond_true,RT];rfl
 ·rw [show (decide (((d.Data.length:Nat):Int)<=4000)&&(decide (d.Size<=20000)&&(decide (((h.Threads.length:Nat):Int)<=70)&&(decide (((h.Domains.length:Nat):Int)<=10)&&decide (((h.Snaps.length:Nat):Int)<=20)))))=false by
   rw [Bool.eq_false_iff];intro hc;simp only [zba,decide_eq_true_eq] at hc;exact hL ⟨by omega,by omega,by omega,by omega,by omega⟩]
  simp only [Bool.not_false,cond_true,zbs];rw [RT];rfl
end Go.Ab
