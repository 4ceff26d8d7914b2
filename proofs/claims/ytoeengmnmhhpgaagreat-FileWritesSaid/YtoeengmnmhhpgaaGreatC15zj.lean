/- Plain laws of the functions uS this seat's, laid anew from another seat's text. No conditions but those that the theorems name. -/
import Derived.Test.YtoeengmnmhhpgaaGreatP15zxD
import Derived.Test.YtoeengmnmhhpgaaGreatR15z
import Derived.Test.YtoeengmnmhhpgaaGreatB15za
import Derived.Test.YtoeengmnmhhpgaaGreatB15zb
import Derived.Test.YtoeengmnmhhpgaaGreatB15zc
import Derived.Test.YtoeengmnmhhpgaaGreatB15zd
import Derived.Test.YtoeengmnmhhpgaaGreatB15ze
import Derived.Test.YtoeengmnmhhpgaaGreatB15zf
import Derived.Test.YtoeengmnmhhpgaaGreatB15zg
import Derived.Test.YtoeengmnmhhpgaaGreatB15zh
import Derived.Test.YtoeengmnmhhpgaaGreatB15zi
import Derived.Test.YtoeengmnmhhpgaaGreatB15zj
import Derived.Test.YtoeengmnmhhpgaaGreatB15zk
import Derived.Test.YtoeengmnmhhpgaaGreatB15zt
import Derived.Test.YtoeengmnmhhpgaaGreatB15zm
import Derived.Test.YtoeengmnmhhpgaaGreatB15zn
import Derived.Test.YtoeengmnmhhpgaaGreatB15zo
import Derived.Test.YtoeengmnmhhpgaaGreatC15za
import Derived.Test.YtoeengmnmhhpgaaGreatC15zb
import Derived.Test.YtoeengmnmhhpgaaGreatC15zc
import Derived.Test.YtoeengmnmhhpgaaGreatC15zd
import Derived.Test.YtoeengmnmhhpgaaGreatC15ze
import Derived.Test.YtoeengmnmhhpgaaGreatC15zf
import Derived.Test.YtoeengmnmhhpgaaGreatC15zg
import Derived.Test.YtoeengmnmhhpgaaGreatC15zh
import Derived.Test.YtoeengmnmhhpgaaGreatC15zi
namespace Go.Ab
open Go
set_option linter.unusedVariables false
def apS (h:yB):List z7->List z7->List z7⊕Int
 | l,[]=>.inl l
 | l,p::r=>if t8 p≠0 then .inr (t8 p) else if p.Thread∉kV h then .inr 5 else if aW l p=false then .inr 11 else if (tX p).2≠0 then .inr (tX p).2 else apS h (l++[p]) r
def snC (s:yZ):List Int:=kO 83 (kP s)
def pkC (p:z7):List Int:=kO 80 (tX p).1
def flC (s:List yZ) (l:List z7):List (List Int):=s.map snC++l.map pkC++[kO 70 []]
def aP (l:List (List Int)):Nat:=(l.map List.length).sum
def fG (q:List z7):Prop:=q.length<=1000/\∀ p∈q,p.Events.length<=60
theorem O5 {p:z7} (h:p.Events.length<=60):(tX p).1.length<=90000:=by
 rcases L8 (p:=p) with ⟨_,e⟩ | ⟨_,_,n,s,q,g,_,e,hq⟩
 ·rw [e];simp
 ·have:=(WP (p:=p) g).2
  rw [e,zla];omega
theorem zFa {p:z7} (h:p.Events.length<=60):(pkC p).length<=100000:=by
 have:=O5 h
 have:=(HA 80 (tX p).1).2
 unfold pkC;omega
theorem zBS (s:yZ):(snC s).length<=100000:=by
 have:=g8 s
 have:=(HA 83 (kP s)).2
 unfold snC;omega
theorem S3 {s:List yZ} {l:List z7} (hs:s.length<=1000) (hl:fG l):BS (flC s l)/\(flC s l).length=s.length+l.length+1/\∀ b∈flC s l,b.length<=100000:=by
 have h0:∀ b∈flC s l,b.length<=100000:=by
  intro b hb;unfold flC at hb;simp only [List.mem_append,List.mem_map,List.mem_singleton] at hb;rcases hb with (⟨x,_,rfl⟩ | ⟨p,hp,rfl⟩) | rfl
  ·exact zBS x
  ·exact zFa (hl.2 p hp)
  ·have:=(HA 70 []).2
   simp only [List.length_nil] at this;omega
 have h1:(flC s l).length=s.length+l.length+1:=by unfold flC;simp only [zla,List.length_map,zls]
 have:=hl.1
 exact ⟨⟨by omega,fun b hb=>by have:=h0 b hb;omega⟩,h1,h0⟩
theorem Y1:∀ {l:List (List Int)},(∀ b∈l,b.length<=100000)->aP l<=100000 * l.length
 | [],_=>by simp [aP]
 | a::r,h=>by
  have:=Y1 (l:=r) fun b hb=>h b (by simp [hb])
  have:=h a (by simp)
  unfold aP at *;simp only [List.map_cons,List.sum_cons,zlc] at *;omega
theorem RQ {q r:List z7} {i:Nat} {p:z7} (hq:fG q) (h:q.drop i=p::r):p.Events.length<=60:=hq.2 p (m5 h)
/-! The program. -/
theorem zIc {h:yB} {q:List z7} {sn:List yZ} (ht:h.Threads.length<=100000) (hq:fG q):∀ (n i:Nat) (l:List z7) (E:Option (List (Int×wO))),(q.drop i).length<n->nI l->evN l+60 * (q.drop i).length<=100000->cN E l ->
  ∃ r,HX 281474976710656 q n (i:Nat) h.Threads h.Domains E (evN l:Nat) sn l=some r/\match apS h l (q.drop i) with
   | .inr e=>r=.inr (zD,e)
   | .inl l'=>∃ E',r=.inl (h.Threads,h.Domains,E',(evN l':Nat),sn,l'):=by
 intro n
 induction n with
 | zero=>intro i l E hn;omega
 | succ n ih =>
  intro i l E hn hv hN hE;show ∃ r,KO _ _ _ _ _ _ _ _ _ _=some r/\_;unfold KO;cases hd:q.drop i with
  | nil =>
   have:q.length<=i:=List.drop_eq_nil_iff.1 hd
   rw [yP (by omega),cond_false];exact ⟨_,rfl,E,rfl⟩
  | cons p r =>
   have h1:=dF hd;have h2:=RQ hq hd;have h3:=hq.1;rw [hd] at hn hN;simp only [zlc] at hn hN;rw [yN (by omega),cond_true,vE hd,zbs,SG (by omega),zbs];unfold apS
   by_cases k1:t8 p=0
   ·rw [x7 k1,cond_false,if_neg (by simpa using k1)];obtain ⟨E',f1,f2⟩:=XA (cs:=sn) ht hv (by omega) hE k1;rw [f1,zbs]
    by_cases k2:p.Thread∈kV h
    ·rw [if_neg (show ¬ p.Thread∉kV h by simpa using k2),if_neg (show ¬ p.Thread∉kV h by simpa using k2)];cases k3:aW l p with
     | false =>
      simp only [if_true];rw [xX (show (11:Int)≠0 by decide),cond_true];exact ⟨_,rfl,rfl⟩
     | true =>
      simp only [Bool.true_eq_false,if_false];rw [x7 (show (0:Int)=0 from rfl),cond_false,RO (by omega),zbs]
      by_cases k4:(tX p).2=0
      ·rw [x7 k4,cond_false,if_neg (by simpa using k4),wX (by omega)]
       have:=ih (i+1) (l++[p]) E' (by rw [qR hd];omega) (A0 hv k1) (by rw [qR hd,gQ];omega) f2
       rw [qR hd] at this;exact this
      ·rw [xX k4,cond_true,if_pos k4];exact ⟨_,rfl,rfl⟩
    ·rw [if_pos (show p.Thread∉kV h from k2),if_pos (show p.Thread∉kV h from k2)];simp only;rw [xX (show (5:Int)≠0 by decide),cond_true];exact ⟨_,rfl,rfl⟩
   ·rw [xX k1,cond_true,if_pos k1];exact ⟨_,rfl,rfl⟩
theorem zDQ {s:List yZ} (hs:s.length<=1000) (ho:∀ x∈s,aN x):∀ (n i:Nat) (row:List (List Int)),(s.drop i).length<n->row.length+(s.drop i).length<=100000 ->
  DW 281474976710656 s n (i:Nat) row=some (row++(s.drop i).map snC):=by
 intro n
 induction n with
 | zero=>intro i row hn;omega
 | succ n ih =>
  intro i row hn hr;show KG _ _ _ _ _=_;unfold KG;cases hd:s.drop i with
  | nil =>
   have:s.length<=i:=List.drop_eq_nil_iff.1 hd
   rw [yP (by omega),cond_false,List.map_nil,List.append_nil]
  | cons x r =>
   have h1:=dF hd;have hx:=ho x (m5 hd)
   have:=g8 x
   rw [hd] at hn hr;simp only [zlc] at hn hr;rw [yN (by omega),cond_true,vE hd,zbs,UT (by simp) hx,zbs,List.nil_append,LL X7 (Q3 hx) (by omega),zbs,xQ (by simp only [zls];omega),zbs,wX (by omega),ih (i+1) _ (by rw [qR hd];omega) (by rw [qR hd,zla,zls];omega),qR hd,List.map_cons,List.append_assoc];rfl
theorem zEj {q:List z7} (hq:fG q):∀ (n i:Nat) (row:List (List Int)),(q.drop i).length<n->row.length+(q.drop i).length<=100000 ->
  D2 281474976710656 q n (i:Nat) row=some (row++(q.drop i).map pkC):=by
 intro n
 induction n with
 | zero=>intro i row hn;omega
 | succ n ih =>
  intro i row hn hr;show GQ _ _ _ _ _=_;unfold GQ;have hq1:=hq.1;cases hd:q.drop i with
  | nil =>
   have:q.length<=i:=List.drop_eq_nil_iff.1 hd
   rw [yP (by omega),cond_false,List.map_nil,List.append_nil]
  | cons x r =>
   have h1:=dF hd;have hx:=RQ hq hd
   have:=O5 hx
   rw [hd] at hn hr;simp only [zlc] at hn hr;rw [yN (by omega),cond_true,vE hd,zbs,RO (by omega),zbs,LL V3 Z3 (by omega),zbs,xQ (by simp only [zls];omega),zbs,wX (by omega),ih (i+1) _ (by rw [qR hd];omega) (by rw [qR hd,zla,zls];omega),qR hd,List.map_cons,List.append_assoc];rfl
theorem ZF (a:List Int) (r:List (List Int)):aP (a::r)=a.length+aP r:=by simp [aP]
theorem zCd {o:List (List Int)} {e:List Int} (hl:(o++[e]).length<=100000) (hb:∀ b∈o++[e],b.length<=100000):∀ (n i:Nat) (z:Nat),((o++[e]).drop i).length<n->z+100000 * ((o++[e]).drop i).length<=1000000000000 ->
  JA 281474976710656 o e n (z:Nat) (i:Nat)=some ((z+aP ((o++[e]).drop i):Nat):Int):=by
 intro n
 induction n with
 | zero=>intro i z hn;omega
 | succ n ih =>
  intro i z hn hz;show HU _ _ _ _ _ _=_;unfold HU;cases hd:(o++[e]).drop i with
  | nil =>
   have:(o++[e]).length<=i:=List.drop_eq_nil_iff.1 hd
   rw [yP (by omega),cond_false];rfl
  | cons x r =>
   have h1:=dF hd;have h2:=hb x (m5 hd);rw [hd] at hn hz;simp only [zlc] at hn hz;rw [yN (by omega),cond_true,vE hd,zbs,wX (by omega),w64 (by omega) (by omega),show ((z:Nat):Int)+((x.length:Nat):Int)=((z+x.length:Nat):Int) by omega,ih (i+1) (z+x.length) (by rw [qR hd];omega) (by rw [qR hd];omega),qR hd,ZF,Nat.add_assoc]
theorem zHQ {s:List yZ} {q:List z7} (hs:s.length<=1000) (ho:∀ x∈s,aN x) (hq:fG q):GC 281474976710656 s q=some (flC s q,((aP (flC s q):Nat):Int)):=by
 have hq1:=hq.1;obtain ⟨f1,f2,f3⟩:=S3 hs hq;unfold GC;have e1:=zDQ hs ho 281474976710656 0 [] (by simp only [zdz];omega) (by simp only [zdz,List.length_nil];omega);rw [show (((0:Nat):Nat):Int)=(0:Int) from rfl,zdz,List.nil_append] at e1;have e2:=zEj hq 281474976710656 0 (s.map snC) (by simp only [zdz];omega) (by simp only [zdz,List.length_map];omega);rw [show (((0:Nat):Nat):Int)=(0:Int) from rfl,zdz] at e2;rw [e1,zbs,e2,zbs,LL zAQ (fun x hx=>by cases hx) (by simp),zbs,xQ (by simp only [zla,List.length_map,zls];omega),zbs];have e3:=zCd (o:=s.map snC++q.map pkC) (e:=kO 70 []) (by have:=f2;unfold flC at this;omega) f3 281474976710656 0 0 (by rw [zdz];have:=f2;unfold flC at this;omega) (by rw [zdz];have:=f2;unfold flC at this;omega);rw [show (((0:Nat):Nat):Int)=(0:Int) from rfl,zdz,Nat.zero_add] at e3;rw [e3,zbs];rfl
theorem zBY {s:List yZ} (hs:s.length<=1000) (ho:∀ x∈s,aN x):∀ (n i:Nat) (row:List (List Int)),(s.drop i).length<n->row.length+(s.drop i).length<=100000 ->
  HH 281474976710656 s n (i:Nat) row=some (row++(s.drop i).map snC):=by
 intro n
 induction n with
 | zero=>intro i row hn;omega
 | succ n ih =>
  intro i row hn hr;show EU _ _ _ _ _=_;unfold EU;cases hd:s.drop i with
  | nil =>
   have:s.length<=i:=List.drop_eq_nil_iff.1 hd
   rw [yP (by omega),cond_false,List.map_nil,List.append_nil]
  | cons x r =>
   have h1:=dF hd;have hx:=ho x (m5 hd)
   have:=g8 x
   rw [hd] at hn hr;simp only [zlc] at hn hr;rw [yN (by omega),cond_true,vE hd,zbs,XW (by simp) hx,zbs,List.nil_append,NP X7 (Q3 hx) (by omega),zbs,xQ (by simp only [zls];omega),zbs,wX (by omega),ih (i+1) _ (by rw [qR hd];omega) (by rw [qR hd,zla,zls];omega),qR hd,List.map_cons,List.append_assoc];rfl
theorem zGb {q:List z7} {r2:yB×(List z7)×Int} (ht:r2.1.Threads.length<=100000) (hq:fG q):∀ (n i:Nat) (l:List z7) (row:List (List Int)),(q.drop i).length<n->nI l->evN l+60 * (q.drop i).length<=100000->row.length+(q.drop i).length<=100000 ->
  HP 281474976710656 q r2 n (i:Nat) l row=some (match apS r2.1 l (q.drop i) with
   | .inr e=>.inr (zD,e)
   | .inl l'=>.inl (l',row++(q.drop i).map pkC)):=by
 intro n
 induction n with
 | zero=>intro i l row hn;omega
 | succ n ih =>
  intro i l row hn hv hN hr;show KT _ _ _ _ _ _ _=_;unfold KT;cases hd:q.drop i with
  | nil =>
   have:q.length<=i:=List.drop_eq_nil_iff.1 hd
   rw [yP (by omega),cond_false];simp only [apS,List.map_nil,List.append_nil]
  | cons p r =>
   have h1:=dF hd;have h2:=RQ hq hd;have h3:=hq.1;have hc:=BJ hv;rw [hd] at hn hN hr;simp only [zlc] at hn hN hr;rw [yN (by omega),cond_true,vE hd,zbs,RI (by omega),zbs];unfold apS
   by_cases k1:t8 p=0
   ·rw [x7 k1,cond_false,if_neg (by simpa using k1),zbs,WK ht,zbs]
    by_cases k2:p.Thread∈kV r2.1
    ·rw [yN k2,Bool.not_true,cond_false,if_neg (show ¬ p.Thread∉kV r2.1 by simpa using k2),zbs,V8 (by omega) (by omega) hv k1,zbs];cases k3:aW l p with
     | false =>
      simp only [if_true,Bool.not_false,cond_true]
     | true =>
      simp only [Bool.true_eq_false,if_false,Bool.not_true,cond_false];rw [zbs,xQ (by simp only [zls];omega),zbs,zbs,zAc (by omega),zbs]
      by_cases k4:(tX p).2=0
      ·have:=O5 h2
       rw [x7 k4,cond_false,if_neg (by simpa using k4),NP V3 Z3 (by omega),zbs,xQ (by simp only [zls];omega),zbs,wX (by omega)]
       have:=ih (i+1) (l++[p]) (row++[pkC p]) (by rw [qR hd];omega) (A0 hv k1) (by rw [qR hd,gQ];omega) (by rw [qR hd,zla,zls];omega)
       rw [qR hd] at this;rw [show kO 80 (tX p).1=pkC p from rfl,this,List.map_cons,List.append_assoc];rfl
      ·rw [xX k4,cond_true,if_pos k4]
    ·rw [yP k2,Bool.not_false,cond_true,if_pos (show p.Thread∉kV r2.1 from k2)]
   ·rw [xX k1,cond_true,if_pos k1]
theorem zEy {q:(List z7)×(List (List Int))} {e:List Int} (hl:(q.2++[e]).length<=100000) (hb:∀ b∈q.2++[e],b.length<=100000):∀ (n i:Nat) (z:Nat),((q.2++[e]).drop i).length<n->z+100000 * ((q.2++[e]).drop i).length<=1000000000000 ->
  K7 281474976710656 q e n (z:Nat) (i:Nat)=some ((z+aP ((q.2++[e]).drop i):Nat):Int):=by
 intro n
 induction n with
 | zero=>intro i z hn;omega
 | succ n ih =>
  intro i z hn hz;show KC _ _ _ _ _ _=_;unfold KC;cases hd:(q.2++[e]).drop i with
  | nil =>
   have:(q.2++[e]).length<=i:=List.drop_eq_nil_iff.1 hd
   rw [yP (by omega),cond_false];rfl
  | cons x r =>
   have h1:=dF hd;have h2:=hb x (m5 hd);rw [hd] at hn hz;simp only [zlc] at hn hz;rw [yN (by omega),cond_true,vE hd,zbs,wX (by omega),w64 (by omega) (by omega),show ((z:Nat):Int)+((x.length:Nat):Int)=((z+x.length:Nat):Int) by omega,ih (i+1) (z+x.length) (by rw [qR hd];omega) (by rw [qR hd];omega),qR hd,ZF,Nat.add_assoc]
end Go.Ab
