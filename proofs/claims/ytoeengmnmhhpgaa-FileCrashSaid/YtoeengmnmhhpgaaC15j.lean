/- Plain laws of the functions wU this seat's, laid anew from another seat's text. No conditions but those that the theorems name. -/
import Derived.Test.YtoeengmnmhhpgaaP15xD
import Derived.Test.YtoeengmnmhhpgaaR15
import Derived.Test.YtoeengmnmhhpgaaB15a
import Derived.Test.YtoeengmnmhhpgaaB15b
import Derived.Test.YtoeengmnmhhpgaaB15c
import Derived.Test.YtoeengmnmhhpgaaB15d
import Derived.Test.YtoeengmnmhhpgaaB15e
import Derived.Test.YtoeengmnmhhpgaaB15f
import Derived.Test.YtoeengmnmhhpgaaB15g
import Derived.Test.YtoeengmnmhhpgaaB15h
import Derived.Test.YtoeengmnmhhpgaaB15i
import Derived.Test.YtoeengmnmhhpgaaB15j
import Derived.Test.YtoeengmnmhhpgaaB15k
import Derived.Test.YtoeengmnmhhpgaaB15t
import Derived.Test.YtoeengmnmhhpgaaB15m
import Derived.Test.YtoeengmnmhhpgaaB15n
import Derived.Test.YtoeengmnmhhpgaaB15o
import Derived.Test.YtoeengmnmhhpgaaC15a
import Derived.Test.YtoeengmnmhhpgaaC15b
import Derived.Test.YtoeengmnmhhpgaaC15c
import Derived.Test.YtoeengmnmhhpgaaC15d
import Derived.Test.YtoeengmnmhhpgaaC15e
import Derived.Test.YtoeengmnmhhpgaaC15f
import Derived.Test.YtoeengmnmhhpgaaC15g
import Derived.Test.YtoeengmnmhhpgaaC15h
import Derived.Test.YtoeengmnmhhpgaaC15i
namespace Go.Ab
open Go
set_option linter.unusedVariables false
def apS (h:zT):List zQ→List zQ→List zQ⊕Int
 | l,[]=>.inl l
 | l,p::r=>if u3 p≠0 then .inr (u3 p) else if p.Thread∉pV h then .inr 5 else if aT l p=false then .inr 11 else if (vP p).2≠0 then .inr (vP p).2 else apS h (l++[p]) r
def snC (s:yQ):List Int:=y9 83 (jB s)
def pkC (p:zQ):List Int:=y9 80 (vP p).1
def flC (s:List yQ) (l:List zQ):List (List Int):=s.map snC++l.map pkC++[y9 70 []]
def aM (l:List (List Int)):Nat:=(l.map List.length).sum
def mP (q:List zQ):Prop:=q.length≤1000∧∀ p∈q,p.Events.length≤60
theorem BH {p:zQ} (h:p.Events.length≤60):(vP p).1.length≤90000:=by
 rcases ET (p:=p) with ⟨_,e⟩ | ⟨_,_,n,s,q,g,_,e,hq⟩
 ·rw [e];simp
 ·have:=(QD (p:=p) g).2
  rw [e,zla];omega
theorem zA3 {p:zQ} (h:p.Events.length≤60):(pkC p).length≤100000:=by
 have:=BH h
 have:=(g9 80 (vP p).1).2
 unfold pkC;omega
theorem zEj (s:yQ):(snC s).length≤100000:=by
 have:=fV s
 have:=(g9 83 (jB s)).2
 unfold snC;omega
theorem RA {s:List yQ} {l:List zQ} (hs:s.length≤1000) (hl:mP l):ER (flC s l)∧(flC s l).length=s.length+l.length+1∧∀ b∈flC s l,b.length≤100000:=by
 have h0:∀ b∈flC s l,b.length≤100000:=by
  intro b hb
  unfold flC at hb
  simp only [List.mem_append,List.mem_map,List.mem_singleton] at hb
  rcases hb with (⟨x,_,rfl⟩ | ⟨p,hp,rfl⟩) | rfl
  ·exact zEj x
  ·exact zA3 (hl.2 p hp)
  ·have:=(g9 70 []).2
   simp only [List.length_nil] at this;omega
 have h1:(flC s l).length=s.length+l.length+1:=by unfold flC;simp only [zla,List.length_map,zls]
 have:=hl.1
 exact ⟨⟨by omega,fun b hb=>by have:=h0 b hb;omega⟩,h1,h0⟩
theorem QL:∀ {l:List (List Int)},(∀ b∈l,b.length≤100000)→aM l≤100000 * l.length
 | [],_=>by simp [aM]
 | a::r,h=>by
  have:=QL (l:=r) fun b hb=>h b (by simp [hb])
  have:=h a (by simp)
  unfold aM at *
  simp only [List.map_cons,List.sum_cons,zlc] at *
  omega
theorem S4 {q r:List zQ} {i:Nat} {p:zQ} (hq:mP q) (h:q.drop i=p::r):p.Events.length≤60:=hq.2 p (DZ h)
/-! The program. -/
theorem zDa {h:zT} {q:List zQ} {sn:List yQ} (ht:h.Threads.length≤100000) (hq:mP q):∀ (n i:Nat) (l:List zQ) (E:Option (List (Int×xS))),(q.drop i).length<n→nL l→evN l+60 * (q.drop i).length≤100000→cF E l →
  ∃ r,C0 281474976710656 q n (i:Nat) h.Threads h.Domains E (evN l:Nat) sn l=some r∧match apS h l (q.drop i) with
   | .inr e=>r=.inr (zD,e)
   | .inl l'=>∃ E',r=.inl (h.Threads,h.Domains,E',(evN l':Nat),sn,l'):=by
 intro n
 induction n with
 | zero=>intro i l E hn;omega
 | succ n ih =>
  intro i l E hn hv hN hE
  show ∃ r,A9 _ _ _ _ _ _ _ _ _ _=some r∧_
  unfold A9
  cases hd:q.drop i with
  | nil =>
   have:q.length≤i:=List.drop_eq_nil_iff.1 hd
   rw [yO (by omega),cond_false]
   exact ⟨_,rfl,E,rfl⟩
  | cons p r =>
   have h1:=fM hd
   have h2:=S4 hq hd
   have h3:=hq.1
   rw [hd] at hn hN
   simp only [zlc] at hn hN
   rw [yU (by omega),cond_true,vS hd,zbs,LP (by omega),zbs]
   unfold apS
   by_cases k1:u3 p=0
   ·rw [x8 k1,cond_false,if_neg (by simpa using k1)]
    obtain ⟨E',f1,f2⟩:=TN (cs:=sn) ht hv (by omega) hE k1
    rw [f1,zbs]
    by_cases k2:p.Thread∈pV h
    ·rw [if_neg (show ¬ p.Thread∉pV h by simpa using k2),if_neg (show ¬ p.Thread∉pV h by simpa using k2)]
     cases k3:aT l p with
     | false =>
      simp only [if_true]
      rw [wA (show (11:Int)≠0 by decide),cond_true]
      exact ⟨_,rfl,rfl⟩
     | true =>
      simp only [Bool.true_eq_false,if_false]
      rw [x8 (show (0:Int)=0 from rfl),cond_false,KK (by omega),zbs]
      by_cases k4:(vP p).2=0
      ·rw [x8 k4,cond_false,if_neg (by simpa using k4),vK (by omega)]
       have:=ih (i+1) (l++[p]) E' (by rw [qU hd];omega) (HP hv k1) (by rw [qU hd,oY];omega) f2
       rw [qU hd] at this
       exact this
      ·rw [wA k4,cond_true,if_pos k4]
       exact ⟨_,rfl,rfl⟩
    ·rw [if_pos (show p.Thread∉pV h from k2),if_pos (show p.Thread∉pV h from k2)]
     simp only
     rw [wA (show (5:Int)≠0 by decide),cond_true]
     exact ⟨_,rfl,rfl⟩
   ·rw [wA k1,cond_true,if_pos k1]
    exact ⟨_,rfl,rfl⟩
theorem WJ {s:List yQ} (hs:s.length≤1000) (ho:∀ x∈s,j9 x):∀ (n i:Nat) (row:List (List Int)),(s.drop i).length<n→row.length+(s.drop i).length≤100000 →
  A7 281474976710656 s n (i:Nat) row=some (row++(s.drop i).map snC):=by
 intro n
 induction n with
 | zero=>intro i row hn;omega
 | succ n ih =>
  intro i row hn hr
  show C8 _ _ _ _ _=_
  unfold C8
  cases hd:s.drop i with
  | nil =>
   have:s.length≤i:=List.drop_eq_nil_iff.1 hd
   rw [yO (by omega),cond_false,List.map_nil,List.append_nil]
  | cons x r =>
   have h1:=fM hd
   have hx:=ho x (DZ hd)
   have:=fV x
   rw [hd] at hn hr
   simp only [zlc] at hn hr
   rw [yU (by omega),cond_true,vS hd,zbs,NH (by simp) hx,zbs,List.nil_append,EW OP (MY hx) (by omega),zbs,x7 (by simp only [zls];omega),zbs,vK (by omega),ih (i+1) _ (by rw [qU hd];omega) (by rw [qU hd,zla,zls];omega),qU hd,List.map_cons,List.append_assoc]
   rfl
theorem W8 {q:List zQ} (hq:mP q):∀ (n i:Nat) (row:List (List Int)),(q.drop i).length<n→row.length+(q.drop i).length≤100000 →
  A2 281474976710656 q n (i:Nat) row=some (row++(q.drop i).map pkC):=by
 intro n
 induction n with
 | zero=>intro i row hn;omega
 | succ n ih =>
  intro i row hn hr
  show CU _ _ _ _ _=_
  unfold CU
  have hq1:=hq.1
  cases hd:q.drop i with
  | nil =>
   have:q.length≤i:=List.drop_eq_nil_iff.1 hd
   rw [yO (by omega),cond_false,List.map_nil,List.append_nil]
  | cons x r =>
   have h1:=fM hd
   have hx:=S4 hq hd
   have:=BH hx
   rw [hd] at hn hr
   simp only [zlc] at hn hr
   rw [yU (by omega),cond_true,vS hd,zbs,KK (by omega),zbs,EW VN QR (by omega),zbs,x7 (by simp only [zls];omega),zbs,vK (by omega),ih (i+1) _ (by rw [qU hd];omega) (by rw [qU hd,zla,zls];omega),qU hd,List.map_cons,List.append_assoc]
   rfl
theorem OU (a:List Int) (r:List (List Int)):aM (a::r)=a.length+aM r:=by simp [aM]
theorem ZR {o:List (List Int)} {e:List Int} (hl:(o++[e]).length≤100000) (hb:∀ b∈o++[e],b.length≤100000):∀ (n i:Nat) (z:Nat),((o++[e]).drop i).length<n→z+100000 * ((o++[e]).drop i).length≤1000000000000 →
  CQ 281474976710656 o e n (z:Nat) (i:Nat)=some ((z+aM ((o++[e]).drop i):Nat):Int):=by
 intro n
 induction n with
 | zero=>intro i z hn;omega
 | succ n ih =>
  intro i z hn hz
  show D7 _ _ _ _ _ _=_
  unfold D7
  cases hd:(o++[e]).drop i with
  | nil =>
   have:(o++[e]).length≤i:=List.drop_eq_nil_iff.1 hd
   rw [yO (by omega),cond_false];rfl
  | cons x r =>
   have h1:=fM hd
   have h2:=hb x (DZ hd)
   rw [hd] at hn hz
   simp only [zlc] at hn hz
   rw [yU (by omega),cond_true,vS hd,zbs,vK (by omega),w64 (by omega) (by omega),show ((z:Nat):Int)+((x.length:Nat):Int)=((z+x.length:Nat):Int) by omega,ih (i+1) (z+x.length) (by rw [qU hd];omega) (by rw [qU hd];omega),qU hd,OU,Nat.add_assoc]
theorem zDe {s:List yQ} {q:List zQ} (hs:s.length≤1000) (ho:∀ x∈s,j9 x) (hq:mP q):CA 281474976710656 s q=some (flC s q,((aM (flC s q):Nat):Int)):=by
 have hq1:=hq.1
 obtain ⟨f1,f2,f3⟩:=RA hs hq
 unfold CA
 have e1:=WJ hs ho 281474976710656 0 [] (by simp only [zdz];omega) (by simp only [zdz,List.length_nil];omega)
 rw [show (((0:Nat):Nat):Int)=(0:Int) from rfl,zdz,List.nil_append] at e1
 have e2:=W8 hq 281474976710656 0 (s.map snC) (by simp only [zdz];omega) (by simp only [zdz,List.length_map];omega)
 rw [show (((0:Nat):Nat):Int)=(0:Int) from rfl,zdz] at e2
 rw [e1,zbs,e2,zbs,EW T2 (fun x hx=>by cases hx) (by simp),zbs,x7 (by simp only [zla,List.length_map,zls];omega),zbs]
 have e3:=ZR (o:=s.map snC++q.map pkC) (e:=y9 70 []) (by have:=f2;unfold flC at this;omega) f3 281474976710656 0 0 (by rw [zdz];have:=f2;unfold flC at this;omega) (by rw [zdz];have:=f2;unfold flC at this;omega)
 rw [show (((0:Nat):Nat):Int)=(0:Int) from rfl,zdz,Nat.zero_add] at e3
 rw [e3,zbs];rfl
end Go.Ab
