/- Plain laws of the functions w6 this seat's, laid anew from another seat's text. No conditions but those that the theorems name. -/
import Derived.Test.YtoeengmnmhhpgaaP15xD
import Derived.Test.YtoeengmnmhhpgaaR15
import Derived.Test.YtoeengmnmhhpgaaB15a
import Derived.Test.YtoeengmnmhhpgaaB15b
import Derived.Test.YtoeengmnmhhpgaaB15c
import Derived.Test.YtoeengmnmhhpgaaB15d
import Derived.Test.YtoeengmnmhhpgaaB15e
import Derived.Test.YtoeengmnmhhpgaaB15f
import Derived.Test.YtoeengmnmhhpgaaB15g
import Derived.Test.YtoeengmnmhhpgaaB15h
import Derived.Test.YtoeengmnmhhpgaaB15i
import Derived.Test.YtoeengmnmhhpgaaB15j
import Derived.Test.YtoeengmnmhhpgaaB15k
import Derived.Test.YtoeengmnmhhpgaaB15t
import Derived.Test.YtoeengmnmhhpgaaB15m
import Derived.Test.YtoeengmnmhhpgaaB15n
import Derived.Test.YtoeengmnmhhpgaaB15o
import Derived.Test.YtoeengmnmhhpgaaC15a
import Derived.Test.YtoeengmnmhhpgaaC15b
import Derived.Test.YtoeengmnmhhpgaaC15c
import Derived.Test.YtoeengmnmhhpgaaC15d
import Derived.Test.YtoeengmnmhhpgaaC15e
namespace Go.Ab
open Go
set_option linter.unusedVariables false
theorem RG {b r:List Int} {h:zU} (hb:wM b) (hh:jR b=some (h,r)):∃ body,tZ b=some (72,body,r)∧aP body=some (h,[])∧qP h=0∧jW h∧body=hdB h∧wM r∧r.length+3≤b.length∧r=b.drop (b.length - r.length):=by
 unfold jR at hh
 cases hc:tZ b with
 | none=>rw [hc] at hh;cases hh
 | some v =>
  obtain ⟨k,body,r1⟩:=v
  rw [hc] at hh
  simp only at hh
  obtain ⟨q1,q2,q3,q4⟩:=lB hb hc
  split at hh
  ·rename_i hk
   cases hp:aP body with
   | none=>rw [hp] at hh;cases hh
   | some y =>
    obtain ⟨y,rr⟩:=y
    rw [hp] at hh
    cases rr with
    | cons c cs=>cases hh
    | nil =>
     simp only at hh
     split at hh
     ·rename_i h0
      injection hh with hh;injection hh with e1 e2
      subst e1;subst e2;subst hk
      obtain ⟨u1,u2⟩:=E4.uniq body y [] q1.1 hp
      exact ⟨body,rfl,hp,h0,u2,by rw [List.append_nil] at u1;exact u1,q2,q3,q4⟩
     ·cases hh
  ·cases hh
theorem SP {b:List Int} (hb:wM b):∃ r,dJ 281474976710656 b=some r∧match jR b with
  | none=>r=⟨⟨⟨[],[],[]⟩,[],none,0⟩,0⟩
  | some (h,rest)=>∃ E,bC E (fin b h rest).packs∧r=⟨⟨⟨h.Threads,h.Domains,(fin b h rest).snaps⟩,(fin b h rest).packs,E,evN (fin b h rest).packs⟩,(fin b h rest).used⟩:=by
 have hbl:=hb.2
 unfold dJ
 rw [MS hb,zbs]
 cases hc:tZ b with
 | none =>
  rw [T1 hc]
  simp only
  obtain ⟨x,p,e1,_⟩:=UZ wM.nil
  rw [e1,zbs]
  have hn:jR b=none:=by unfold jR;rw [hc]
  rw [hn]
  exact ⟨_,rfl,rfl⟩
 | some v =>
  obtain ⟨k,body,r⟩:=v
  obtain ⟨q1,q2,q3,q4⟩:=lB hb hc
  rw [OA hc]
  simp only
  obtain ⟨x,p,e1,e2⟩:=UZ q1
  rw [e1,zbs,qQ (show (b.length:Int) - r.length≠0 by omega),cond_false]
  simp only
  have hno:jR b=none→∃ r',((bif k != 72 then some true else bif !p then some true else ((iB 281474976710656 x).bind fun r_3=>some (r_3 != (0:Int))))=some true→(some (⟨⟨⟨[],[],[]⟩,[],none,0⟩,0⟩:xZ)=some r')∧match jR b with
   | none=>r'=⟨⟨⟨[],[],[]⟩,[],none,0⟩,0⟩
   | some (h,rest)=>∃ E,bC E (fin b h rest).packs∧r'=⟨⟨⟨h.Threads,h.Domains,(fin b h rest).snaps⟩,(fin b h rest).packs,E,evN (fin b h rest).packs⟩,(fin b h rest).used⟩):=by
   intro hn
   rw [hn]
   exact ⟨_,fun _=>⟨rfl,rfl⟩⟩
  by_cases hk:k=72
  ·rw [x8 hk,cond_false]
   subst hk
   have hun:jR b=match aP body with | some (h,[])=>if qP h=0 then some (h,r) else none | _=>none:=by
    unfold jR;rw [hc];exact if_pos rfl
   cases hp:aP body with
   | none =>
    rw [hp] at e2 hun
    simp only at e2
    subst e2
    rw [hun]
    exact ⟨_,rfl,rfl⟩
   | some y =>
    obtain ⟨y,rr⟩:=y
    rw [hp] at e2 hun
    cases rr with
    | cons c cs =>
     simp only at e2 hun
     subst e2
     rw [hun]
     exact ⟨_,rfl,rfl⟩
    | nil =>
     simp only at e2 hun
     obtain ⟨rfl,rfl⟩:=e2
     obtain ⟨u1,u2⟩:=E4.uniq body x [] q1.1 hp
     have w1:=u2.nt;have w2:=u2.nd;have w3:=u2.ns
     rw [Bool.not_true,cond_false,T7 (Nat.le_trans w1 (by omega)) (Nat.le_trans w2 (by omega)) (Nat.le_trans w3 (by omega)),zbs,zbs]
     by_cases h0:qP x=0
     ·rw [if_pos h0] at hun
      rw [x8 h0,cond_false,OU (by simp) (by simp only;omega),zbs,hun]
      simp only
      obtain ⟨E,g1,g2⟩:=zDa (h:=x) hb (by omega) (by omega) r.length 281474976710656 (a9 x ((b.length:Int) - r.length)) r none none (Nat.le_refl _) (by omega) (R2 (by omega)) q4 (by omega) rfl JL JL
      refine ⟨_,?_,E,g1,rfl⟩
      have g3:o9 281474976710656 b 281474976710656 false false ((b.length:Int) - r.length) x.Threads x.Domains x.Snaps none 0 ((b.length:Int) - r.length) [] x.Threads x.Domains none 0 x.Snaps []=_:=g2
      rw [g3];rfl
     ·rw [if_neg h0] at hun
      rw [wA h0,cond_true,hun]
      exact ⟨_,rfl,rfl⟩
  ·rw [wA hk,cond_true]
   have hn:jR b=none:=by unfold jR;rw [hc];simp [hk]
   rw [hn]
   exact ⟨_,rfl,rfl⟩
theorem SL {b:List Int} (hb:wM b):d8 281474976710656 b=some (vZ b):=by
 obtain ⟨r,h1,h2⟩:=SP hb
 unfold d8 vZ
 rw [h1,zbs]
 cases hh:jR b with
 | none=>rw [hh] at h2;simp only at h2;subst h2;rfl
 | some v =>
  obtain ⟨h,rest⟩:=v
  rw [hh] at h2
  obtain ⟨E,_,rfl⟩:=h2
  rfl
theorem U5 {h:zU}:∀ (n:Nat) (st:RdS) (b:List Int),wM b→RdI st→RdI (jM h n st b)
 | 0,st,b,_,hi=>hi
 | n+1,st,b,hb,hi=>by
  unfold jM
  cases hc:tZ b with
  | none=>exact hi
  | some v =>
   obtain ⟨k,body,r⟩:=v
   obtain ⟨q1,q2,q3,q4⟩:=lB hb hc
   simp only
   cases hs:jX h st k body (st.pos+((b.length:Int) - r.length)) with
   | none=>exact hi
   | some st'=>exact U5 n st' r q2 (XN q1.1 hi hs)
theorem zDS {b r:List Int} {h:zU} (hb:wM b) (hh:jR b=some (h,r)):RdI (fin b h r):=by
 obtain ⟨body,c1,c2,c3,c4,c5,c6,c7,c8⟩:=RG hb hh
 exact U5 _ _ _ c6 (R2 c4.ns)
/-! The reference's side. -/
end Go.Ab
