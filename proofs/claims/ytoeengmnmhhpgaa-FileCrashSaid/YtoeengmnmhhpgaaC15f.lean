/- Plain laws of the functions wU this seat's, laid anew from another seat's text. No conditions but those that the theorems name. -/
import Derived.Test.YtoeengmnmhhpgaaP15xD
import Derived.Test.YtoeengmnmhhpgaaR15
import Derived.Test.YtoeengmnmhhpgaaB15a
import Derived.Test.YtoeengmnmhhpgaaB15b
import Derived.Test.YtoeengmnmhhpgaaB15c
import Derived.Test.YtoeengmnmhhpgaaB15d
import Derived.Test.YtoeengmnmhhpgaaB15e
import Derived.Test.YtoeengmnmhhpgaaB15f
import Derived.Test.YtoeengmnmhhpgaaB15g
import Derived.Test.YtoeengmnmhhpgaaB15h
import Derived.Test.YtoeengmnmhhpgaaB15i
import Derived.Test.YtoeengmnmhhpgaaB15j
import Derived.Test.YtoeengmnmhhpgaaB15k
import Derived.Test.YtoeengmnmhhpgaaB15t
import Derived.Test.YtoeengmnmhhpgaaB15m
import Derived.Test.YtoeengmnmhhpgaaB15n
import Derived.Test.YtoeengmnmhhpgaaB15o
import Derived.Test.YtoeengmnmhhpgaaC15a
import Derived.Test.YtoeengmnmhhpgaaC15b
import Derived.Test.YtoeengmnmhhpgaaC15c
import Derived.Test.YtoeengmnmhhpgaaC15d
import Derived.Test.YtoeengmnmhhpgaaC15e
namespace Go.Ab
open Go
set_option linter.unusedVariables false
theorem OD {b r:List Int} {h:zT} (hb:wI b) (hh:jC b=some (h,r)):∃ body,tF b=some (72,body,r)∧a9 body=some (h,[])∧qB h=0∧jJ h∧body=hdB h∧wI r∧r.length+3≤b.length∧r=b.drop (b.length - r.length):=by
 unfold jC at hh
 cases hc:tF b with
 | none=>rw [hc] at hh;cases hh
 | some v =>
  obtain ⟨k,body,r1⟩:=v
  rw [hc] at hh
  simp only at hh
  obtain ⟨q1,q2,q3,q4⟩:=d9 hb hc
  split at hh
  ·rename_i hk
   cases hp:a9 body with
   | none=>rw [hp] at hh;cases hh
   | some y =>
    obtain ⟨y,rr⟩:=y
    rw [hp] at hh
    cases rr with
    | cons c cs=>cases hh
    | nil =>
     simp only at hh
     split at hh
     ·rename_i h0
      injection hh with hh;injection hh with e1 e2
      subst e1;subst e2;subst hk
      obtain ⟨u1,u2⟩:=EN.uniq body y [] q1.1 hp
      exact ⟨body,rfl,hp,h0,u2,by rw [List.append_nil] at u1;exact u1,q2,q3,q4⟩
     ·cases hh
  ·cases hh
theorem OR {b:List Int} (hb:wI b):∃ r,fL 281474976710656 b=some r∧match jC b with
  | none=>r=⟨⟨⟨[],[],[]⟩,[],none,0⟩,0⟩
  | some (h,rest)=>∃ E,cF E (fin b h rest).packs∧r=⟨⟨⟨h.Threads,h.Domains,(fin b h rest).snaps⟩,(fin b h rest).packs,E,evN (fin b h rest).packs⟩,(fin b h rest).used⟩:=by
 have hbl:=hb.2
 unfold fL
 rw [MP hb,zbs]
 cases hc:tF b with
 | none =>
  rw [T3 hc]
  simp only
  obtain ⟨x,p,e1,_⟩:=O1 wI.nil
  rw [e1,zbs]
  have hn:jC b=none:=by unfold jC;rw [hc]
  rw [hn]
  exact ⟨_,rfl,rfl⟩
 | some v =>
  obtain ⟨k,body,r⟩:=v
  obtain ⟨q1,q2,q3,q4⟩:=d9 hb hc
  rw [QC hc]
  simp only
  obtain ⟨x,p,e1,e2⟩:=O1 q1
  rw [e1,zbs,tA (show (b.length:Int) - r.length≠0 by omega),cond_false]
  simp only
  have hno:jC b=none→∃ r',((bif k != 72 then some true else bif !p then some true else ((gE 281474976710656 x).bind fun r_3=>some (r_3 != (0:Int))))=some true→(some (⟨⟨⟨[],[],[]⟩,[],none,0⟩,0⟩:xZ)=some r')∧match jC b with
   | none=>r'=⟨⟨⟨[],[],[]⟩,[],none,0⟩,0⟩
   | some (h,rest)=>∃ E,cF E (fin b h rest).packs∧r'=⟨⟨⟨h.Threads,h.Domains,(fin b h rest).snaps⟩,(fin b h rest).packs,E,evN (fin b h rest).packs⟩,(fin b h rest).used⟩):=by
   intro hn
   rw [hn]
   exact ⟨_,fun _=>⟨rfl,rfl⟩⟩
  by_cases hk:k=72
  ·rw [x8 hk,cond_false]
   subst hk
   have hun:jC b=match a9 body with | some (h,[])=>if qB h=0 then some (h,r) else none | _=>none:=by
    unfold jC;rw [hc];exact if_pos rfl
   cases hp:a9 body with
   | none =>
    rw [hp] at e2 hun
    simp only at e2
    subst e2
    rw [hun]
    exact ⟨_,rfl,rfl⟩
   | some y =>
    obtain ⟨y,rr⟩:=y
    rw [hp] at e2 hun
    cases rr with
    | cons c cs =>
     simp only at e2 hun
     subst e2
     rw [hun]
     exact ⟨_,rfl,rfl⟩
    | nil =>
     simp only at e2 hun
     obtain ⟨rfl,rfl⟩:=e2
     obtain ⟨u1,u2⟩:=EN.uniq body x [] q1.1 hp
     have w1:=u2.nt;have w2:=u2.nd;have w3:=u2.ns
     rw [Bool.not_true,cond_false,OQ (Nat.le_trans w1 (by omega)) (Nat.le_trans w2 (by omega)) (Nat.le_trans w3 (by omega)),zbs,zbs]
     by_cases h0:qB x=0
     ·rw [if_pos h0] at hun
      rw [x8 h0,cond_false,OE (by simp) (by simp only;omega),zbs,hun]
      simp only
      obtain ⟨E,g1,g2⟩:=Z9 (h:=x) hb (by omega) (by omega) r.length 281474976710656 (kU x ((b.length:Int) - r.length)) r none none (Nat.le_refl _) (by omega) (QI (by omega)) q4 (by omega) rfl L3 L3
      refine ⟨_,?_,E,g1,rfl⟩
      have g3:mU 281474976710656 b 281474976710656 false false ((b.length:Int) - r.length) x.Threads x.Domains x.Snaps none 0 ((b.length:Int) - r.length) [] x.Threads x.Domains none 0 x.Snaps []=_:=g2
      rw [g3];rfl
     ·rw [if_neg h0] at hun
      rw [wA h0,cond_true,hun]
      exact ⟨_,rfl,rfl⟩
  ·rw [wA hk,cond_true]
   have hn:jC b=none:=by unfold jC;rw [hc];simp [hk]
   rw [hn]
   exact ⟨_,rfl,rfl⟩
theorem zAB {b:List Int} (hb:wI b):gC 281474976710656 b=some (vJ b):=by
 obtain ⟨r,h1,h2⟩:=OR hb
 unfold gC vJ
 rw [h1,zbs]
 cases hh:jC b with
 | none=>rw [hh] at h2;simp only at h2;subst h2;rfl
 | some v =>
  obtain ⟨h,rest⟩:=v
  rw [hh] at h2
  obtain ⟨E,_,rfl⟩:=h2
  rfl
theorem VP {h:zT}:∀ (n:Nat) (st:RdS) (b:List Int),wI b→RdI st→RdI (t6 h n st b)
 | 0,st,b,_,hi=>hi
 | n+1,st,b,hb,hi=>by
  unfold t6
  cases hc:tF b with
  | none=>exact hi
  | some v =>
   obtain ⟨k,body,r⟩:=v
   obtain ⟨q1,q2,q3,q4⟩:=d9 hb hc
   simp only
   cases hs:qR h st k body (st.pos+((b.length:Int) - r.length)) with
   | none=>exact hi
   | some st'=>exact VP n st' r q2 (zBu q1.1 hi hs)
theorem Q4 {h:zT}:∀ (n:Nat) (st:RdS) (b:List Int),wI b→0<st.used→st.used≤st.pos→st.used≤(t6 h n st b).used∧(t6 h n st b).used≤st.pos+b.length
 | 0,st,b,_,h0,h1=>by unfold t6;omega
 | n+1,st,b,hb,h0,h1=>by
  unfold t6
  cases hc:tF b with
  | none=>simp only;omega
  | some v =>
   obtain ⟨k,body,r⟩:=v
   obtain ⟨q1,q2,q3,q4⟩:=d9 hb hc
   simp only
   cases hs:qR h st k body (st.pos+((b.length:Int) - r.length)) with
   | none=>simp only;omega
   | some st' =>
    simp only
    have hst:st'.pos=st.pos+((b.length:Int) - r.length)∧(st'.used=st.used∨st'.used=st'.pos):=by
     unfold qR at hs
     split at hs
     ·split at hs
      ·split at hs
       ·split at hs
        ·injection hs with hs;subst hs;exact ⟨rfl,.inl rfl⟩
        ·cases hs
       ·cases hs
      ·cases hs
     ·split at hs
      ·split at hs
       ·injection hs with hs;subst hs;exact ⟨rfl,.inl rfl⟩
       ·cases hs
      ·split at hs
       ·split at hs
        ·injection hs with hs;subst hs;exact ⟨rfl,.inr rfl⟩
        ·cases hs
       ·cases hs
    have:=Q4 (h:=h) n st' r q2 (by omega) (by omega)
    omega
theorem XG {b r:List Int} {h:zT} (hb:wI b) (hh:jC b=some (h,r)):0<(fin b h r).used∧(fin b h r).used≤b.length:=by
 obtain ⟨body,c1,c2,c3,c4,c5,c6,c7,c8⟩:=OD hb hh
 have:=Q4 (h:=h) r.length (kU h ((b.length:Int) - r.length)) r c6 (by simp only [kU];omega) (by simp [kU])
 unfold fin
 simp only [kU] at this
 unfold kU
 omega
theorem XL {b r:List Int} {h:zT} (hb:wI b) (hh:jC b=some (h,r)):RdI (fin b h r):=by
 obtain ⟨body,c1,c2,c3,c4,c5,c6,c7,c8⟩:=OD hb hh
 exact VP _ _ _ c6 (QI c4.ns)
/-! The reference's side. -/
end Go.Ab
