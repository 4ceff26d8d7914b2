/- Plain laws of the functions wU this seat's, laid anew from another seat's text. No conditions but those that the theorems name. -/
import Derived.Test.YtoeengmnmhhpgaaP15xD
import Derived.Test.YtoeengmnmhhpgaaR15
import Derived.Test.YtoeengmnmhhpgaaB15a
import Derived.Test.YtoeengmnmhhpgaaB15b
import Derived.Test.YtoeengmnmhhpgaaB15c
import Derived.Test.YtoeengmnmhhpgaaB15d
import Derived.Test.YtoeengmnmhhpgaaB15e
import Derived.Test.YtoeengmnmhhpgaaB15f
import Derived.Test.YtoeengmnmhhpgaaB15g
import Derived.Test.YtoeengmnmhhpgaaB15h
import Derived.Test.YtoeengmnmhhpgaaB15i
import Derived.Test.YtoeengmnmhhpgaaB15j
import Derived.Test.YtoeengmnmhhpgaaB15k
import Derived.Test.YtoeengmnmhhpgaaB15t
import Derived.Test.YtoeengmnmhhpgaaB15m
import Derived.Test.YtoeengmnmhhpgaaB15n
import Derived.Test.YtoeengmnmhhpgaaB15o
import Derived.Test.YtoeengmnmhhpgaaC15a
import Derived.Test.YtoeengmnmhhpgaaC15b
import Derived.Test.YtoeengmnmhhpgaaC15c
import Derived.Test.YtoeengmnmhhpgaaC15d
import Derived.Test.YtoeengmnmhhpgaaC15e
import Derived.Test.YtoeengmnmhhpgaaC15f
import Derived.Test.YtoeengmnmhhpgaaC15g
import Derived.Test.YtoeengmnmhhpgaaC15h
import Derived.Test.YtoeengmnmhhpgaaC15i
import Derived.Test.YtoeengmnmhhpgaaC15j
namespace Go.Ab
open Go
set_option linter.unusedVariables false
def lL (d:z8) (s:List yQ) (q:List zQ):z8×Int :=
 if vU d≠0 then (zD,vU d) else if d.Down=true then (d,19) else if (vJ d.Data).2.2=0∨(vJ d.Data).2.2≠d.Data.length then (zD,18) else
 if s.length+q.length=0 then (d,0) else
 if uZ (vJ d.Data).1.Domains ((vJ d.Data).1.Snaps++s)≠0 then (zD,uZ (vJ d.Data).1.Domains ((vJ d.Data).1.Snaps++s)) else
 match apS (vJ d.Data).1 (vJ d.Data).2.1 q with
 | .inr e=>(zD,e)
 | .inl l'=>if evN l'>20000 then (zD,7) else if d.Data.length+aM (flC s q)>d.Size then (zD,6) else dK d (flC s q)
theorem zBB {a b:Int}:((a==(0:Int))||(a != b))=decide (a=0∨a≠b):=by
 rw [Bool.eq_iff_iff]
 simp
theorem LO {h:zT}:∀ {q l l':List zQ},apS h l q=.inl l'→l'=l++q∧(nL l→nL l')
 | [],l,l',e=>by
  unfold apS at e
  injection e with e;subst e
  exact ⟨by simp,fun h=>h⟩
 | p::r,l,l',e=>by
  unfold apS at e
  split at e
  ·cases e
  split at e
  ·cases e
  split at e
  ·cases e
  split at e
  ·cases e
  rename_i k1 k2 k3 k4
  obtain ⟨g1,g2⟩:=LO (q:=r) e
  exact ⟨by rw [g1,List.append_assoc];rfl,fun hv=>g2 (HP hv (by simpa using k1))⟩
theorem zC0 {d:z8} {s:List yQ} {q:List zQ} (hb:wI d.Data) (hs:s.length≤1000) (ho:∀ x∈s,j9 x) (hq:mP q):lU 281474976710656 d s q=some (lL d s q):=by
 obtain ⟨w1,w2,w3,w4,w5⟩:=SW hb
 have hq1:=hq.1
 have hbl:=hb.2
 unfold lU lL
 rw [B5,zbs]
 by_cases hc:vU d=0
 ·have hc2:=fE hc
  rw [x8 hc,cond_false,if_neg (by simpa using hc)]
  cases hd:d.Down with
  | true=>rw [cond_true,if_pos rfl]
  | false =>
   obtain ⟨E,hE,e⟩:=QU hb
   rw [cond_false,if_neg (by decide),e,zbs]
   simp only
   rw [zBB]
   by_cases h0:(vJ d.Data).2.2=0∨(vJ d.Data).2.2≠(d.Data.length:Int)
   ·rw [yU h0,cond_true,if_pos h0]
   ·rw [yO h0,cond_false,if_neg h0,w64 (by omega) (by omega)]
    by_cases hz:s.length+q.length=0
    ·rw [uE (by omega),cond_true,if_pos hz]
    ·rw [tA (by omega),cond_false,if_neg hz]
     unfold rD
     rw [x7 (by simp only [List.length_nil];omega),zbs,zbs,List.nil_append,x7 (by omega),zbs,MV (by omega) (by rw [zla];omega),zbs]
     by_cases hk:uZ (vJ d.Data).1.Domains ((vJ d.Data).1.Snaps++s)=0
     ·rw [x8 hk,cond_false,if_neg (by simpa using hk)]
      obtain ⟨r,f1,f2⟩:=zDa (h:=(vJ d.Data).1) (sn:=(vJ d.Data).1.Snaps++s) (by omega) hq 281474976710656 0 (vJ d.Data).2.1 E (by rw [zdz];omega) w4 (by rw [zdz];omega) hE
      rw [show (((0:Nat):Nat):Int)=(0:Int) from rfl] at f1
      rw [f1,zbs]
      rw [zdz] at f2
      cases ha:apS (vJ d.Data).1 (vJ d.Data).2.1 q with
      | inr e=>rw [ha] at f2;simp only at f2;subst f2;rfl
      | inl l' =>
       rw [ha] at f2
       obtain ⟨E',rfl⟩:=f2
       simp only
       obtain ⟨g1,g2,g3⟩:=RA hs hq
       have ht:=QL g3
       by_cases hev:evN l'>20000
       ·rw [yU (by omega),cond_true,if_pos hev]
       ·rw [yO (by omega),cond_false,if_neg hev,zDe hs ho hq,zbs]
        simp only
        rw [w64 (by omega) (by omega)]
        by_cases hsz:d.Data.length+aM (flC s q)>d.Size
        ·rw [yU (by omega),cond_true,if_pos hsz]
        ·rw [yO (by omega),cond_false,if_neg hsz,SS g1,zbs]
     ·rw [wA hk,cond_true,if_pos hk]
 ·rw [wA hc,cond_true,if_pos hc]
/-! The law. -/
theorem zAn {x:tK} (hx:x.Packets.length≤8):∀ (n i:Nat),(x.Packets.drop i).length<n→C1 281474976710656 x n (i:Nat)=some (if ∀ p∈x.Packets.drop i,p.Events.length≤60 then .inl () else .inr false):=by
 intro n
 induction n with
 | zero=>intro i h;omega
 | succ n ih =>
  intro i hn
  show CF _ _ _ _=_
  unfold CF
  cases hd:x.Packets.drop i with
  | nil =>
   have:x.Packets.length≤i:=List.drop_eq_nil_iff.1 hd
   rw [yO (by omega),cond_false];simp
  | cons p r =>
   have h1:=fM hd
   rw [hd] at hn
   simp only [zlc] at hn
   rw [yU (by omega),cond_true,vS hd,zbs]
   by_cases hp:p.Events.length>60
   ·rw [yU (by omega),cond_true,if_neg (fun h=>by have:=h p (by simp);omega)]
   ·rw [yO (by omega),cond_false,vK (by omega),ih (i+1) (by rw [qU hd];omega),qU hd]
    by_cases hr:∀ p∈r,p.Events.length≤60
    ·rw [if_pos hr,if_pos (fun y hy=>by
      rcases List.mem_cons.1 hy with rfl | hy
      ·omega
      ·exact hr y hy)]
    ·rw [if_neg hr,if_neg (fun h=>hr fun y hy=>h y (by simp [hy]))]
end Go.Ab
