/- Plain laws of the functions wU this seat's, laid anew from another seat's text. No conditions but those that the theorems name. -/
import Derived.Test.YtoeengmnmhhpgaaP15xD
import Derived.Test.YtoeengmnmhhpgaaR15
import Derived.Test.YtoeengmnmhhpgaaB15a
import Derived.Test.YtoeengmnmhhpgaaB15b
import Derived.Test.YtoeengmnmhhpgaaB15c
import Derived.Test.YtoeengmnmhhpgaaB15d
import Derived.Test.YtoeengmnmhhpgaaB15e
import Derived.Test.YtoeengmnmhhpgaaB15f
import Derived.Test.YtoeengmnmhhpgaaB15g
import Derived.Test.YtoeengmnmhhpgaaB15h
import Derived.Test.YtoeengmnmhhpgaaB15i
import Derived.Test.YtoeengmnmhhpgaaB15j
import Derived.Test.YtoeengmnmhhpgaaB15k
import Derived.Test.YtoeengmnmhhpgaaB15t
import Derived.Test.YtoeengmnmhhpgaaB15m
import Derived.Test.YtoeengmnmhhpgaaB15n
import Derived.Test.YtoeengmnmhhpgaaB15o
import Derived.Test.YtoeengmnmhhpgaaC15a
import Derived.Test.YtoeengmnmhhpgaaC15b
import Derived.Test.YtoeengmnmhhpgaaC15c
import Derived.Test.YtoeengmnmhhpgaaC15d
import Derived.Test.YtoeengmnmhhpgaaC15e
import Derived.Test.YtoeengmnmhhpgaaC15f
import Derived.Test.YtoeengmnmhhpgaaC15g
import Derived.Test.YtoeengmnmhhpgaaC15h
import Derived.Test.YtoeengmnmhhpgaaC15i
import Derived.Test.YtoeengmnmhhpgaaC15j
import Derived.Test.YtoeengmnmhhpgaaC15k
import Derived.Test.YtoeengmnmhhpgaaC15l
import Derived.Test.YtoeengmnmhhpgaaC15m
import Derived.Test.YtoeengmnmhhpgaaC15n
import Derived.Test.YtoeengmnmhhpgaaC15o
import Derived.Test.YtoeengmnmhhpgaaC15p
import Derived.Test.YtoeengmnmhhpgaaC15q
import Derived.Test.YtoeengmnmhhpgaaC15r
import Derived.Test.YtoeengmnmhhpgaaC15s
import Derived.Test.YtoeengmnmhhpgaaC15t
namespace Go.Ab
open Go
set_option linter.unusedVariables false
theorem O6:∀ (l:List (List Int)) (d:z8),vU d=0→d.Down=false→0≤d.Left→(d.Data.length:Int)+l.flatten.length≤d.Size →
  aG d l=if (l.flatten.length:Int)≤d.Left then .inl ⟨d.Size,d.Data++l.flatten,d.Durable,d.Left - l.flatten.length,false⟩
   else .inr (⟨d.Size,d.Data++l.flatten.take d.Left.toNat,d.Durable,0,true⟩,19)
 | [],d,hc,hd,hl,hs=>by
  rw [if_pos (by simp only [List.flatten_nil,List.length_nil];omega)]
  obtain ⟨a,b,c,e,f⟩:=d
  simp only at hd hl
  subst hd
  simp [aG]
 | b::r,d,hc,hd,hl,hs=>by
  obtain ⟨q1,q2,q3,q4,q5,q6,q7⟩:=fE hc
  simp only [List.flatten_cons,zla] at hs ⊢
  by_cases hb:d.Left<b.length
  ·have ha:aP d b=(⟨d.Size,d.Data++b.take d.Left.toNat,d.Durable,0,true⟩,19):=by
    unfold aP
    rw [d7 hc hd,if_neg (show ¬ (0:Int)≠0 by decide),if_neg (by omega),if_pos ⟨hl,hb⟩]
   unfold aG
   rw [ha,if_pos (show (19:Int)≠0 by decide),if_neg (by omega),List.take_append_of_le_length (by omega)]
  ·have ha:aP d b=(⟨d.Size,d.Data++b,d.Durable,d.Left - b.length,false⟩,0):=by
    unfold aP
    rw [d7 hc hd,if_neg (show ¬ (0:Int)≠0 by decide),if_neg (by omega),if_neg (by omega),if_pos hl,hd]
   have hc2:vU ⟨d.Size,d.Data++b,d.Durable,d.Left - b.length,false⟩=0:=dQ (by
    unfold pT
    simp only [zla]
    omega)
   unfold aG
   rw [ha,if_neg (show ¬ (0:Int)≠0 by decide),O6 r _ hc2 rfl (by simp only;omega) (by simp only [zla];omega)]
   simp only
   by_cases hr:(r.flatten.length:Int)≤d.Left - b.length
   ·rw [if_pos hr,if_pos (by omega),List.append_assoc,show d.Left - (b.length:Int) - (r.flatten.length:Int)=d.Left - ((b.length+r.flatten.length:Nat):Int) by omega]
   ·rw [if_neg hr,if_neg (by omega),List.append_assoc,List.take_append,List.take_of_length_le (i:=d.Left.toNat) (by omega),show (d.Left - (b.length:Int)).toNat=d.Left.toNat - b.length by omega]
theorem VV {l:List (List Int)} {d:z8} (hc:vU d=0) (hd:d.Down=false) (hl:0≤d.Left) (hs:(d.Data.length:Int)+l.flatten.length≤d.Size) :
  dK d l=if (l.flatten.length:Int)<d.Left then (⟨d.Size,d.Data++l.flatten,(d.Data++l.flatten).length,d.Left - l.flatten.length,false⟩,0)
   else (⟨d.Size,d.Data++l.flatten.take d.Left.toNat,d.Durable,0,true⟩,19):=by
 obtain ⟨q1,q2,q3,q4,q5,q6,q7⟩:=fE hc
 unfold dK
 rw [O6 l d hc hd hl hs]
 by_cases h1:(l.flatten.length:Int)≤d.Left
 ·rw [if_pos h1]
  simp only
  unfold lT
  rw [d7 (dQ (by unfold pT;simp only [zla];omega)) rfl,if_neg (show ¬ (0:Int)≠0 by decide)]
  simp only
  by_cases h2:d.Left - (l.flatten.length:Int)=0
  ·rw [if_pos h2,if_neg (by omega),List.take_of_length_le (by omega),h2]
  ·rw [if_neg h2,if_pos (by omega)]
 ·rw [if_neg h1,if_neg (by omega)]
structure CG (h:zT) (l:List Fl) (d:z8):Prop where
 ack:Ack h l ⟨d.Size,d.Data,d.Durable, -1,d.Down⟩
 lo:0≤d.Left
 hi:d.Left≤1048576
theorem CG.chk {h:zT} {l:List Fl} {d:z8} (a:CG h l d):vU d=0:=dQ (by
 have h1:=a.ack.size;have h2:=a.ack.dur;have h3:=a.lo;have h5:=a.hi;have h4:=a.ack.fits
 simp only at h1 h2 h4
 unfold pT
 omega)
theorem zCG {h:zT} {l:List Fl} {d:z8} {s:List yQ} {q:List zQ} (hl:jJ h) (h0:qB h=0) (a:CG h l d) (hs:∀ x∈s,j9 x) (hq:∀ p∈q,p.Events.length≤60) :
  (s.length+q.length=0∧lL d s q=(d,0))∨((lL d s q).2≠0∧(lL d s q).2≠19) ∨
  (Ack h (l++[(s,q)]) ⟨60000,d.Data++(flC s q).flatten,(d.Data++(flC s q).flatten).length, -1,false⟩∧(d.Data.length:Int)+(flC s q).flatten.length≤d.Size∧lL d s q=dK d (flC s q)):=by
 have hf:=a.ack.fits;have hsz:=a.ack.size;have hdn:=a.ack.down
 have hrd:=a.ack.read hl h0
 simp only at hf hsz hdn hrd
 unfold lL
 rw [if_neg (show ¬ vU d≠0 by simpa using a.chk),hdn,if_neg (by decide),hrd]
 simp only
 by_cases hd:(d.Data.length:Int)=0∨(d.Data.length:Int)≠d.Data.length
 ·rw [if_pos hd];exact .inr (.inl ⟨by simp,by simp⟩)
 rw [if_neg hd]
 by_cases hz:s.length+q.length=0
 ·rw [if_pos hz];exact .inl ⟨hz,rfl⟩
 rw [if_neg hz]
 by_cases hc:uZ h.Domains (h.Snaps++qW l++s)=0
 ·rw [if_neg (show ¬ uZ h.Domains (h.Snaps++qW l++s)≠0 by simpa using hc)]
  have hap:∀ l' q',apS ⟨h.Threads,h.Domains,h.Snaps++qW l⟩ l' q'=apS h l' q':=by
   intro l' q'
   induction q' generalizing l' with
   | nil=>rfl
   | cons p r ih=>unfold apS;rw [ih];rfl
  rw [hap]
  cases hx:apS h (v9 l) q with
  | inr e=>exact .inr (.inl (QZ q _ e hx))
  | inl l' =>
   simp only
   have hg:=(LO hx).1
   by_cases hev:evN l'>20000
   ·rw [if_pos hev];exact .inr (.inl ⟨by simp,by simp⟩)
   rw [if_neg hev]
   by_cases ht:(d.Data.length:Int)+(aM (flC s q):Nat)>d.Size
   ·rw [if_pos ht];exact .inr (.inl ⟨by simp,by simp⟩)
   rw [if_neg ht]
   rw [RL] at ht
   refine .inr (.inr ⟨?_,by omega,rfl⟩)
   have hda:=a.ack.data
   simp only at hda
   have hlen:(d.Data++(flC s q).flatten).length≤60000:=by rw [zla];omega
   exact ⟨rfl,by simp only;rw [hda];simp [wC],rfl,rfl,rfl,UP a.ack.ok hs hq hc (by rw [List.nil_append,← hg];exact hx) (by rw [List.nil_append,← hg];omega) hz,hlen,fun x hx'=>by
    rcases List.mem_append.1 hx' with h1 | h1
    ·exact a.ack.bytes x h1
    ·exact zC2 hs hq x h1⟩
 ·rw [if_pos hc];exact .inr (.inl ⟨hc,zEf _ _⟩)
structure zAd (h:zT) (L:List Fl) (m:Nat) (D d:z8):Prop where
 ack:Ack h L D
 size:d.Size=60000
 data:∃ j,d.Data=D.Data.take j
 dur:d.Durable=((y9 72 (hdB h)).length+(wC (L.take m)).length:Nat)
 le:d.Durable≤d.Data.length
 lo:0≤d.Left
 hi:d.Left≤1048576
 cnt:(m=L.length∧d.Down=false)∨(m+1=L.length∧d.Down=true)
theorem zCC {h:zT} {l:List tK} (hl:jJ h) (h0:qB h=0) (hf:iO l) (ho:∀ g∈l,∀ x∈g.Snaps,j9 x):∀ (n i:Nat) (d:z8) (fl:List Fl),
  (l.drop i).length<n→i≤l.length→CG h fl d→(v9 fl).length≤8 * i →
  ∃ L m D d' nx,zAd h L m D d'∧(d'.Down=true→nx=v9 L) ∧
   AU 281474976710656 l n (i:Nat) d.Size d.Data d.Durable d.Left d.Down (v9 fl)=some (nx,d'.Size,d'.Data,d'.Durable,d'.Left,d'.Down,v9 (L.take m)):=by
 intro n
 induction n with
 | zero=>intro i d fl hn;omega
 | succ n ih =>
  intro i d fl hn hi a q3
  show ∃ L m D d' nx,_∧_∧BL _ _ _ _ _ _ _ _ _ _=_
  unfold BL
  have h6:=hf.2
  have hdn:=a.ack.down;have hsz:=a.ack.size;have hdu:=a.ack.dur;have hdl:=a.ack.len;have hbs:=a.ack.bs
  simp only at hdn hsz hdu hdl hbs
  cases hd:l.drop i with
  | nil =>
   have:l.length≤i:=List.drop_eq_nil_iff.1 hd
   refine ⟨fl,fl.length,⟨d.Size,d.Data,d.Durable, -1,d.Down⟩,d,[],⟨a.ack,hsz,⟨d.Data.length,by simp⟩,by rw [List.take_length];omega,by omega,a.lo,a.hi,.inl ⟨rfl,hdn⟩⟩,(fun hh=>by rw [hdn] at hh;cases hh),?_⟩
   rw [yO (by omega),cond_false,List.take_length]
  | cons g r =>
   have h1:=fM hd
   have hm:=DZ hd
   obtain ⟨g1,g2,g3⟩:=hf.1 g hm
   rw [hd] at hn
   simp only [zlc] at hn
   rw [yU (by omega),cond_true,vS hd,zbs,zC0 hbs (by omega) (ho g hm) ⟨by omega,g3⟩,zbs]
   rcases zCG hl h0 a (ho g hm) g3 with ⟨z1,z2⟩ | ⟨z1,z2⟩ | ⟨z1,z2,z3⟩
   ·have zp:g.Packets=[]:=List.length_eq_zero_iff.1 (by omega)
    rw [z2,zp]
    simp only [List.append_nil]
    rw [tA (show (0:Int)≠19 by decide),cond_false,uE rfl,cond_true,x7 (by simp only [List.length_nil];omega),zbs,vK (by omega)]
    exact ih (i+1) d fl (by rw [qU hd];omega) h1 a (by omega)
   ·rw [tA z2,cond_false,tA z1,cond_false,vK (by omega)]
    exact ih (i+1) d fl (by rw [qU hd];omega) h1 a (by omega)
   ·rw [VV a.chk hdn a.lo z2] at z3
    by_cases hw:((flC g.Snaps g.Packets).flatten.length:Int)<d.Left
    ·rw [if_pos hw] at z3
     rw [z3]
     simp only
     rw [tA (show (0:Int)≠19 by decide),cond_false,uE rfl,cond_true,x7 (by omega),zbs,vK (by omega),← KE fl (g.Snaps,g.Packets)]
     refine ih (i+1) ⟨d.Size,d.Data++(flC g.Snaps g.Packets).flatten,(d.Data++(flC g.Snaps g.Packets).flatten).length,d.Left - (flC g.Snaps g.Packets).flatten.length,false⟩ (fl++[(g.Snaps,g.Packets)]) (by rw [qU hd];omega) h1 ⟨?_,?_,?_⟩ (by rw [KE,zla];simp only;omega)
     ·rw [← hsz] at z1;exact z1
     ·simp only;omega
     ·have:=a.hi;simp only;omega
    ·rw [if_neg hw] at z3
     rw [z3]
     simp only
     have hfl:(fl++[(g.Snaps,g.Packets)]).take fl.length=fl:=List.take_left
     rw [uE rfl,cond_true,x7 (by simp only [List.length_nil];omega),zbs,x7 (by simp only [List.nil_append];omega),zbs,List.nil_append]
     refine ⟨fl++[(g.Snaps,g.Packets)],fl.length,_,⟨d.Size,d.Data++(flC g.Snaps g.Packets).flatten.take d.Left.toNat,d.Durable,0,true⟩,v9 fl++g.Packets,⟨z1,hsz,⟨d.Data.length+d.Left.toNat,by simp only;rw [List.take_length_add_append]⟩,(by rw [hfl];show d.Durable=_;omega),(by show d.Durable≤(((d.Data++(flC g.Snaps g.Packets).flatten.take d.Left.toNat).length:Nat):Int);rw [zla];omega),(by simp),(by simp),.inr ⟨by simp,rfl⟩⟩,(fun _=>(KE fl (g.Snaps,g.Packets)).symm),?_⟩
     rw [hfl]
def aV (d:z8) (keep:Int):Int:=if keep<d.Data.length - d.Durable then d.Durable+nZ keep 0 else d.Data.length
theorem zDs {d:z8} {keep:Int} (hc:vU d=0):iB d keep=some ⟨d.Size,d.Data.take (aV d keep).toNat,aV d keep, -1,false⟩∧d.Durable≤aV d keep∧aV d keep≤d.Data.length:=by
 obtain ⟨q1,q2,q3,q4,q5,q6,q7⟩:=fE hc
 have hm:keep≤nZ keep 0∧0≤nZ keep 0∧(nZ keep 0=keep∨nZ keep 0=0):=by unfold nZ;split<;>omega
 have hN:d.Durable≤aV d keep∧aV d keep≤d.Data.length:=by
  unfold aV
  split<;>omega
 refine ⟨?_,hN⟩
 unfold iB
 rw [B5,zbs,x8 hc,cond_false,w64 (by omega) (by omega)]
 have e:((bif decide (keep<((d.Data.length:Nat):Int) - d.Durable) then some (zI (d.Durable+(nZ keep (0:Int)))) else some (((d.Data).length:Nat):Int)):Option Int)=some (aV d keep):=by
  unfold aV
  by_cases hk:keep<((d.Data.length:Nat):Int) - d.Durable
  ·rw [yU hk,cond_true,if_pos hk,w64 (by omega) (by omega)]
  ·rw [yO hk,cond_false,if_neg hk]
 rw [e,zbs,x7 (by omega),zbs,H5 (by omega)]
 unfold rR
 rw [x7 (by simp only [List.length_nil,List.length_take];omega),zbs,zbs,List.nil_append]
theorem ZS {h:zT} {L:List Fl} {D:z8} {m n:Nat} (hl:jJ h) (h0:qB h=0) (A:Ack h L D) (hm:m≤L.length) (hn:n≤D.Data.length) (hz:(y9 72 (hdB h)).length+(wC (L.take m)).length≤n) :
  ∃ w,m≤w∧w≤L.length∧H0 ⟨60000,D.Data.take n,(n:Int), -1,false⟩=(⟨60000,D.Data.take ((y9 72 (hdB h)).length+(wC (L.take w)).length),(((y9 72 (hdB h)).length+(wC (L.take w)).length:Nat):Int), -1,false⟩,0) ∧
   (y9 72 (hdB h)).length+(wC (L.take w)).length≤D.Data.length ∧
   (vJ (D.Data.take ((y9 72 (hdB h)).length+(wC (L.take w)).length))).2=(v9 (L.take w),(((y9 72 (hdB h)).length+(wC (L.take w)).length:Nat):Int)):=by
 obtain ⟨w1,w2⟩:=K6 L (n - (y9 72 (hdB h)).length)
 have hmw:=GW L (n - (y9 72 (hdB h)).length) m hm (by omega)
 have hc:=A.cut (j:=n) hl h0 (by omega)
 have hfit:=A.fits
 have hzp:=(g9 72 (hdB h)).1
 generalize hw:jY L (n - (y9 72 (hdB h)).length)=w at *
 have hc2:=A.cut (j:=(y9 72 (hdB h)).length+(wC (L.take w)).length) hl h0 (by omega)
 have hww:jY L ((y9 72 (hdB h)).length+(wC (L.take w)).length - (y9 72 (hdB h)).length)=w:=by
  rw [Nat.add_sub_cancel_left]
  have k1:=GW L (wC (L.take w)).length w w1 (Nat.le_refl _)
  obtain ⟨k2,k3⟩:=K6 L (wC (L.take w)).length
  have k4:=GW L (n - (y9 72 (hdB h)).length) _ k2 (by omega)
  rw [hw] at k4
  omega
 rw [hww] at hc2
 refine ⟨w,hmw,w1,?_,by omega,by rw [hc2]⟩
 have hlen:(D.Data.take n).length=n:=by rw [List.length_take];omega
 have hck:vU ⟨60000,D.Data.take n,(n:Int), -1,false⟩=0:=dQ (by unfold pT;simp only [hlen];omega)
 unfold H0
 rw [if_neg (show ¬ vU ⟨60000,D.Data.take n,(n:Int), -1,false⟩≠0 by simpa using hck),if_neg (by simp),hc]
 simp only
 rw [if_neg (by omega)]
 have ht:lO ⟨60000,D.Data.take n,(n:Int), -1,false⟩ (((y9 72 (hdB h)).length+(wC (L.take w)).length:Nat):Int)=(⟨60000,D.Data.take ((y9 72 (hdB h)).length+(wC (L.take w)).length),(((y9 72 (hdB h)).length+(wC (L.take w)).length:Nat):Int), -1,false⟩,0):=by
  unfold lO
  rw [d7 hck rfl,if_neg (show ¬ (0:Int)≠0 by decide),if_neg (by simp only [hlen];omega)]
  simp only
  rw [Int.toNat_natCast,List.take_take,Nat.min_eq_left (by omega),show aW (n:Int) (((y9 72 (hdB h)).length+(wC (L.take w)).length:Nat):Int)=(((y9 72 (hdB h)).length+(wC (L.take w)).length:Nat):Int) by unfold aW;split<;>omega]
 rw [ht]
 simp only
 have hlen2:(D.Data.take ((y9 72 (hdB h)).length+(wC (L.take w)).length)).length=(y9 72 (hdB h)).length+(wC (L.take w)).length:=by rw [List.length_take];omega
 unfold lT
 rw [d7 (dQ (by unfold pT;simp only [hlen2];omega)) rfl,if_neg (show ¬ (0:Int)≠0 by decide),if_neg (by simp),hlen2]
theorem L15_FileCrash_plain:∀ (h:zT) (l:List tK) (nI keep:Int),fH h→aF HX l→yS nI→yS keep→∃ F,iV F h l nI keep=some true:=by
 intro h l wh keep hh hll _ _
 refine ⟨281474976710656,?_⟩
 unfold iV
 rw [W4,zCR hll.2,zbs,zbs]
 by_cases hL:m5 h
 ·obtain ⟨l1,l2,l3⟩:=hL
  by_cases hF:iO l
  ·rw [yU (show m5 h from ⟨l1,l2,l3⟩),yU hF]
   simp only [Bool.not_true,cond_false]
   by_cases hw:wh<0
   ·rw [yU hw,cond_true,zbs,cond_true,i9];rfl
   by_cases hw2:wh>50000
   ·rw [yO hw,cond_false,yU hw2,zbs,cond_true,i9];rfl
   rw [yO hw,cond_false,yO hw2,zbs,cond_false,zAL,zbs,XY hh (by omega) (by omega) (by omega),zbs]
   by_cases he:(pA nD h).2=0
   ·obtain ⟨c1,c2,c3⟩:=zCg hh he
    have hsz:=c3.size;have hdn:=c3.down
    rw [x8 he,cond_false]
    have harm:AA (pA nD h).1 wh=some (⟨(pA nD h).1.Size,(pA nD h).1.Data,(pA nD h).1.Durable,wh,(pA nD h).1.Down⟩,0):=by
     unfold AA
     rw [JM,zbs,d7 c3.chk c3.down,x8 rfl,cond_false,J1,yO (by omega),cond_false]
    rw [harm,zbs]
    simp only
    have ha:CG h [] ⟨(pA nD h).1.Size,(pA nD h).1.Data,(pA nD h).1.Durable,wh,(pA nD h).1.Down⟩:=⟨by
     have hlf:=c3.left
     generalize (pA nD h).1=d0 at *
     obtain ⟨e1,e2,e3,e4,e5⟩:=d0
     simp only at hlf ⊢
     rw [← hlf];exact c3,by simp only;omega,by simp only;omega⟩
    obtain ⟨L,m,D,d',nx,b1,b2,b3⟩:=zCC c1 c2 hF (fun g hg x hx=>OI ((hll.1 g hg).1.1 x hx)) 281474976710656 0 _ [] (by rw [zdz];have:=hF.2;omega) (by omega) ha (by simp [v9])
    rw [show v9 []=[] from rfl,show (((0:Nat):Nat):Int)=(0:Int) from rfl] at b3
    simp only at b3
    rw [b3,zbs]
    simp only
    have hmL:m≤L.length:=by rcases b1.cnt with ⟨k,_⟩ | ⟨k,_⟩<;>omega
    obtain ⟨j,hj⟩:=b1.data
    have hjl:d'.Data.length≤D.Data.length:=by rw [hj,List.length_take];omega
    have hDf:=b1.ack.fits
    have hck:vU d'=0:=dQ (by
     have k1:=b1.size;have k2:=b1.dur;have k3:=b1.le;have k4:=b1.lo;have k5:=b1.hi
     unfold pT;omega)
    obtain ⟨r1,r2,r3⟩:=zDs (keep:=keep) hck
    have hdur:=b1.dur
    obtain ⟨n,hn⟩:∃ n:Nat,aV d' keep=n:=⟨(aV d' keep).toNat,by omega⟩
    rw [hn] at r1 r2 r3
    have hdn2:d'.Data.take n=D.Data.take n:=by
     rw [hj,List.length_take] at r3
     rw [hj,List.take_take,Nat.min_eq_left (by omega)]
    rw [Int.toNat_natCast,hdn2,b1.size] at r1
    have r1':iB (⟨60000,d'.Data,d'.Durable,d'.Left,d'.Down⟩:z8) keep=some ⟨60000,D.Data.take n,(n:Int), -1,false⟩:=by rw [← r1,← b1.size]
    rw [b1.size,r1',zbs]
    obtain ⟨w,v1,v2,v3,v4,v5⟩:=ZS (m:=m) (n:=n) c1 c2 b1.ack hmL (by omega) (by omega)
    have hB:wI (D.Data.take n):=HR b1.ack.bs n
    rw [W0 hB,zbs,v3]
    simp only
    have hB2:wI (D.Data.take ((y9 72 (hdB h)).length+(wC (L.take w)).length)):=HR b1.ack.bs _
    have hlen2:(D.Data.take ((y9 72 (hdB h)).length+(wC (L.take w)).length)).length=(y9 72 (hdB h)).length+(wC (L.take w)).length:=by rw [List.length_take];omega
    obtain ⟨_,_,_,w4,w5⟩:=SW hB2
    have hev:=ZH w4 (by omega)
    rw [v5] at hev
    simp only at hev
    rw [x8 rfl,cond_false,zAB hB2,zbs,v5]
    simp only
    rw [uE (by rw [hlen2]),cond_true,uE rfl,cond_true,U2 hev,zbs]
    by_cases hs:v9 (L.take w)=v9 (L.take m)
    ·rw [yU hs,cond_true,i9];rfl
    ·have hwm:w≠m:=fun hh=>hs (by rw [hh])
     rcases b1.cnt with ⟨k,k2⟩ | ⟨k,k2⟩
     ·omega
     ·rw [yO hs,cond_false,k2,cond_true,U2 hev,zbs,b2 k2,yU (by rw [List.take_of_length_le (by omega)]),cond_true,i9];rfl
   ·rw [wA he,cond_true,i9];rfl
  ·rw [yU (show m5 h from ⟨l1,l2,l3⟩),yO hF]
   simp only [Bool.not_true,Bool.not_false,cond_false,cond_true,zbs]
   rw [i9];rfl
 ·rw [yO hL]
  simp only [Bool.not_false,cond_true,zbs]
  rw [i9];rfl
end Go.Ab
