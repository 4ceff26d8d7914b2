/- Plain laws of the functions w6 this seat's, laid anew from another seat's text. No conditions but those that the theorems name. -/
import Derived.Test.YtoeengmnmhhpgaaP15xD
import Derived.Test.YtoeengmnmhhpgaaR15
import Derived.Test.YtoeengmnmhhpgaaB15a
import Derived.Test.YtoeengmnmhhpgaaB15b
import Derived.Test.YtoeengmnmhhpgaaB15c
import Derived.Test.YtoeengmnmhhpgaaB15d
import Derived.Test.YtoeengmnmhhpgaaB15e
import Derived.Test.YtoeengmnmhhpgaaB15f
import Derived.Test.YtoeengmnmhhpgaaB15g
import Derived.Test.YtoeengmnmhhpgaaB15h
import Derived.Test.YtoeengmnmhhpgaaB15i
import Derived.Test.YtoeengmnmhhpgaaB15j
import Derived.Test.YtoeengmnmhhpgaaB15k
import Derived.Test.YtoeengmnmhhpgaaB15t
import Derived.Test.YtoeengmnmhhpgaaB15m
import Derived.Test.YtoeengmnmhhpgaaB15n
import Derived.Test.YtoeengmnmhhpgaaB15o
import Derived.Test.YtoeengmnmhhpgaaC15a
import Derived.Test.YtoeengmnmhhpgaaC15b
import Derived.Test.YtoeengmnmhhpgaaC15c
import Derived.Test.YtoeengmnmhhpgaaC15d
import Derived.Test.YtoeengmnmhhpgaaC15e
import Derived.Test.YtoeengmnmhhpgaaC15f
import Derived.Test.YtoeengmnmhhpgaaC15g
import Derived.Test.YtoeengmnmhhpgaaC15h
import Derived.Test.YtoeengmnmhhpgaaC15i
import Derived.Test.YtoeengmnmhhpgaaC15j
import Derived.Test.YtoeengmnmhhpgaaC15k
import Derived.Test.YtoeengmnmhhpgaaC15l
import Derived.Test.YtoeengmnmhhpgaaC15m
import Derived.Test.YtoeengmnmhhpgaaC15n
import Derived.Test.YtoeengmnmhhpgaaC15o
namespace Go.Ab
open Go
set_option linter.unusedVariables false
structure Ack (h:zU) (l:List Fl) (d:z9):Prop where
 size:d.Size=60000
 data:d.Data=xL 72 (hdB h)++wR l
 dur:d.Durable=d.Data.length
 left:d.Left = -1
 down:d.Down=false
 ok:okF h h.Snaps [] l
 fits:d.Data.length≤60000
 bytes:∀ x∈d.Data,xO x
theorem Ack.chk {h:zU} {l:List Fl} {d:z9} (a:Ack h l d):u5 d=0:=MO (by
 have h1:=a.size;have h2:=a.dur;have h3:=a.left;have h4:=a.fits
 unfold cD
 omega)
theorem Ack.read {h:zU} {l:List Fl} {d:z9} (hl:jW h) (h0:qP h=0) (a:Ack h l d):vZ d.Data=(⟨h.Threads,h.Domains,h.Snaps++uP l⟩,vR l,(d.Data.length:Int)):=by
 rw [a.data]
 have h1:=a.bytes;have h2:=a.fits
 rw [a.data] at h1 h2
 exact YQ hl h0 a.ok ⟨h1,by omega⟩
theorem zDE {s:List yP} {q:List zQ} (hs:∀ x∈s,kF x) (hq:∀ p∈q,p.Events.length≤60):∀ x∈(flC s q).flatten,xO x:=by
 intro x hx
 obtain ⟨c,hc,hxc⟩:=List.mem_flatten.1 hx
 unfold flC at hc
 simp only [List.mem_append,List.mem_map,List.mem_singleton] at hc
 rcases hc with (⟨y,hy,rfl⟩ | ⟨p,hp,rfl⟩) | rfl
 ·have:=dY y
  exact G2 QC (MY (hs y hy)) (by omega) x hxc
 ·have:=A8 (hq p hp)
  exact G2 TU VC (by omega) x hxc
 ·exact G2 O2 (fun y hy=>by cases hy) (by simp) x hxc
theorem MV:∀ (l:List (List Int)),aF l=l.flatten.length
 | []=>rfl
 | a::r=>by rw [UT,MV r];simp
theorem Y8 {h:zU} {l:List Fl} {d:z9} {s:List yP} {q:List zQ} (hl:jW h) (h0:qP h=0) (a:Ack h l d) (hs:∀ x∈s,kF x) (hq:∀ p∈q,p.Events.length≤60) (he:(fC d s q).2=0) :
  (s.length+q.length=0∧fC d s q=(d,0))∨(s.length+q.length≠0∧Ack h (l++[(s,q)]) (fC d s q).1):=by
 have hf:=a.fits;have hsz:=a.size
 unfold fC at he ⊢
 rw [if_neg (show ¬ u5 d≠0 by simpa using a.chk),a.down,if_neg (by decide),a.read hl h0] at he ⊢
 simp only at he ⊢
 by_cases hd:(d.Data.length:Int)=0∨(d.Data.length:Int)≠d.Data.length
 ·rw [if_pos hd] at he;exact absurd he (show ¬ (18:Int)=0 by decide)
 rw [if_neg hd] at he ⊢
 by_cases hz:s.length+q.length=0
 ·rw [if_pos hz];exact .inl ⟨hz,rfl⟩
 rw [if_neg hz] at he ⊢
 by_cases hc:tJ h.Domains (h.Snaps++uP l++s)=0
 ·rw [if_neg (show ¬ tJ h.Domains (h.Snaps++uP l++s)≠0 by simpa using hc)] at he ⊢
  have hap:∀ l' q',apS ⟨h.Threads,h.Domains,h.Snaps++uP l⟩ l' q'=apS h l' q':=by
   intro l' q'
   induction q' generalizing l' with
   | nil=>rfl
   | cons p r ih=>unfold apS;rw [ih];rfl
  rw [hap] at he ⊢
  cases hx:apS h (vR l) q with
  | inr e =>
   exfalso
   rw [hx] at he
   simp only at he
   subst he
   have:∀ (q':List zQ) (l':List zQ),apS h l' q'≠.inr 0:=by
    intro q'
    induction q' with
    | nil=>intro l' h';cases h'
    | cons p r ih =>
     intro l' h'
     unfold apS at h'
     split at h'
     ·injection h' with h';omega
     split at h'
     ·injection h' with h';omega
     split at h'
     ·injection h' with h';omega
     split at h'
     ·injection h' with h';omega
     exact ih _ h'
   exact this _ _ hx
  | inl l' =>
   rw [hx] at he
   simp only at he ⊢
   have hg:=(NV hx).1
   by_cases hev:evN l'>20000
   ·rw [if_pos hev] at he;exact absurd he (show ¬ (7:Int)=0 by decide)
   rw [if_neg hev] at he ⊢
   by_cases ht:(d.Data.length:Int)+(aF (flC s q):Nat)>d.Size
   ·rw [if_pos ht] at he;exact absurd he (show ¬ (6:Int)=0 by decide)
   rw [if_neg ht,OW a.chk a.down a.left (by rw [← MV];omega)]
   refine .inr ⟨hz,?_⟩
   have hlen:(d.Data++(flC s q).flatten).length≤60000:=by rw [zla,← MV];omega
   exact ⟨hsz,by simp only;rw [a.data];simp [wR],rfl,rfl,rfl,OF a.ok hs hq hc (by rw [List.nil_append,← hg];exact hx) (by rw [List.nil_append,← hg];omega) hz,hlen,fun x hx'=>by
    rcases List.mem_append.1 hx' with h1 | h1
    ·exact a.bytes x h1
    ·exact zDE hs hq x h1⟩
 ·rw [if_pos hc] at he;exact absurd he hc
end Go.Ab
