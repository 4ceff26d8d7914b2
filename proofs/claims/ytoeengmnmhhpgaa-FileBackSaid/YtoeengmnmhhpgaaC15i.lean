/- Plain laws of the functions w6 this seat's, laid anew from another seat's text. No conditions but those that the theorems name. -/
import Derived.Test.YtoeengmnmhhpgaaP15xD
import Derived.Test.YtoeengmnmhhpgaaR15
import Derived.Test.YtoeengmnmhhpgaaB15a
import Derived.Test.YtoeengmnmhhpgaaB15b
import Derived.Test.YtoeengmnmhhpgaaB15c
import Derived.Test.YtoeengmnmhhpgaaB15d
import Derived.Test.YtoeengmnmhhpgaaB15e
import Derived.Test.YtoeengmnmhhpgaaB15f
import Derived.Test.YtoeengmnmhhpgaaB15g
import Derived.Test.YtoeengmnmhhpgaaB15h
import Derived.Test.YtoeengmnmhhpgaaB15i
import Derived.Test.YtoeengmnmhhpgaaB15j
import Derived.Test.YtoeengmnmhhpgaaB15k
import Derived.Test.YtoeengmnmhhpgaaB15t
import Derived.Test.YtoeengmnmhhpgaaB15m
import Derived.Test.YtoeengmnmhhpgaaB15n
import Derived.Test.YtoeengmnmhhpgaaB15o
import Derived.Test.YtoeengmnmhhpgaaC15a
import Derived.Test.YtoeengmnmhhpgaaC15b
import Derived.Test.YtoeengmnmhhpgaaC15c
import Derived.Test.YtoeengmnmhhpgaaC15d
import Derived.Test.YtoeengmnmhhpgaaC15e
import Derived.Test.YtoeengmnmhhpgaaC15f
import Derived.Test.YtoeengmnmhhpgaaC15g
import Derived.Test.YtoeengmnmhhpgaaC15h
namespace Go.Ab
open Go
set_option linter.unusedVariables false
theorem bG {n:Int} (h:yU n):∀ x∈wW n,xO x:=C1 h
theorem GI {n:Nat} (h:n≤1000000):∀ x∈wW (n:Int),xO x:=bG ⟨by omega,by omega⟩
theorem JO {α:Type} {f:α→List Int} {l:List α} (h:∀ a∈l,∀ x∈f a,xO x):∀ x∈l.flatMap f,xO x:=by
 intro x hx
 obtain ⟨a,ha,hxa⟩:=List.mem_flatMap.1 hx
 exact h a ha x hxa
theorem MY {s:yP} (h:kF s):∀ x∈jD s,xO x:=by
 obtain ⟨h1,h2,h3,h4,h5⟩:=h
 intro x hx
 unfold jD at hx
 simp only [List.mem_append] at hx
 rcases hx with (((hx | hx) | hx) | hx) | hx
 ·exact bG h1 x hx
 ·exact bG h2 x hx
 ·exact bG h3 x hx
 ·exact bG h4 x hx
 ·exact bG h5 x hx
theorem R1 {s:yP} (h:GE s):kF s:=⟨h.1,h.2.1,h.2.2.1,h.2.2.2.1,h.2.2.2.2⟩
theorem zDh {h:zU} (h0:qP h=0):tJ h.Domains h.Snaps=0∧h.Threads.length≤64∧∀ t∈h.Threads,cE t=0:=by
 unfold qP at h0
 split at h0
 ·omega
 split at h0
 ·omega
 cases hb:uR (thF h.Threads) 0 h.Threads with
 | inr q =>
  rw [hb] at h0
  simp only at h0
  exfalso
  have:∀ (m:List xJ) (i:Nat),uR (thF h.Threads) i m=.inr q→q≠0:=by
   intro m
   induction m with
   | nil=>intro i h;cases h
   | cons a r ih =>
    intro i hf
    simp only [uR] at hf
    unfold thF at hf
    by_cases h1:cE a≠0
    ·rw [if_pos h1] at hf
     injection hf with hf
     omega
    ·rw [if_neg h1] at hf
     by_cases h2:a.Id∈(h.Threads.take i).map (·.Id)
     ·rw [if_pos h2] at hf
      injection hf with hf
      omega
     ·rw [if_neg h2] at hf
      exact ih _ hf
  exact this _ _ hb h0
 | inl u =>
  rw [hb] at h0
  simp only at h0
  have hn:=U7 hb
  refine ⟨?_,by omega,fun t ht=>?_⟩
  ·split at h0
   ·omega
   ·rename_i hc;simpa using hc
  ·obtain ⟨i,hi⟩:=List.mem_iff_getElem?.1 ht
   have:=hn i t hi
   unfold thF at this
   split at this
   ·cases this
   ·rename_i hc;simpa using hc
theorem SA {h:zU} (ho:fA h) (h0:qP h=0):jW h:=by
 obtain ⟨hc,ht,hth⟩:=zDh h0
 have:=NQ hc
 exact ⟨ht,fun t hm=>zA6 (hth t hm),this.1,fun d hm=>ho.2.1.1 d hm,this.2,fun s hm=>R1 (ho.2.2.1 s hm)⟩
theorem RA {h:zU} (ho:fA h) (hl:jW h):∀ x∈hdB h,xO x:=by
 have q1:=hl.nt;have q2:=hl.nd;have q3:=hl.ns
 intro x hx
 unfold hdB at hx
 simp only [List.mem_append] at hx
 rcases hx with ((((hx | hx) | hx) | hx) | hx) | hx
 ·exact GI (by omega) x hx
 ·refine JO (fun t ht x hx=>?_) x hx
  unfold pJ j7 at hx
  simp only [List.mem_append] at hx
  have k:=hl.t t ht
  rcases hx with (hx | (hx | hx)) | hx
  ·exact bG k.1 x hx
  ·exact GI (by have:=k.2.1;omega) x hx
  ·exact (ho.1.1 t ht).2.1.1 x hx
  ·exact bG k.2.2 x hx
 ·exact GI (by omega) x hx
 ·refine JO (fun t ht x hx=>?_) x hx
  unfold nV at hx
  simp only [List.mem_append] at hx
  have k:=hl.d t ht
  rcases hx with hx | hx
  ·exact bG k.1 x hx
  ·exact bG k.2 x hx
 ·exact GI (by omega) x hx
 ·exact JO (fun s hs=>MY (hl.s s hs)) x hx
def gC (d:z9) (h:zU):z9×Int :=
 if u5 d≠0 then (zD,u5 d) else if d.Data.length>0 then (zD,18) else if qP h≠0 then (zD,qP h) else rS d [xL 72 (hdB h)]
theorem ON:xO 72:=⟨by decide,by decide⟩
theorem QC:xO 83:=⟨by decide,by decide⟩
theorem TU:xO 80:=⟨by decide,by decide⟩
theorem O2:xO 70:=⟨by decide,by decide⟩
theorem WK {h:zU} (hl:jW h):GB [xL 72 (hdB h)]:=by
 have h1:=DH hl
 have h2:=(oR 72 (hdB h)).2
 exact ⟨by simp,fun b hb=>by rw [List.mem_singleton.1 hb];omega⟩
theorem zDy {d:z9} {h:zU} (ho:fA h) (h1:h.Threads.length≤100000) (h2:h.Domains.length≤100000) (h3:h.Snaps.length≤100000):r9 281474976710656 d h=some (gC d h):=by
 unfold r9 gC
 rw [K0,zbs]
 by_cases hc:u5 d=0
 ·rw [x8 hc,cond_false,if_neg (by simpa using hc)]
  by_cases hd:d.Data.length>0
  ·rw [yR (by omega),cond_true,if_pos hd]
  ·rw [yO (by omega),cond_false,if_neg hd,T7 h1 h2 h3,zbs]
   by_cases hh:qP h=0
   ·have hl:=SA ho hh
    have:=DH hl
    rw [x8 hh,cond_false,if_neg (by simpa using hh),Q2 hl,zbs,HO ON (RA ho hl) (by omega),zbs,R4 (WK hl),zbs]
   ·rw [wA hh,cond_true,if_pos hh]
 ·rw [wA hc,cond_true,if_pos hc]
/-! Open. -/
theorem zCR {b:List Int} (hb:wM b):∃ E,bC E (vZ b).2.1∧dJ 281474976710656 b=some ⟨⟨(vZ b).1,(vZ b).2.1,E,evN (vZ b).2.1⟩,(vZ b).2.2⟩:=by
 obtain ⟨r,h1,h2⟩:=SP hb
 unfold vZ
 cases hh:jR b with
 | none=>rw [hh] at h2;simp only at h2;subst h2;exact ⟨none,JL,h1⟩
 | some v =>
  obtain ⟨h,rest⟩:=v
  rw [hh] at h2
  obtain ⟨E,he,rfl⟩:=h2
  exact ⟨E,he,h1⟩
end Go.Ab
