/- Plain laws of the functions wU this seat's, laid anew from another seat's text. No conditions but those that the theorems name. -/
import Derived.Test.YtoeengmnmhhpgaaP15xD
import Derived.Test.YtoeengmnmhhpgaaR15
import Derived.Test.YtoeengmnmhhpgaaB15a
import Derived.Test.YtoeengmnmhhpgaaB15b
import Derived.Test.YtoeengmnmhhpgaaB15c
import Derived.Test.YtoeengmnmhhpgaaB15d
import Derived.Test.YtoeengmnmhhpgaaB15e
import Derived.Test.YtoeengmnmhhpgaaB15f
import Derived.Test.YtoeengmnmhhpgaaB15g
import Derived.Test.YtoeengmnmhhpgaaB15h
import Derived.Test.YtoeengmnmhhpgaaB15i
import Derived.Test.YtoeengmnmhhpgaaB15j
import Derived.Test.YtoeengmnmhhpgaaB15k
import Derived.Test.YtoeengmnmhhpgaaB15t
import Derived.Test.YtoeengmnmhhpgaaB15m
import Derived.Test.YtoeengmnmhhpgaaB15n
import Derived.Test.YtoeengmnmhhpgaaB15o
import Derived.Test.YtoeengmnmhhpgaaC15a
import Derived.Test.YtoeengmnmhhpgaaC15b
import Derived.Test.YtoeengmnmhhpgaaC15c
import Derived.Test.YtoeengmnmhhpgaaC15d
import Derived.Test.YtoeengmnmhhpgaaC15e
import Derived.Test.YtoeengmnmhhpgaaC15f
import Derived.Test.YtoeengmnmhhpgaaC15g
import Derived.Test.YtoeengmnmhhpgaaC15h
namespace Go.Ab
open Go
set_option linter.unusedVariables false
theorem b9 {n:Int} (h:yS n):∀ x∈wY n,xO x:=AH h
theorem GU {n:Nat} (h:n≤1000000):∀ x∈wY (n:Int),xO x:=b9 ⟨by omega,by omega⟩
theorem M5 {α:Type} {f:α→List Int} {l:List α} (h:∀ a∈l,∀ x∈f a,xO x):∀ x∈l.flatMap f,xO x:=by
 intro x hx
 obtain ⟨a,ha,hxa⟩:=List.mem_flatMap.1 hx
 exact h a ha x hxa
theorem MY {s:yQ} (h:j9 s):∀ x∈jB s,xO x:=by
 obtain ⟨h1,h2,h3,h4,h5⟩:=h
 intro x hx
 unfold jB at hx
 simp only [List.mem_append] at hx
 rcases hx with (((hx | hx) | hx) | hx) | hx
 ·exact b9 h1 x hx
 ·exact b9 h2 x hx
 ·exact b9 h3 x hx
 ·exact b9 h4 x hx
 ·exact b9 h5 x hx
theorem OI {s:yQ} (h:EJ s):j9 s:=⟨h.1,h.2.1,h.2.2.1,h.2.2.2.1,h.2.2.2.2⟩
theorem zCy {h:zT} (h0:qB h=0):uZ h.Domains h.Snaps=0∧h.Threads.length≤64∧∀ t∈h.Threads,cW t=0:=by
 unfold qB at h0
 split at h0
 ·omega
 split at h0
 ·omega
 cases hb:uB (thF h.Threads) 0 h.Threads with
 | inr q =>
  rw [hb] at h0
  simp only at h0
  exfalso
  have:∀ (m:List xH) (i:Nat),uB (thF h.Threads) i m=.inr q→q≠0:=by
   intro m
   induction m with
   | nil=>intro i h;cases h
   | cons a r ih =>
    intro i hf
    simp only [uB] at hf
    unfold thF at hf
    by_cases h1:cW a≠0
    ·rw [if_pos h1] at hf
     injection hf with hf
     omega
    ·rw [if_neg h1] at hf
     by_cases h2:a.Id∈(h.Threads.take i).map (·.Id)
     ·rw [if_pos h2] at hf
      injection hf with hf
      omega
     ·rw [if_neg h2] at hf
      exact ih _ hf
  exact this _ _ hb h0
 | inl u =>
  rw [hb] at h0
  simp only at h0
  have hn:=RR hb
  refine ⟨?_,by omega,fun t ht=>?_⟩
  ·split at h0
   ·omega
   ·rename_i hc;simpa using hc
  ·obtain ⟨i,hi⟩:=List.mem_iff_getElem?.1 ht
   have:=hn i t hi
   unfold thF at this
   split at this
   ·cases this
   ·rename_i hc;simpa using hc
theorem TW {h:zT} (ho:fH h) (h0:qB h=0):jJ h:=by
 obtain ⟨hc,ht,hth⟩:=zCy h0
 have:=LN hc
 exact ⟨ht,fun t hm=>Y9 (hth t hm),this.1,fun d hm=>ho.2.1.1 d hm,this.2,fun s hm=>OI (ho.2.2.1 s hm)⟩
theorem O0 {h:zT} (ho:fH h) (hl:jJ h):∀ x∈hdB h,xO x:=by
 have q1:=hl.nt;have q2:=hl.nd;have q3:=hl.ns
 intro x hx
 unfold hdB at hx
 simp only [List.mem_append] at hx
 rcases hx with ((((hx | hx) | hx) | hx) | hx) | hx
 ·exact GU (by omega) x hx
 ·refine M5 (fun t ht x hx=>?_) x hx
  unfold pI jZ at hx
  simp only [List.mem_append] at hx
  have k:=hl.t t ht
  rcases hx with (hx | (hx | hx)) | hx
  ·exact b9 k.1 x hx
  ·exact GU (by have:=k.2.1;omega) x hx
  ·exact (ho.1.1 t ht).2.1.1 x hx
  ·exact b9 k.2.2 x hx
 ·exact GU (by omega) x hx
 ·refine M5 (fun t ht x hx=>?_) x hx
  unfold nW at hx
  simp only [List.mem_append] at hx
  have k:=hl.d t ht
  rcases hx with hx | hx
  ·exact b9 k.1 x hx
  ·exact b9 k.2 x hx
 ·exact GU (by omega) x hx
 ·exact M5 (fun s hs=>MY (hl.s s hs)) x hx
def pA (d:z8) (h:zT):z8×Int :=
 if vU d≠0 then (zD,vU d) else if d.Data.length>0 then (zD,18) else if qB h≠0 then (zD,qB h) else dK d [y9 72 (hdB h)]
theorem OZ:xO 72:=⟨by decide,by decide⟩
theorem OP:xO 83:=⟨by decide,by decide⟩
theorem VN:xO 80:=⟨by decide,by decide⟩
theorem T2:xO 70:=⟨by decide,by decide⟩
theorem WI {h:zT} (hl:jJ h):ER [y9 72 (hdB h)]:=by
 have h1:=GE hl
 have h2:=(g9 72 (hdB h)).2
 exact ⟨by simp,fun b hb=>by rw [List.mem_singleton.1 hb];omega⟩
theorem XY {d:z8} {h:zT} (ho:fH h) (h1:h.Threads.length≤100000) (h2:h.Domains.length≤100000) (h3:h.Snaps.length≤100000):mJ 281474976710656 d h=some (pA d h):=by
 unfold mJ pA
 rw [B5,zbs]
 by_cases hc:vU d=0
 ·rw [x8 hc,cond_false,if_neg (by simpa using hc)]
  by_cases hd:d.Data.length>0
  ·rw [yU (by omega),cond_true,if_pos hd]
  ·rw [yO (by omega),cond_false,if_neg hd,OQ h1 h2 h3,zbs]
   by_cases hh:qB h=0
   ·have hl:=TW ho hh
    have:=GE hl
    rw [x8 hh,cond_false,if_neg (by simpa using hh),VB hl,zbs,EW OZ (O0 ho hl) (by omega),zbs,SS (WI hl),zbs]
   ·rw [wA hh,cond_true,if_pos hh]
 ·rw [wA hc,cond_true,if_pos hc]
/-! Open. -/
theorem QU {b:List Int} (hb:wI b):∃ E,cF E (vJ b).2.1∧fL 281474976710656 b=some ⟨⟨(vJ b).1,(vJ b).2.1,E,evN (vJ b).2.1⟩,(vJ b).2.2⟩:=by
 obtain ⟨r,h1,h2⟩:=OR hb
 unfold vJ
 cases hh:jC b with
 | none=>rw [hh] at h2;simp only at h2;subst h2;exact ⟨none,L3,h1⟩
 | some v =>
  obtain ⟨h,rest⟩:=v
  rw [hh] at h2
  obtain ⟨E,he,rfl⟩:=h2
  exact ⟨E,he,h1⟩
theorem zBQ {b:List Int} (hb:wI b):0≤(vJ b).2.2∧(vJ b).2.2≤b.length:=by
 unfold vJ
 cases hh:jC b with
 | none=>exact ⟨by simp,by simp⟩
 | some v =>
  obtain ⟨h,r⟩:=v
  have:=XG hb hh
  simp only;omega
def H0 (d:z8):z8×Int :=
 if vU d≠0 then (zD,vU d) else if d.Down=true then (d,19) else if (vJ d.Data).2.2=0 then (zD,10) else lT (lO d (vJ d.Data).2.2).1
theorem zDF {d:z8} {n:Int} (hc:vU d=0) (hd:d.Down=false) (h0:0≤n) (h1:n≤d.Data.length):(lO d n).2=0:=by
 unfold lO upD
 rw [if_neg (show ¬ vU d≠0 by simpa using hc),hd]
 simp only [Bool.false_eq_true,if_false]
 rw [if_neg (by decide),if_neg (by omega)]
theorem W0 {d:z8} (hb:wI d.Data):rM 281474976710656 d=some (H0 d):=by
 unfold rM H0
 rw [B5,zbs]
 by_cases hc:vU d=0
 ·rw [x8 hc,cond_false,if_neg (by simpa using hc)]
  cases hd:d.Down with
  | true=>rw [cond_true,if_pos rfl]
  | false =>
   obtain ⟨E,_,e⟩:=QU hb
   have hu:=zBQ hb
   rw [cond_false,if_neg (by decide),e,zbs]
   simp only
   by_cases h0:(vJ d.Data).2.2=0
   ·rw [uE h0,cond_true,if_pos h0]
   ·rw [tA h0,cond_false,if_neg h0,zBc,zbs,x8 (zDF hc hd hu.1 hu.2),cond_false,U8,zbs]
 ·rw [wA hc,cond_true,if_pos hc]
end Go.Ab
