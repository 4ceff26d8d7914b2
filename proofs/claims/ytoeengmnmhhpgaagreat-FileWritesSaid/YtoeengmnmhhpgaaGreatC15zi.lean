/- Plain laws of the functions uS this seat's, laid anew from another seat's text. No conditions but those that the theorems name. -/
import Derived.Test.YtoeengmnmhhpgaaGreatP15zxD
import Derived.Test.YtoeengmnmhhpgaaGreatR15z
import Derived.Test.YtoeengmnmhhpgaaGreatB15za
import Derived.Test.YtoeengmnmhhpgaaGreatB15zb
import Derived.Test.YtoeengmnmhhpgaaGreatB15zc
import Derived.Test.YtoeengmnmhhpgaaGreatB15zd
import Derived.Test.YtoeengmnmhhpgaaGreatB15ze
import Derived.Test.YtoeengmnmhhpgaaGreatB15zf
import Derived.Test.YtoeengmnmhhpgaaGreatB15zg
import Derived.Test.YtoeengmnmhhpgaaGreatB15zh
import Derived.Test.YtoeengmnmhhpgaaGreatB15zi
import Derived.Test.YtoeengmnmhhpgaaGreatB15zj
import Derived.Test.YtoeengmnmhhpgaaGreatB15zk
import Derived.Test.YtoeengmnmhhpgaaGreatB15zt
import Derived.Test.YtoeengmnmhhpgaaGreatB15zm
import Derived.Test.YtoeengmnmhhpgaaGreatB15zn
import Derived.Test.YtoeengmnmhhpgaaGreatB15zo
import Derived.Test.YtoeengmnmhhpgaaGreatC15za
import Derived.Test.YtoeengmnmhhpgaaGreatC15zb
import Derived.Test.YtoeengmnmhhpgaaGreatC15zc
import Derived.Test.YtoeengmnmhhpgaaGreatC15zd
import Derived.Test.YtoeengmnmhhpgaaGreatC15ze
import Derived.Test.YtoeengmnmhhpgaaGreatC15zf
import Derived.Test.YtoeengmnmhhpgaaGreatC15zg
import Derived.Test.YtoeengmnmhhpgaaGreatC15zh
namespace Go.Ab
open Go
set_option linter.unusedVariables false
theorem cH {n:Int} (h:xM n):∀ x∈vF n,xY x:=SU h
theorem MN {n:Nat} (h:n<=1000000):∀ x∈vF (n:Int),xY x:=cH ⟨by omega,by omega⟩
theorem QX {α:Type} {f:α->List Int} {l:List α} (h:∀ a∈l,∀ x∈f a,xY x):∀ x∈l.flatMap f,xY x:=by
 intro x hx;obtain ⟨a,ha,hxa⟩:=List.mem_flatMap.1 hx;exact h a ha x hxa
theorem Q3 {s:yZ} (h:aN s):∀ x∈kP s,xY x:=by
 obtain ⟨h1,h2,h3,h4,h5⟩:=h;intro x hx;unfold kP at hx;simp only [List.mem_append] at hx;rcases hx with (((hx | hx) | hx) | hx) | hx
 ·exact cH h1 x hx
 ·exact cH h2 x hx
 ·exact cH h3 x hx
 ·exact cH h4 x hx
 ·exact cH h5 x hx
theorem ZH {s:yZ} (h:MI s):aN s:=⟨h.1,h.2.1,h.2.2.1,h.2.2.2.1,h.2.2.2.2⟩
theorem YQ {h:yB} (h0:pC h=0):tV h.Domains h.Snaps=0/\h.Threads.length<=64/\∀ t∈h.Threads,bL t=0:=by
 unfold pC at h0
 split at h0
 ·omega
 split at h0
 ·omega
 cases hb:uR (thF h.Threads) 0 h.Threads with
 | inr q =>
  rw [hb] at h0;simp only at h0
  exfalso
  have:∀ (m:List xI) (i:Nat),uR (thF h.Threads) i m=.inr q->q≠0:=by
   intro m
   induction m with
   | nil=>intro i h;cases h
   | cons a r ih =>
    intro i hf;simp only [uR] at hf;unfold thF at hf
    by_cases h1:bL a≠0
    ·rw [if_pos h1] at hf;injection hf with hf;omega
    ·rw [if_neg h1] at hf
     by_cases h2:a.Id∈(h.Threads.take i).map (·.Id)
     ·rw [if_pos h2] at hf;injection hf with hf;omega
     ·rw [if_neg h2] at hf;exact ih _ hf
  exact this _ _ hb h0
 | inl u =>
  rw [hb] at h0;simp only at h0;have hn:=W4 hb;refine ⟨?_,by omega,fun t ht=>?_⟩
  ·split at h0
   ·omega
   ·rename_i hc;simpa using hc
  ·obtain ⟨i,hi⟩:=List.mem_iff_getElem?.1 ht
   have:=hn i t hi
   unfold thF at this
   split at this
   ·cases this
   ·rename_i hc;simpa using hc
theorem zAR {h:yB} (ho:iO h) (h0:pC h=0):nY h:=by
 obtain ⟨hc,ht,hth⟩:=YQ h0
 have:=NN hc
 exact ⟨ht,fun t hm=>zCV (hth t hm),this.1,fun d hm=>ho.2.1.1 d hm,this.2,fun s hm=>ZH (ho.2.2.1 s hm)⟩
theorem XK {h:yB} (ho:iO h) (hl:nY h):∀ x∈hdB h,xY x:=by
 have q1:=hl.nt;have q2:=hl.nd;have q3:=hl.ns;intro x hx;unfold hdB at hx;simp only [List.mem_append] at hx;rcases hx with ((((hx | hx) | hx) | hx) | hx) | hx
 ·exact MN (by omega) x hx
 ·refine QX (fun t ht x hx=>?_) x hx;unfold jW aM at hx;simp only [List.mem_append] at hx;have k:=hl.t t ht;rcases hx with (hx | (hx | hx)) | hx
  ·exact cH k.1 x hx
  ·exact MN (by have:=k.2.1;omega) x hx
  ·exact (ho.1.1 t ht).2.1.1 x hx
  ·exact cH k.2.2 x hx
 ·exact MN (by omega) x hx
 ·refine QX (fun t ht x hx=>?_) x hx;unfold k9 at hx;simp only [List.mem_append] at hx;have k:=hl.d t ht;rcases hx with hx | hx
  ·exact cH k.1 x hx
  ·exact cH k.2 x hx
 ·exact MN (by omega) x hx
 ·exact QX (fun s hs=>Q3 (hl.s s hs)) x hx
def M7 (d:yD) (h:yB):yD×Int :=
 if jA d≠0 then (zD,jA d) else if d.Data.length>0 then (zD,18) else if pC h≠0 then (zD,pC h) else BK d [kO 72 (hdB h)]
theorem WG:xY 72:=⟨by decide,by decide⟩
theorem X7:xY 83:=⟨by decide,by decide⟩
theorem V3:xY 80:=⟨by decide,by decide⟩
theorem zAQ:xY 70:=⟨by decide,by decide⟩
theorem zBc {h:yB} (hl:nY h):BS [kO 72 (hdB h)]:=by
 have h1:=RV hl;have h2:=(HA 72 (hdB h)).2;exact ⟨by simp,fun b hb=>by rw [List.mem_singleton.1 hb];omega⟩
theorem zCp {d:yD} {h:yB} (ho:iO h) (h1:h.Threads.length<=100000) (h2:h.Domains.length<=100000) (h3:h.Snaps.length<=100000):BH 281474976710656 d h=some (M7 d h):=by
 unfold BH M7;rw [KJ,zbs]
 by_cases hc:jA d=0
 ·rw [x7 hc,cond_false,if_neg (by simpa using hc)]
  by_cases hd:d.Data.length>0
  ·rw [yN (by omega),cond_true,if_pos hd]
  ·rw [yP (by omega),cond_false,if_neg hd,W7 h1 h2 h3,zbs]
   by_cases hh:pC h=0
   ·have hl:=zAR ho hh
    have:=RV hl
    rw [x7 hh,cond_false,if_neg (by simpa using hh),ZK hl,zbs,LL WG (XK ho hl) (by omega),zbs,VB (zBc hl),zbs]
   ·rw [xX hh,cond_true,if_pos hh]
 ·rw [xX hc,cond_true,if_pos hc]
theorem zIq {d:yD} {h:yB} (ho:iO h) (h1:h.Threads.length<=100000) (h2:h.Domains.length<=100000) (h3:h.Snaps.length<=100000):KW 281474976710656 d h=some (M7 d h):=by
 unfold KW M7;rw [N7,zbs]
 by_cases hc:jA d=0
 ·rw [x7 hc,cond_false,if_neg (by simpa using hc)]
  by_cases hd:d.Data.length>0
  ·rw [yN (by omega),cond_true,if_pos hd]
  ·rw [yP (by omega),cond_false,if_neg hd,ZC h1 h2 h3,zbs]
   by_cases hh:pC h=0
   ·have hl:=zAR ho hh
    have:=RV hl
    rw [x7 hh,cond_false,if_neg (by simpa using hh),zBo hl,zbs,NP WG (XK ho hl) (by omega),zbs,ZD (zBc hl),zbs]
   ·rw [xX hh,cond_true,if_pos hh]
 ·rw [xX hc,cond_true,if_pos hc]
/-! Open. -/
theorem ZA {b:List Int} (hb:vN b):∃ E,cN E (vW b).2.1/\iU 281474976710656 b=some ⟨⟨(vW b).1,(vW b).2.1,E,evN (vW b).2.1⟩,(vW b).2.2⟩:=by
 obtain ⟨r,h1,h2⟩:=zDA hb;unfold vW;cases hh:jR b with
 | none=>rw [hh] at h2;simp only at h2;subst h2;exact ⟨none,TX,h1⟩
 | some v =>
  obtain ⟨h,rest⟩:=v;rw [hh] at h2;obtain ⟨E,he,rfl⟩:=h2;exact ⟨E,he,h1⟩
theorem zHG {b:List Int} (hb:vN b):0<=(vW b).2.2/\(vW b).2.2<=b.length:=by
 unfold vW;cases hh:jR b with
 | none=>exact ⟨by simp,by simp⟩
 | some v =>
  obtain ⟨h,r⟩:=v
  have:=zDa hb hh
  simp only;omega
def OU (d:yD):yD×Int :=
 if jA d≠0 then (zD,jA d) else if d.Down=true then (d,19) else if (vW d.Data).2.2=0 then (zD,10) else AK (rC d (vW d.Data).2.2).1
theorem zIC {d:yD} {n:Int} (hc:jA d=0) (hd:d.Down=false) (h0:0<=n) (h1:n<=d.Data.length):(rC d n).2=0:=by
 unfold rC upD;rw [if_neg (show ¬ jA d≠0 by simpa using hc),hd];simp only [Bool.false_eq_true,if_false];rw [if_neg (by decide),if_neg (by omega)]
theorem zCX {d:yD} (hb:vN d.Data):B5 281474976710656 d=some (OU d):=by
 unfold B5 OU;rw [KJ,zbs]
 by_cases hc:jA d=0
 ·rw [x7 hc,cond_false,if_neg (by simpa using hc)];cases hd:d.Down with
  | true=>rw [cond_true,if_pos rfl]
  | false =>
   obtain ⟨E,_,e⟩:=ZA hb;have hu:=zHG hb;rw [cond_false,if_neg (by decide),e,zbs];simp only
   by_cases h0:(vW d.Data).2.2=0
   ·rw [u9 h0,cond_true,if_pos h0]
   ·rw [uK h0,cond_false,if_neg h0,zEO,zbs,x7 (zIC hc hd hu.1 hu.2),cond_false,Y5,zbs]
 ·rw [xX hc,cond_true,if_pos hc]
theorem zBh {d:yD} (hb:vN d.Data):JG 281474976710656 d=some (OU d):=by
 unfold JG OU;rw [N7,zbs]
 by_cases hc:jA d=0
 ·rw [x7 hc,cond_false,if_neg (by simpa using hc)];cases hd:d.Down with
  | true=>rw [cond_true,if_pos rfl]
  | false =>
   rw [cond_false,if_neg (by decide),WY hb,zbs]
   by_cases h0:(vW d.Data).2.2=0
   ·rw [u9 h0,cond_true,if_pos h0]
   ·rw [uK h0,cond_false,if_neg h0,zFJ,zbs,VW,zbs]
 ·rw [xX hc,cond_true,if_pos hc]
end Go.Ab
