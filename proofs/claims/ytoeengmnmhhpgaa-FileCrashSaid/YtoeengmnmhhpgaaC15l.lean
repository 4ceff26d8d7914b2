/- Plain laws of the functions wU this seat's, laid anew from another seat's text. No conditions but those that the theorems name. -/
import Derived.Test.YtoeengmnmhhpgaaP15xD
import Derived.Test.YtoeengmnmhhpgaaR15
import Derived.Test.YtoeengmnmhhpgaaB15a
import Derived.Test.YtoeengmnmhhpgaaB15b
import Derived.Test.YtoeengmnmhhpgaaB15c
import Derived.Test.YtoeengmnmhhpgaaB15d
import Derived.Test.YtoeengmnmhhpgaaB15e
import Derived.Test.YtoeengmnmhhpgaaB15f
import Derived.Test.YtoeengmnmhhpgaaB15g
import Derived.Test.YtoeengmnmhhpgaaB15h
import Derived.Test.YtoeengmnmhhpgaaB15i
import Derived.Test.YtoeengmnmhhpgaaB15j
import Derived.Test.YtoeengmnmhhpgaaB15k
import Derived.Test.YtoeengmnmhhpgaaB15t
import Derived.Test.YtoeengmnmhhpgaaB15m
import Derived.Test.YtoeengmnmhhpgaaB15n
import Derived.Test.YtoeengmnmhhpgaaB15o
import Derived.Test.YtoeengmnmhhpgaaC15a
import Derived.Test.YtoeengmnmhhpgaaC15b
import Derived.Test.YtoeengmnmhhpgaaC15c
import Derived.Test.YtoeengmnmhhpgaaC15d
import Derived.Test.YtoeengmnmhhpgaaC15e
import Derived.Test.YtoeengmnmhhpgaaC15f
import Derived.Test.YtoeengmnmhhpgaaC15g
import Derived.Test.YtoeengmnmhhpgaaC15h
import Derived.Test.YtoeengmnmhhpgaaC15i
import Derived.Test.YtoeengmnmhhpgaaC15j
import Derived.Test.YtoeengmnmhhpgaaC15k
namespace Go.Ab
open Go
set_option linter.unusedVariables false
theorem RC {d:List y0}:∀ (l:List yQ) (i:Nat),uz (uB (snF d) i l)=0↔∀ x∈l,bR d x=0
 | [],i=>by simp [uB,uz]
 | a::r,i=>by
  simp only [uB,List.mem_cons,forall_eq_or_imp]
  unfold snF
  by_cases h:bR d a=0
  ·rw [if_neg (by simpa using h)]
   simp only [h,true_and]
   exact RC r (i+1)
  ·rw [if_pos h]
   simp only [uz,h,false_and]
theorem Z2 {d:List y0} {l:List yQ}:uZ d l=0↔(d.length≠0∧d.length≤8∧d[0]?=some ⟨0,0⟩∧i7 d=0)∧l.length≤200∧∀ x∈l,bR d x=0:=by
 unfold uZ
 by_cases h1:d.length=0
 ·rw [if_pos h1]
  exact ⟨fun h=>by omega,fun h=>absurd h1 h.1.1⟩
 rw [if_neg h1]
 by_cases h2:d.length>8∨l.length>200
 ·rw [if_pos h2]
  exact ⟨fun h=>by omega,fun h=>by omega⟩
 rw [if_neg h2]
 by_cases h3:d[0]?≠some ⟨0,0⟩
 ·rw [if_pos h3]
  exact ⟨fun h=>by omega,fun h=>absurd h.1.2.2.1 h3⟩
 rw [if_neg h3]
 by_cases h4:i7 d≠0
 ·rw [if_pos h4]
  exact ⟨fun h=>absurd h h4,fun h=>absurd h.1.2.2.2 h4⟩
 rw [if_neg h4,RC]
 exact ⟨fun h=>⟨⟨h1,by omega,by simpa using h3,by simpa using h4⟩,by omega,h⟩,fun h=>h.2.2⟩
theorem XA {d:List y0} {l m:List yQ} (h:uZ d (l++m)=0):uZ d l=0:=by
 rw [Z2] at *
 obtain ⟨h1,h2,h3⟩:=h
 rw [zla] at h2
 exact ⟨h1,by omega,fun x hx=>h3 x (by simp [hx])⟩
theorem U6 {h:zT}:∀ (m n:Nat) (st:RdS) (b:List Int),wI b→b.length≤m→b.length≤n→t6 h m st b=t6 h n st b
 | 0,0,_,_,_,_,_=>rfl
 | 0,n+1,st,b,_,hm,_=>by
  have:b=[]:=List.length_eq_zero_iff.1 (by omega)
  subst this;rfl
 | m+1,0,st,b,_,_,hn=>by
  have:b=[]:=List.length_eq_zero_iff.1 (by omega)
  subst this;rfl
 | m+1,n+1,st,b,hb,hm,hn=>by
  unfold t6
  cases hc:tF b with
  | none=>rfl
  | some v =>
   obtain ⟨k,body,r⟩:=v
   obtain ⟨q1,q2,q3,q4⟩:=d9 hb hc
   simp only
   cases hs:qR h st k body (st.pos+((b.length:Int) - r.length)) with
   | none=>rfl
   | some st'=>exact U6 m n st' r q2 (by omega) (by omega)
def run (h:zT) (st:RdS) (b:List Int):RdS:=t6 h b.length st b
theorem EP {h:zT} {st:RdS} {b:List Int} (hc:tF b=none):run h st b=st:=by
 unfold run
 cases hb:b.length with
 | zero=>rfl
 | succ n=>unfold t6;rw [hc]
theorem HZ {h:zT} {st st':RdS} {b body r:List Int} {k:Int} (hb:wI b) (hc:tF b=some (k,body,r)) (hs:qR h st k body (st.pos+((b.length:Int) - r.length))=some st'):run h st b=run h st' r:=by
 obtain ⟨q1,q2,q3,q4⟩:=d9 hb hc
 unfold run
 obtain ⟨n,hn⟩:∃ n,b.length=n+1:=⟨b.length - 1,by omega⟩
 rw [hn,show t6 h (n+1) st b=(match tF b with
  | none=>st
  | some (k,body,r)=>match qR h st k body (st.pos+((b.length:Int) - r.length)) with
   | none=>st
   | some st'=>t6 h n st' r) from rfl,hc]
 simp only
 rw [hs]
 exact U6 n r.length st' r q2 (by omega) (Nat.le_refl _)
theorem cC {a b:List Int} (h:wI (a++b)):wI b:=⟨fun x hx=>h.1 x (by simp [hx]),by have:=h.2;rw [zla] at this;omega⟩
theorem VW {h:zT} {st:RdS} {x:yQ} {pos:Int} (hst:st.stage≤1) (ho:j9 x) (hcl:uZ h.Domains (st.cs++[x])=0):qR h st 83 (jB x) pos=some { st with cs:=st.cs++[x],stage:=1,pos:=pos }:=by
 have hps:pM (jB x)=some (x,[]):=by have:=NJ.back x [] ho;rwa [List.append_nil] at this
 unfold qR
 rw [if_pos (show (83:Int)=83 from rfl),if_pos hst,hps]
 exact if_pos hcl
theorem SH {h:zT}:∀ (s:List yQ) (st:RdS) (r:List Int),wI ((s.map snC).flatten++r)→(∀ x∈s,j9 x)→uZ h.Domains (st.cs++s)=0→st.stage≤1 →
  run h st ((s.map snC).flatten++r)=run h ⟨st.snaps,st.packs,st.used,st.cs++s,st.cp,st.pos+((s.map snC).flatten).length,if s=[] then st.stage else 1⟩ r
 | [],st,r,_,_,_,_=>by simp
 | x::s,st,r,hb,ho,hc,hst=>by
  have hx:=fV x
  have e:((x::s).map snC).flatten++r=snC x++((s.map snC).flatten++r):=by simp
  have el:((x::s).map snC).flatten.length=(snC x).length+((s.map snC).flatten).length:=by simp
  rw [e] at hb ⊢
  rw [el]
  have hp:tF (snC x++((s.map snC).flatten++r))=some (83,jB x,(s.map snC).flatten++r):=BF (by omega)
  have hcl:uZ h.Domains (st.cs++[x])=0:=XA (m:=s) (by rw [List.append_assoc];exact hc)
  rw [HZ hb hp (VW hst (ho x (by simp)) hcl),SH s _ r (cC hb) (fun y hy=>ho y (by simp [hy])) (by simp only;rw [List.append_assoc];exact hc) (by simp)]
  generalize snC x=c
  generalize (s.map snC).flatten=d
  simp only [List.append_assoc,List.singleton_append,zla]
  rw [show st.pos+(((c.length+(d.length+r.length):Nat):Int) - ((d.length+r.length:Nat):Int))+(d.length:Int)=st.pos+((c.length+d.length:Nat):Int) by omega]
  by_cases hn:s=[]<;>simp [hn]
theorem zEF {h:zT} {st:RdS} {p:zQ} {pos:Int} (h1:p.Thread∈pV h) (h2:aT st.cp p=true) (h3:(vP p).2=0) (h4:evN st.cp+p.Events.length≤20000):qR h st 80 (vP p).1 pos=some { st with cp:=st.cp++[p],stage:=2,pos:=pos }:=by
 have hd:uW (vP p).1=(p,((vP p).1.length:Int),0):=by have:=ZE (more:=[]) h3;rwa [List.append_nil] at this
 unfold qR
 rw [if_neg (show ¬ (80:Int)=83 by decide),if_pos (show (80:Int)=80 from rfl),if_pos (show HJ h st.cp (vP p).1 by unfold HJ;rw [hd];exact ⟨rfl,rfl,h1,h2,h4⟩),hd]
theorem WW {h:zT} {l l':List zQ} {p:zQ} {q:List zQ} (ha:apS h l (p::q)=.inl l'):u3 p=0∧p.Thread∈pV h∧aT l p=true∧(vP p).2=0∧apS h (l++[p]) q=.inl l':=by
 unfold apS at ha
 split at ha
 ·cases ha
 rename_i k1
 split at ha
 ·cases ha
 rename_i k2
 split at ha
 ·cases ha
 rename_i k3
 split at ha
 ·cases ha
 rename_i k4
 exact ⟨by simpa using k1,by simpa using k2,by simpa using k3,by simpa using k4,ha⟩
theorem R6 {h:zT}:∀ (q:List zQ) (st:RdS) (r:List Int) (l':List zQ),wI ((q.map pkC).flatten++r)→(∀ p∈q,p.Events.length≤60)→apS h st.cp q=.inl l'→evN l'≤20000 →
  run h st ((q.map pkC).flatten++r)=run h ⟨st.snaps,st.packs,st.used,st.cs,l',st.pos+((q.map pkC).flatten).length,if q=[] then st.stage else 2⟩ r
 | [],st,r,l',_,_,ha,_=>by
  unfold apS at ha
  injection ha with ha;subst ha
  simp
 | p::q,st,r,l',hb,ho,ha,hev=>by
  have hp60:=ho p (by simp)
  have hx:=BH hp60
  have e:((p::q).map pkC).flatten++r=pkC p++((q.map pkC).flatten++r):=by simp
  have el:((p::q).map pkC).flatten.length=(pkC p).length+((q.map pkC).flatten).length:=by simp
  obtain ⟨k1,k2,k3,k4,k5⟩:=WW ha
  have hg:=(LO k5).1
  have hevp:evN st.cp+p.Events.length≤20000:=by
   rw [hg,VQ,oY] at hev;omega
  rw [e] at hb ⊢
  rw [el]
  have hp:tF (pkC p++((q.map pkC).flatten++r))=some (80,(vP p).1,(q.map pkC).flatten++r):=BF (by omega)
  rw [HZ hb hp (zEF k2 k3 k4 hevp),R6 q _ r l' (cC hb) (fun y hy=>ho y (by simp [hy])) k5 hev]
  generalize pkC p=c
  generalize (q.map pkC).flatten=d
  simp only [zla]
  rw [show st.pos+(((c.length+(d.length+r.length):Nat):Int) - ((d.length+r.length:Nat):Int))+(d.length:Int)=st.pos+((c.length+d.length:Nat):Int) by omega]
  by_cases hn:q=[]<;>simp [hn]
theorem TB {h:zT} {s:List yQ} {q:List zQ} {S:List yQ} {P l':List zQ} {z:Int} {r:List Int} (hb:wI ((flC s q).flatten++r)) (hs:∀ x∈s,j9 x) (hc:uZ h.Domains (S++s)=0) (hq:∀ p∈q,p.Events.length≤60) (ha:apS h P q=.inl l') (hev:evN l'≤20000) (hne:s.length+q.length≠0) :
  run h ⟨S,P,z,S,P,z,0⟩ ((flC s q).flatten++r)=run h ⟨S++s,l',z+((flC s q).flatten).length,S++s,l',z+((flC s q).flatten).length,0⟩ r:=by
 have e:(flC s q).flatten++r=(s.map snC).flatten++((q.map pkC).flatten++(y9 70 []++r)):=by simp [flC]
 have el:(flC s q).flatten.length=(s.map snC).flatten.length+((q.map pkC).flatten.length+(y9 70 []).length):=by simp [flC]
 rw [e] at hb ⊢
 rw [el,SH s _ _ hb hs hc (by simp),R6 q _ _ l' (cC hb) hq ha hev]
 have hp:tF (y9 70 []++r)=some (70,[],r):=BF (by simp)
 have hb3:=cC (cC hb)
 generalize hA:(s.map snC).flatten=A
 generalize hB:(q.map pkC).flatten=B
 generalize hC:y9 70 []=C at *
 have hst:¬ (if q=[] then (if s=[] then 0 else 1) else 2)=0:=by
  by_cases h1:q=[]
  ·rw [if_pos h1]
   by_cases h2:s=[]
   ·subst h1;subst h2;exact absurd rfl hne
   ·rw [if_neg h2];omega
  ·rw [if_neg h1];omega
 have hstep:∀ pos,qR h ⟨S,P,z,S++s,l',z+(A.length:Int)+(B.length:Int),if q=[] then (if s=[] then 0 else 1) else 2⟩ 70 [] pos=some ⟨S++s,l',pos,S++s,l',pos,0⟩:=by
  intro pos
  unfold qR
  rw [if_neg (show ¬ (70:Int)=83 by decide),if_neg (show ¬ (70:Int)=80 by decide),if_pos (show (70:Int)=70 from rfl),if_pos ⟨rfl,hst⟩]
 rw [HZ hb3 hp (hstep _)]
 simp only [zla]
 rw [show z+(A.length:Int)+(B.length:Int)+(((C.length+r.length:Nat):Int) - (r.length:Int))=z+((A.length+(B.length+C.length):Nat):Int) by omega]
theorem WR {h:zT} {st:RdS} {b body r:List Int} {k:Int} (hb:wI b) (hc:tF b=some (k,body,r)) (hs:qR h st k body (st.pos+((b.length:Int) - r.length))=none):run h st b=st:=by
 obtain ⟨q1,q2,q3,q4⟩:=d9 hb hc
 unfold run
 obtain ⟨n,hn⟩:∃ n,b.length=n+1:=⟨b.length - 1,by omega⟩
 rw [hn,show t6 h (n+1) st b=(match tF b with
  | none=>st
  | some (k,body,r)=>match qR h st k body (st.pos+((b.length:Int) - r.length)) with
   | none=>st
   | some st'=>t6 h n st' r) from rfl,hc]
 simp only
 rw [hs]
def b8 (st:RdS):List yQ×List zQ×Int:=(st.snaps,st.packs,st.used)
theorem XT {h:zT} {st st':RdS} {k pos:Int} {body:List Int} (hk:k≠70) (hs:qR h st k body pos=some st'):b8 st'=b8 st:=by
 unfold qR at hs
 split at hs
 ·split at hs
  ·split at hs
   ·split at hs
    ·injection hs with hs;subst hs;rfl
    ·cases hs
   ·cases hs
  ·cases hs
 ·split at hs
  ·split at hs
   ·injection hs with hs;subst hs;rfl
   ·cases hs
  ·cases hs
theorem HR {b:List Int} (h:wI b) (j:Nat):wI (b.take j):=⟨fun x hx=>h.1 x (List.mem_of_mem_take hx),by have:=h.2;rw [List.length_take];omega⟩
theorem SG {h:zT}:∀ (L:List (Int×List Int)) (st:RdS) (j:Nat),(∀ c∈L,c.1≠70∧c.2.length≤100000)→wI ((L.map fun c=>y9 c.1 c.2).flatten++y9 70 [])→j<((L.map fun c=>y9 c.1 c.2).flatten++y9 70 []).length →
  b8 (run h st (((L.map fun c=>y9 c.1 c.2).flatten++y9 70 []).take j))=b8 st
 | [],st,j,_,_,hj=>by
  simp only [List.map_nil,List.flatten_nil,List.nil_append] at hj ⊢
  rw [EP (SL (by simp) hj)]
 | c::L,st,j,hL,hb,hj=>by
  have hc:=hL c (by simp)
  simp only [List.map_cons,List.flatten_cons,List.append_assoc] at hb hj ⊢
  by_cases h1:j<(y9 c.1 c.2).length
  ·rw [List.take_append_of_le_length (by omega),EP (SL hc.2 h1)]
  ·have hb2:=HR hb j
   rw [List.take_append,List.take_of_length_le (by omega)] at hb2 ⊢
   have hp:tF (y9 c.1 c.2++((L.map fun c=>y9 c.1 c.2).flatten++y9 70 []).take (j - (y9 c.1 c.2).length))=some (c.1,c.2,((L.map fun c=>y9 c.1 c.2).flatten++y9 70 []).take (j - (y9 c.1 c.2).length)):=BF hc.2
   cases hs:qR h st c.1 c.2 (st.pos+(((y9 c.1 c.2++((L.map fun c=>y9 c.1 c.2).flatten++y9 70 []).take (j - (y9 c.1 c.2).length)).length:Int) - (((L.map fun c=>y9 c.1 c.2).flatten++y9 70 []).take (j - (y9 c.1 c.2).length)).length)) with
   | none=>rw [WR hb2 hp hs]
   | some st' =>
    rw [HZ hb2 hp hs,SG L st' _ (fun c' h'=>hL c' (by simp [h'])) (cC hb) (by rw [zla] at hj;omega),XT hc.1 hs]
theorem zAg {h:zT} {st:RdS} {s:List yQ} {q:List zQ} {j:Nat} (hq:∀ p∈q,p.Events.length≤60) (hb:wI (flC s q).flatten) (hj:j<(flC s q).flatten.length):b8 (run h st ((flC s q).flatten.take j))=b8 st:=by
 have e:(flC s q).flatten=(((s.map fun x=>((83:Int),jB x))++q.map fun p=>((80:Int),(vP p).1)).map fun c=>y9 c.1 c.2).flatten++y9 70 []:=by
  simp only [flC,List.map_append,List.map_map,List.flatten_append,List.flatten_cons,List.flatten_nil,List.append_nil]
  rfl
 rw [e] at hb hj ⊢
 refine SG _ st j (fun c hc=>?_) hb hj
 simp only [List.mem_append,List.mem_map] at hc
 rcases hc with ⟨x,_,rfl⟩ | ⟨p,hp,rfl⟩
 ·have:=fV x
  exact ⟨show (83:Int)≠70 by decide,by simp only;omega⟩
 ·have:=BH (hq p hp)
  exact ⟨show (80:Int)≠70 by decide,by simp only;omega⟩
end Go.Ab
