/- Plain laws of the functions w6 this seat's, laid anew from another seat's text. No conditions but those that the theorems name. -/
import Derived.Test.YtoeengmnmhhpgaaP15xD
import Derived.Test.YtoeengmnmhhpgaaR15
import Derived.Test.YtoeengmnmhhpgaaB15a
import Derived.Test.YtoeengmnmhhpgaaB15b
import Derived.Test.YtoeengmnmhhpgaaB15c
import Derived.Test.YtoeengmnmhhpgaaB15d
import Derived.Test.YtoeengmnmhhpgaaB15e
import Derived.Test.YtoeengmnmhhpgaaB15f
import Derived.Test.YtoeengmnmhhpgaaB15g
import Derived.Test.YtoeengmnmhhpgaaB15h
import Derived.Test.YtoeengmnmhhpgaaB15i
import Derived.Test.YtoeengmnmhhpgaaB15j
import Derived.Test.YtoeengmnmhhpgaaB15k
import Derived.Test.YtoeengmnmhhpgaaB15t
import Derived.Test.YtoeengmnmhhpgaaB15m
import Derived.Test.YtoeengmnmhhpgaaB15n
import Derived.Test.YtoeengmnmhhpgaaB15o
import Derived.Test.YtoeengmnmhhpgaaC15a
import Derived.Test.YtoeengmnmhhpgaaC15b
import Derived.Test.YtoeengmnmhhpgaaC15c
import Derived.Test.YtoeengmnmhhpgaaC15d
import Derived.Test.YtoeengmnmhhpgaaC15e
import Derived.Test.YtoeengmnmhhpgaaC15f
import Derived.Test.YtoeengmnmhhpgaaC15g
import Derived.Test.YtoeengmnmhhpgaaC15h
import Derived.Test.YtoeengmnmhhpgaaC15i
import Derived.Test.YtoeengmnmhhpgaaC15j
import Derived.Test.YtoeengmnmhhpgaaC15k
namespace Go.Ab
open Go
set_option linter.unusedVariables false
theorem UF {d:List y7}:∀ (l:List yP) (i:Nat),uz (uR (snF d) i l)=0↔∀ x∈l,dX d x=0
 | [],i=>by simp [uR,uz]
 | a::r,i=>by
  simp only [uR,List.mem_cons,forall_eq_or_imp]
  unfold snF
  by_cases h:dX d a=0
  ·rw [if_neg (by simpa using h)]
   simp only [h,true_and]
   exact UF r (i+1)
  ·rw [if_pos h]
   simp only [uz,h,false_and]
theorem WG {d:List y7} {l:List yP}:tJ d l=0↔(d.length≠0∧d.length≤8∧d[0]?=some ⟨0,0⟩∧fU d=0)∧l.length≤200∧∀ x∈l,dX d x=0:=by
 unfold tJ
 by_cases h1:d.length=0
 ·rw [if_pos h1]
  exact ⟨fun h=>by omega,fun h=>absurd h1 h.1.1⟩
 rw [if_neg h1]
 by_cases h2:d.length>8∨l.length>200
 ·rw [if_pos h2]
  exact ⟨fun h=>by omega,fun h=>by omega⟩
 rw [if_neg h2]
 by_cases h3:d[0]?≠some ⟨0,0⟩
 ·rw [if_pos h3]
  exact ⟨fun h=>by omega,fun h=>absurd h.1.2.2.1 h3⟩
 rw [if_neg h3]
 by_cases h4:fU d≠0
 ·rw [if_pos h4]
  exact ⟨fun h=>absurd h h4,fun h=>absurd h.1.2.2.2 h4⟩
 rw [if_neg h4,UF]
 exact ⟨fun h=>⟨⟨h1,by omega,by simpa using h3,by simpa using h4⟩,by omega,h⟩,fun h=>h.2.2⟩
theorem VX {d:List y7} {l m:List yP} (h:tJ d (l++m)=0):tJ d l=0:=by
 rw [WG] at *
 obtain ⟨h1,h2,h3⟩:=h
 rw [zla] at h2
 exact ⟨h1,by omega,fun x hx=>h3 x (by simp [hx])⟩
theorem TK {h:zU}:∀ (m n:Nat) (st:RdS) (b:List Int),wM b→b.length≤m→b.length≤n→jM h m st b=jM h n st b
 | 0,0,_,_,_,_,_=>rfl
 | 0,n+1,st,b,_,hm,_=>by
  have:b=[]:=List.length_eq_zero_iff.1 (by omega)
  subst this;rfl
 | m+1,0,st,b,_,_,hn=>by
  have:b=[]:=List.length_eq_zero_iff.1 (by omega)
  subst this;rfl
 | m+1,n+1,st,b,hb,hm,hn=>by
  unfold jM
  cases hc:tZ b with
  | none=>rfl
  | some v =>
   obtain ⟨k,body,r⟩:=v
   obtain ⟨q1,q2,q3,q4⟩:=lB hb hc
   simp only
   cases hs:jX h st k body (st.pos+((b.length:Int) - r.length)) with
   | none=>rfl
   | some st'=>exact TK m n st' r q2 (by omega) (by omega)
def run (h:zU) (st:RdS) (b:List Int):RdS:=jM h b.length st b
theorem H8 {h:zU} {st:RdS} {b:List Int} (hc:tZ b=none):run h st b=st:=by
 unfold run
 cases hb:b.length with
 | zero=>rfl
 | succ n=>unfold jM;rw [hc]
theorem HV {h:zU} {st st':RdS} {b body r:List Int} {k:Int} (hb:wM b) (hc:tZ b=some (k,body,r)) (hs:jX h st k body (st.pos+((b.length:Int) - r.length))=some st'):run h st b=run h st' r:=by
 obtain ⟨q1,q2,q3,q4⟩:=lB hb hc
 unfold run
 obtain ⟨n,hn⟩:∃ n,b.length=n+1:=⟨b.length - 1,by omega⟩
 rw [hn,show jM h (n+1) st b=(match tZ b with
  | none=>st
  | some (k,body,r)=>match jX h st k body (st.pos+((b.length:Int) - r.length)) with
   | none=>st
   | some st'=>jM h n st' r) from rfl,hc]
 simp only
 rw [hs]
 exact TK n r.length st' r q2 (by omega) (Nat.le_refl _)
theorem bX {a b:List Int} (h:wM (a++b)):wM b:=⟨fun x hx=>h.1 x (by simp [hx]),by have:=h.2;rw [zla] at this;omega⟩
theorem X7 {h:zU} {st:RdS} {x:yP} {pos:Int} (hst:st.stage≤1) (ho:kF x) (hcl:tJ h.Domains (st.cs++[x])=0):jX h st 83 (jD x) pos=some { st with cs:=st.cs++[x],stage:=1,pos:=pos }:=by
 have hps:pO (jD x)=some (x,[]):=by have:=LN.back x [] ho;rwa [List.append_nil] at this
 unfold jX
 rw [if_pos (show (83:Int)=83 from rfl),if_pos hst,hps]
 exact if_pos hcl
theorem OL {h:zU}:∀ (s:List yP) (st:RdS) (r:List Int),wM ((s.map snC).flatten++r)→(∀ x∈s,kF x)→tJ h.Domains (st.cs++s)=0→st.stage≤1 →
  run h st ((s.map snC).flatten++r)=run h ⟨st.snaps,st.packs,st.used,st.cs++s,st.cp,st.pos+((s.map snC).flatten).length,if s=[] then st.stage else 1⟩ r
 | [],st,r,_,_,_,_=>by simp
 | x::s,st,r,hb,ho,hc,hst=>by
  have hx:=dY x
  have e:((x::s).map snC).flatten++r=snC x++((s.map snC).flatten++r):=by simp
  have el:((x::s).map snC).flatten.length=(snC x).length+((s.map snC).flatten).length:=by simp
  rw [e] at hb ⊢
  rw [el]
  have hp:tZ (snC x++((s.map snC).flatten++r))=some (83,jD x,(s.map snC).flatten++r):=CP (by omega)
  have hcl:tJ h.Domains (st.cs++[x])=0:=VX (m:=s) (by rw [List.append_assoc];exact hc)
  rw [HV hb hp (X7 hst (ho x (by simp)) hcl),OL s _ r (bX hb) (fun y hy=>ho y (by simp [hy])) (by simp only;rw [List.append_assoc];exact hc) (by simp)]
  generalize snC x=c
  generalize (s.map snC).flatten=d
  simp only [List.append_assoc,List.singleton_append,zla]
  rw [show st.pos+(((c.length+(d.length+r.length):Nat):Int) - ((d.length+r.length:Nat):Int))+(d.length:Int)=st.pos+((c.length+d.length:Nat):Int) by omega]
  by_cases hn:s=[]<;>simp [hn]
theorem zCU {h:zU} {st:RdS} {p:zQ} {pos:Int} (h1:p.Thread∈p7 h) (h2:aO st.cp p=true) (h3:(vU p).2=0) (h4:evN st.cp+p.Events.length≤20000):jX h st 80 (vU p).1 pos=some { st with cp:=st.cp++[p],stage:=2,pos:=pos }:=by
 have hd:uY (vU p).1=(p,((vU p).1.length:Int),0):=by have:=zCa (more:=[]) h3;rwa [List.append_nil] at this
 unfold jX
 rw [if_neg (show ¬ (80:Int)=83 by decide),if_pos (show (80:Int)=80 from rfl),if_pos (show HT h st.cp (vU p).1 by unfold HT;rw [hd];exact ⟨rfl,rfl,h1,h2,h4⟩),hd]
theorem zDm {h:zU} {l l':List zQ} {p:zQ} {q:List zQ} (ha:apS h l (p::q)=.inl l'):tU p=0∧p.Thread∈p7 h∧aO l p=true∧(vU p).2=0∧apS h (l++[p]) q=.inl l':=by
 unfold apS at ha
 split at ha
 ·cases ha
 rename_i k1
 split at ha
 ·cases ha
 rename_i k2
 split at ha
 ·cases ha
 rename_i k3
 split at ha
 ·cases ha
 rename_i k4
 exact ⟨by simpa using k1,by simpa using k2,by simpa using k3,by simpa using k4,ha⟩
theorem UQ {h:zU}:∀ (q:List zQ) (st:RdS) (r:List Int) (l':List zQ),wM ((q.map pkC).flatten++r)→(∀ p∈q,p.Events.length≤60)→apS h st.cp q=.inl l'→evN l'≤20000 →
  run h st ((q.map pkC).flatten++r)=run h ⟨st.snaps,st.packs,st.used,st.cs,l',st.pos+((q.map pkC).flatten).length,if q=[] then st.stage else 2⟩ r
 | [],st,r,l',_,_,ha,_=>by
  unfold apS at ha
  injection ha with ha;subst ha
  simp
 | p::q,st,r,l',hb,ho,ha,hev=>by
  have hp60:=ho p (by simp)
  have hx:=A8 hp60
  have e:((p::q).map pkC).flatten++r=pkC p++((q.map pkC).flatten++r):=by simp
  have el:((p::q).map pkC).flatten.length=(pkC p).length+((q.map pkC).flatten).length:=by simp
  obtain ⟨k1,k2,k3,k4,k5⟩:=zDm ha
  have hg:=(NV k5).1
  have hevp:evN st.cp+p.Events.length≤20000:=by
   rw [hg,Q0,oB] at hev;omega
  rw [e] at hb ⊢
  rw [el]
  have hp:tZ (pkC p++((q.map pkC).flatten++r))=some (80,(vU p).1,(q.map pkC).flatten++r):=CP (by omega)
  rw [HV hb hp (zCU k2 k3 k4 hevp),UQ q _ r l' (bX hb) (fun y hy=>ho y (by simp [hy])) k5 hev]
  generalize pkC p=c
  generalize (q.map pkC).flatten=d
  simp only [zla]
  rw [show st.pos+(((c.length+(d.length+r.length):Nat):Int) - ((d.length+r.length:Nat):Int))+(d.length:Int)=st.pos+((c.length+d.length:Nat):Int) by omega]
  by_cases hn:q=[]<;>simp [hn]
theorem SU {h:zU} {s:List yP} {q:List zQ} {S:List yP} {P l':List zQ} {z:Int} {r:List Int} (hb:wM ((flC s q).flatten++r)) (hs:∀ x∈s,kF x) (hc:tJ h.Domains (S++s)=0) (hq:∀ p∈q,p.Events.length≤60) (ha:apS h P q=.inl l') (hev:evN l'≤20000) (hne:s.length+q.length≠0) :
  run h ⟨S,P,z,S,P,z,0⟩ ((flC s q).flatten++r)=run h ⟨S++s,l',z+((flC s q).flatten).length,S++s,l',z+((flC s q).flatten).length,0⟩ r:=by
 have e:(flC s q).flatten++r=(s.map snC).flatten++((q.map pkC).flatten++(xL 70 []++r)):=by simp [flC]
 have el:(flC s q).flatten.length=(s.map snC).flatten.length+((q.map pkC).flatten.length+(xL 70 []).length):=by simp [flC]
 rw [e] at hb ⊢
 rw [el,OL s _ _ hb hs hc (by simp),UQ q _ _ l' (bX hb) hq ha hev]
 have hp:tZ (xL 70 []++r)=some (70,[],r):=CP (by simp)
 have hb3:=bX (bX hb)
 generalize hA:(s.map snC).flatten=A
 generalize hB:(q.map pkC).flatten=B
 generalize hC:xL 70 []=C at *
 have hst:¬ (if q=[] then (if s=[] then 0 else 1) else 2)=0:=by
  by_cases h1:q=[]
  ·rw [if_pos h1]
   by_cases h2:s=[]
   ·subst h1;subst h2;exact absurd rfl hne
   ·rw [if_neg h2];omega
  ·rw [if_neg h1];omega
 have hstep:∀ pos,jX h ⟨S,P,z,S++s,l',z+(A.length:Int)+(B.length:Int),if q=[] then (if s=[] then 0 else 1) else 2⟩ 70 [] pos=some ⟨S++s,l',pos,S++s,l',pos,0⟩:=by
  intro pos
  unfold jX
  rw [if_neg (show ¬ (70:Int)=83 by decide),if_neg (show ¬ (70:Int)=80 by decide),if_pos (show (70:Int)=70 from rfl),if_pos ⟨rfl,hst⟩]
 rw [HV hb3 hp (hstep _)]
 simp only [zla]
 rw [show z+(A.length:Int)+(B.length:Int)+(((C.length+r.length:Nat):Int) - (r.length:Int))=z+((A.length+(B.length+C.length):Nat):Int) by omega]
theorem Y2 {h:zU} {st:RdS} {b body r:List Int} {k:Int} (hb:wM b) (hc:tZ b=some (k,body,r)) (hs:jX h st k body (st.pos+((b.length:Int) - r.length))=none):run h st b=st:=by
 obtain ⟨q1,q2,q3,q4⟩:=lB hb hc
 unfold run
 obtain ⟨n,hn⟩:∃ n,b.length=n+1:=⟨b.length - 1,by omega⟩
 rw [hn,show jM h (n+1) st b=(match tZ b with
  | none=>st
  | some (k,body,r)=>match jX h st k body (st.pos+((b.length:Int) - r.length)) with
   | none=>st
   | some st'=>jM h n st' r) from rfl,hc]
 simp only
 rw [hs]
def bH (st:RdS):List yP×List zQ×Int:=(st.snaps,st.packs,st.used)
theorem zDi {h:zU} {st st':RdS} {k pos:Int} {body:List Int} (hk:k≠70) (hs:jX h st k body pos=some st'):bH st'=bH st:=by
 unfold jX at hs
 split at hs
 ·split at hs
  ·split at hs
   ·split at hs
    ·injection hs with hs;subst hs;rfl
    ·cases hs
   ·cases hs
  ·cases hs
 ·split at hs
  ·split at hs
   ·injection hs with hs;subst hs;rfl
   ·cases hs
  ·cases hs
theorem NG {b:List Int} (h:wM b) (j:Nat):wM (b.take j):=⟨fun x hx=>h.1 x (List.mem_of_mem_take hx),by have:=h.2;rw [List.length_take];omega⟩
theorem SJ {h:zU}:∀ (L:List (Int×List Int)) (st:RdS) (j:Nat),(∀ c∈L,c.1≠70∧c.2.length≤100000)→wM ((L.map fun c=>xL c.1 c.2).flatten++xL 70 [])→j<((L.map fun c=>xL c.1 c.2).flatten++xL 70 []).length →
  bH (run h st (((L.map fun c=>xL c.1 c.2).flatten++xL 70 []).take j))=bH st
 | [],st,j,_,_,hj=>by
  simp only [List.map_nil,List.flatten_nil,List.nil_append] at hj ⊢
  rw [H8 (KL (by simp) hj)]
 | c::L,st,j,hL,hb,hj=>by
  have hc:=hL c (by simp)
  simp only [List.map_cons,List.flatten_cons,List.append_assoc] at hb hj ⊢
  by_cases h1:j<(xL c.1 c.2).length
  ·rw [List.take_append_of_le_length (by omega),H8 (KL hc.2 h1)]
  ·have hb2:=NG hb j
   rw [List.take_append,List.take_of_length_le (by omega)] at hb2 ⊢
   have hp:tZ (xL c.1 c.2++((L.map fun c=>xL c.1 c.2).flatten++xL 70 []).take (j - (xL c.1 c.2).length))=some (c.1,c.2,((L.map fun c=>xL c.1 c.2).flatten++xL 70 []).take (j - (xL c.1 c.2).length)):=CP hc.2
   cases hs:jX h st c.1 c.2 (st.pos+(((xL c.1 c.2++((L.map fun c=>xL c.1 c.2).flatten++xL 70 []).take (j - (xL c.1 c.2).length)).length:Int) - (((L.map fun c=>xL c.1 c.2).flatten++xL 70 []).take (j - (xL c.1 c.2).length)).length)) with
   | none=>rw [Y2 hb2 hp hs]
   | some st' =>
    rw [HV hb2 hp hs,SJ L st' _ (fun c' h'=>hL c' (by simp [h'])) (bX hb) (by rw [zla] at hj;omega),zDi hc.1 hs]
theorem zBH {h:zU} {st:RdS} {s:List yP} {q:List zQ} {j:Nat} (hq:∀ p∈q,p.Events.length≤60) (hb:wM (flC s q).flatten) (hj:j<(flC s q).flatten.length):bH (run h st ((flC s q).flatten.take j))=bH st:=by
 have e:(flC s q).flatten=(((s.map fun x=>((83:Int),jD x))++q.map fun p=>((80:Int),(vU p).1)).map fun c=>xL c.1 c.2).flatten++xL 70 []:=by
  simp only [flC,List.map_append,List.map_map,List.flatten_append,List.flatten_cons,List.flatten_nil,List.append_nil]
  rfl
 rw [e] at hb hj ⊢
 refine SJ _ st j (fun c hc=>?_) hb hj
 simp only [List.mem_append,List.mem_map] at hc
 rcases hc with ⟨x,_,rfl⟩ | ⟨p,hp,rfl⟩
 ·have:=dY x
  exact ⟨show (83:Int)≠70 by decide,by simp only;omega⟩
 ·have:=A8 (hq p hp)
  exact ⟨show (80:Int)≠70 by decide,by simp only;omega⟩
end Go.Ab
