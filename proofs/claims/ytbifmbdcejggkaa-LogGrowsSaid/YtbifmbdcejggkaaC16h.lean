/- A log's parts are packets that make the same log; LogGrows, plain. No conditions but those that the theorems name. -/
import Derived.Test.YtbifmbdcejggkaaC16g
namespace Go.Ab
open Go
set_option linter.unusedVariables false

/-! Filling parts again changes nothing. -/
def Fix (k:Int) (out:List zB):Prop:=xL k out=out∧∀ q∈out,q.Thread=k
theorem zJq {out:List zB} (h:0<out.length):lst out∈out:=by
  have h2:lst out∈ini out++[lst out]:=by simp
  rwa [← pM h] at h2
theorem zKV {out:List zB} {T S L:Int}:nL out ⟨T,S,L,[]⟩=qP out ⟨T,S,L,[]⟩:=rfl
theorem zJk {k:Int} {out:List zB} {p:zB} (h:Fix k out) (hp:p.Thread=k):Fix k (qP out p):=by
  unfold qP
  by_cases hc:p.Lost>0∨out.length=0
  · rw [if_pos hc]
    constructor
    · rw [uP,h.1]
      unfold kR
      rw [if_pos hp,zKV]
      unfold qP
      rw [if_pos hc]
    · intro q hq
      rcases List.mem_append.1 hq with hq | hq
      · exact h.2 q hq
      · rw [List.mem_singleton.1 hq];exact hp
  · rw [if_neg hc];exact h
theorem zH6 {k:Int} {out:List zB} (h:Fix k out) (h0:0<out.length) (e:zI):Fix k (fE out e):=by
  have hs:=pM h0
  have hlt:(lst out).Thread=k:=h.2 _ (zJq h0)
  have hin:∀ q∈ini out,q.Thread=k:=fun q hq=>h.2 q (by rw [hs];simp [hq])
  unfold fE
  by_cases hf:(lst out).Events.length=1000
  · rw [if_pos hf]
    unfold kS
    rw [qY,y8]
    simp only [List.nil_append]
    constructor
    · rw [uP,h.1]
      unfold kR
      rw [if_pos hlt]
      unfold nL
      rw [show qP out ⟨(lst out).Thread,(lst out).Serial+1000,0,[e]⟩=out by unfold qP;rw [if_neg (by simp only;omega)]]
      simp only [List.foldl_cons,List.foldl_nil]
      unfold fE
      rw [if_pos hf]
      unfold kS
      rw [qY,y8];rfl
    · intro q hq
      rcases List.mem_append.1 hq with hq | hq
      · exact h.2 q hq
      · rw [List.mem_singleton.1 hq];exact hlt
  · rw [if_neg hf]
    unfold kS
    constructor
    · have h1:=h.1
      rw [hs,uP] at h1
      unfold kR at h1
      rw [if_pos hlt] at h1
      rw [uP]
      unfold kR
      rw [if_pos hlt]
      unfold nL at h1 ⊢
      have ho:qP (xL k (ini out)) ⟨(lst out).Thread,(lst out).Serial,(lst out).Lost,(lst out).Events++[e]⟩=qP (xL k (ini out)) (lst out):=rfl
      simp only
      rw [ho,List.foldl_append,h1,← hs]
      simp only [List.foldl_cons,List.foldl_nil]
      unfold fE
      rw [if_neg hf];rfl
    · intro q hq
      rcases List.mem_append.1 hq with hq | hq
      · exact hin q hq
      · rw [List.mem_singleton.1 hq];exact hlt
theorem zIs {k:Int}:∀ (xs:List zI) (out:List zB),Fix k out→0<out.length→Fix k (xs.foldl fE out)
  | [],out,h,_=>h
  | x::xs,out,h,h0=>by
    rw [List.foldl_cons]
    exact zIs xs _ (zH6 h h0 x) (by unfold fE;split<;>exact zAJ _ _)
theorem zB8 (k:Int) (l:List zB):Fix k (xL k l):=by
  induction l using q8 with
  | h0=>exact ⟨rfl,fun q h=>by cases h⟩
  | h1 l p ih =>
    rw [uP]
    unfold kR
    by_cases h:p.Thread=k
    · rw [if_pos h];exact zIs _ _ (zJk ih h) (zGw _ _)
    · rw [if_neg h];exact ih

/-! The parts are valid packets and follow each other. -/
theorem zIo (l:List zB) (p:zB):wG (l++[p]) p.Thread=(p.Serial+p.Events.length,t6 p.Events):=by
  rw [t0];unfold nJ;rw [if_pos rfl]
theorem zLm {k:Int} {out:List zB} {e:zI} (h:vV out) (h0:0<out.length) (ht:∀ q∈out,q.Thread=k) (he:evS e=0) (ha:(wG out k).2≤e.At) (hs:(wG out k).1+1≤1000000000000000) :
    vV (fE out e)∧wG (fE out e) k=((wG out k).1+1,e.At):=by
  have hsp:=pM h0
  have hlt:(lst out).Thread=k:=ht _ (zJq h0)
  have hP:=h
  rw [hsp,tT] at hP
  obtain ⟨g1,g2,g3⟩:=hP
  have hz:=tU g2
  have hE:wG out k=((lst out).Serial+(lst out).Events.length,t6 (lst out).Events):=by
    conv=>lhs;rw [hsp,← hlt]
    exact zIo _ _
  rw [hE] at ha hs ⊢
  simp only at ha hs
  have hae:uV none [e]=0:=by
    simp only [uV]
    rw [if_neg (by omega)];rfl
  unfold fE
  by_cases hf:(lst out).Events.length=1000
  · rw [if_pos hf]
    unfold kS
    rw [qY,y8]
    simp only [List.nil_append]
    refine ⟨tT.2 ⟨h,?_,?_⟩,?_⟩
    · rw [zDF]
      unfold tL pW
      simp only [List.length_singleton]
      exact ⟨by omega,by omega,by omega,hae⟩
    · rw [zAO]
      simp only
      rw [hlt,hE]
      simp only
      refine ⟨by omega,ha⟩
    · rw [t0]
      unfold nJ
      rw [if_pos hlt]
      simp only [List.length_singleton]
      rw [show (lst out).Serial+1000+((1:Nat):Int)=(lst out).Serial+((lst out).Events.length:Int)+1 by omega];rfl
  · rw [if_neg hf]
    unfold kS
    refine ⟨tT.2 ⟨g1,?_,?_⟩,?_⟩
    · rw [zDF]
      unfold tL pW
      simp only [List.length_append,List.length_singleton]
      exact ⟨by omega,by omega,by omega,(zK9 (by omega) (by simp)).2 ⟨hz.2.2.2.2.2.2.2.2,hae,ha⟩⟩
    · rw [zAO] at g3 ⊢
      simp only
      rw [zJB (by omega)]
      exact g3
    · rw [t0]
      unfold nJ
      rw [if_pos hlt]
      simp only [List.length_append,List.length_singleton]
      rw [zJ0 (by simp),show (lst out).Serial+(((lst out).Events.length+1:Nat):Int)=(lst out).Serial+((lst out).Events.length:Int)+1 by omega];rfl
theorem zDl {k:Int}:∀ (xs:List zI) (out:List zB),vV out→0<out.length→Fix k out→uV (some (wG out k).2) xs=0→(wG out k).1+xs.length≤1000000000000000 →
    vV (xs.foldl fE out)∧wG (xs.foldl fE out) k=((wG out k).1+xs.length,if xs=[] then (wG out k).2 else t6 xs)
  | [],out,h,_,_,_,_=>by
    refine ⟨h,?_⟩
    rw [if_pos rfl]
    simp
  | x::xs,out,h,h0,hx,ha,hs=>by
    have hc:uV (some (wG out k).2) (x::xs)=if evS x≠0 then evS x else bif (some (wG out k).2).any (fun a=>decide (x.At<a)) then 11 else uV (some x.At) xs:=rfl
    rw [hc] at ha
    by_cases he:evS x≠0
    · rw [if_pos he] at ha;exact absurd ha he
    rw [if_neg he] at ha
    simp only [Option.any_some] at ha
    by_cases hlt:x.At<(wG out k).2
    · rw [y7 hlt,cond_true] at ha;omega
    rw [y1 hlt,cond_false] at ha
    simp only [List.length_cons] at hs
    obtain ⟨s1,s2⟩:=zLm h h0 hx.2 (show evS x=0 by omega) (by omega) (by omega)
    have h0':0<(fE out x).length:=by unfold fE;split<;>exact zAJ _ _
    obtain ⟨r1,r2⟩:=zDl xs _ s1 h0' (zH6 hx h0 x) (by rw [s2];exact ha) (by rw [s2];simp only;omega)
    rw [List.foldl_cons]
    refine ⟨r1,?_⟩
    rw [r2,s2]
    simp only
    rw [if_neg (show ¬ x::xs=[] by simp),show (wG out k).1+1+(xs.length:Int)=(wG out k).1+((x::xs).length:Int) by simp;omega]
    congr 1
    by_cases hn:xs=[]
    · rw [if_pos hn,hn];rfl
    · rw [if_neg hn];unfold t6;rw [List.getLast?_cons_of_ne_nil hn]
theorem zLq {k:Int} {out:List zB} {p:zB} (h:vV out) (hx:Fix k out) (hk:p.Thread=k) (hp:u5 p=0) (hf:uF out p=true):vV (nL out p)∧wG (nL out p) k=wG (out++[p]) k:=by
  have hz:=tU hp
  have hE:wG (out++[p]) k=(p.Serial+p.Events.length,t6 p.Events):=by rw [← hk];exact zIo _ _
  rw [hE]
  rw [zAO,hk] at hf
  have hne:p.Events≠[]:=fun e=>by have:=hz.2.2.2.2.2.2.1;rw [e] at this;simp at this
  unfold nL qP
  by_cases hc:p.Lost>0∨out.length=0
  · rw [if_pos hc]
    cases hev:p.Events with
    | nil=>exact absurd hev hne
    | cons e es =>
      have hall:=hz.2.2.2.2.2.2.2.2
      rw [hev] at hall hf hz
      simp only [List.length_cons] at hz
      have hce:uV none (e::es)=if evS e≠0 then evS e else uV (some e.At) es:=rfl
      rw [hce] at hall
      by_cases he:evS e≠0
      · rw [if_pos he] at hall;exact absurd hall he
      rw [if_neg he] at hall
      have h1:fE (out++[⟨p.Thread,p.Serial,p.Lost,[]⟩]) e=out++[⟨p.Thread,p.Serial,p.Lost,[e]⟩]:=by
        unfold fE
        rw [y8,if_neg (by simp)]
        unfold kS
        rw [qY,y8];rfl
      rw [List.foldl_cons,h1]
      have hae:uV none [e]=0:=by
        simp only [uV]
        rw [if_neg (by omega)];rfl
      have h2:vV (out++[⟨p.Thread,p.Serial,p.Lost,[e]⟩]):=by
        rw [tT]
        refine ⟨h,?_,?_⟩
        · rw [zDF]
          unfold tL pW
          simp only [List.length_singleton]
          exact ⟨by omega,by omega,by omega,hae⟩
        · rw [zAO]
          simp only
          rw [hk];exact hf
      have h3:wG (out++[⟨p.Thread,p.Serial,p.Lost,[e]⟩]) k=(p.Serial+1,e.At):=by
        rw [t0];unfold nJ;rw [if_pos hk];rfl
      have h4:Fix k (out++[⟨p.Thread,p.Serial,p.Lost,[e]⟩]):=by
        rw [← h1]
        refine zH6 ?_ (by simp) e
        have:=zJk hx hk
        unfold qP at this
        rw [if_pos hc] at this;exact this
      obtain ⟨r1,r2⟩:=zDl es _ h2 (by simp) h4 (by rw [h3];exact hall) (by rw [h3];simp only;omega)
      refine ⟨r1,?_⟩
      rw [r2,h3]
      simp only
      rw [show p.Serial+1+(es.length:Int)=p.Serial+((e::es).length:Int) by simp;omega]
      congr 1
      by_cases hn:es=[]
      · rw [if_pos hn,hn];rfl
      · rw [if_neg hn];unfold t6;rw [List.getLast?_cons_of_ne_nil hn]
  · rw [if_neg hc]
    obtain ⟨r1,r2⟩:=zDl p.Events out h (by omega) hx ((zGG hz.2.2.2.2.2.2.1).2 ⟨hz.2.2.2.2.2.2.2.2,hf.2⟩) (by omega)
    refine ⟨r1,?_⟩
    rw [r2,if_neg hne]
    rw [show (wG out k).1=p.Serial by omega]
theorem zFO (k:Int) {l:List zB} (h:vV l):vV (xL k l)∧wG (xL k l) k=wG l k:=by
  induction l using q8 with
  | h0=>exact ⟨zCP,rfl⟩
  | h1 l p ih =>
    obtain ⟨g1,g2,g3⟩:=tT.1 h
    obtain ⟨i1,i2⟩:=ih g1
    rw [uP,t0]
    unfold kR
    by_cases hk:p.Thread=k
    · rw [if_pos hk]
      obtain ⟨r1,r2⟩:=zLq i1 (zB8 k l) hk g2 (by rw [← g3];exact nF (by rw [hk];exact i2))
      exact ⟨r1,by rw [r2,t0,i2]⟩
    · rw [if_neg hk];unfold nJ;rw [if_neg hk];exact ⟨i1,i2⟩

/-! All parts. -/
theorem zKc {k:Int} {l:List zB} (h:∀ p∈l,p.Thread≠k):xL k l=[]:=by
  rw [← zGE,show ofT k l=[] from List.filter_eq_nil_iff.2 fun p hp=>by rw [y1 (h p hp)];simp];rfl
theorem zK1 (k j:Int) (l:List zB):ofT k (xL j l)=if j=k then xL k l else []:=by
  have h:=(zB8 j l).2
  by_cases e:j=k
  · subst e
    rw [if_pos rfl]
    exact List.filter_eq_self.2 fun p hp=>y7 (h p hp)
  · rw [if_neg e]
    exact List.filter_eq_nil_iff.2 fun p hp=>by rw [y1 (fun g=>e ((h p hp).symm.trans g))];simp
theorem zFY {h:zS} {l:List zB} (hn:(v8 h).Nodup) (hk:∀ p∈l,p.Thread∈v8 h) (k:Int):ofT k (vM h l)=xL k l:=by
  unfold vM
  have h1:ofT k (h.Threads.flatMap fun t=>xL t.Id l)=(v8 h).flatMap fun j=>if j=k then xL k l else []:=by
    unfold v8
    rw [List.flatMap_map]
    generalize h.Threads=ts
    induction ts with
    | nil=>rfl
    | cons t r ih =>
      rw [List.flatMap_cons,List.flatMap_cons,← ih,← zK1]
      exact List.filter_append ..
  rw [h1]
  by_cases hin:k∈v8 h
  · revert hn hin
    clear h1 hk
    generalize v8 h=ids
    intro hn hin
    induction ids with
    | nil=>cases hin
    | cons j r ih =>
      obtain ⟨n1,n2⟩:=List.nodup_cons.1 hn
      rw [List.flatMap_cons]
      by_cases e:j=k
      · subst e
        rw [if_pos rfl,show (r.flatMap fun i=>if i=j then xL j l else [])=[] from List.flatMap_eq_nil_iff.2 fun i hi=>if_neg fun (g:i=j)=>n1 (g ▸ hi),List.append_nil]
      · rw [if_neg e,List.nil_append]
        exact ih n2 (by rcases List.mem_cons.1 hin with g | g;exact absurd g.symm e;exact g)
  · rw [zKc fun p hp (g:p.Thread=k)=>hin (g ▸ hk p hp)]
    exact List.flatMap_eq_nil_iff.2 fun i hi=>by split<;>rfl
theorem zKe {ids:List Int} (hn:ids.Nodup) {k:Int} (hk:k∈ids) (n:Nat):(ids.map fun i=>if k=i then n else 0).sum=n:=by
  induction ids with
  | nil=>cases hk
  | cons a r ih =>
    obtain ⟨h1,h2⟩:=List.nodup_cons.1 hn
    simp only [List.map_cons,List.sum_cons]
    by_cases h:k=a
    · subst h
      rw [if_pos rfl]
      have:∀ s:List Int,k∉s→(s.map fun i=>if k=i then n else 0).sum=0:=by
        intro s
        induction s with
        | nil=>intro _;rfl
        | cons b s ihs =>
          intro hs
          simp only [List.mem_cons,not_or] at hs
          simp only [List.map_cons,List.sum_cons,if_neg hs.1,ihs hs.2]
      rw [this r h1];omega
    · rw [if_neg h,ih h2 (by rcases List.mem_cons.1 hk with g | g;exact absurd g h;exact g)];omega
theorem zMP {ids:List Int} (hn:ids.Nodup) {l:List zB} (hk:∀ p∈l,p.Thread∈ids):(ids.map fun k=>evN (ofT k l)).sum=evN l:=by
  induction l with
  | nil =>
    clear hn hk
    induction ids with
    | nil=>rfl
    | cons a r ih=>simpa [ofT,evN] using ih
  | cons p r ih =>
    have h:(fun k=>evN (ofT k (p::r)))=fun k=>(if p.Thread=k then p.Events.length else 0)+evN (ofT k r):=by
      funext k
      unfold ofT
      rw [List.filter_cons]
      by_cases h:p.Thread=k
      · rw [if_pos h,if_pos (by simpa using h)];simp [evN]
      · rw [if_neg h,if_neg (by simpa using h)];simp
    rw [h,zJt,zKe hn (hk p (by simp)),ih fun q hq=>hk q (by simp [hq])]
    simp [evN]
theorem zGn {h:zS} {l:List zB} (hn:(v8 h).Nodup) (hk:∀ p∈l,p.Thread∈v8 h):evN (vM h l)=evN l:=by
  rw [← zMP hn hk]
  unfold vM v8
  rw [List.map_map]
  generalize h.Threads=ts
  induction ts with
  | nil=>rfl
  | cons t r ih =>
    rw [List.flatMap_cons,zBv,ih]
    simp only [List.map_cons,List.sum_cons,Function.comp]
    rw [show evN (xL t.Id l)=evN (ofT t.Id l) by rw [← zBy,← zBy,zBX]]
theorem zMa {h:zS} {l:List zB} (hn:(v8 h).Nodup) (hg:zBd h l) (k:Int):wG (vM h l) k=wG l k:=by
  rw [← zEx,zFY hn hg.known,(zFO k hg.passed).2]
theorem zLT {h:zS} {l:List zB} (hn:(v8 h).Nodup) (hg:zBd h l):zBd h (vM h l):=by
  refine ⟨zJY.2 fun k=>?_,?_,by rw [zGn hn hg.known];exact hg.few⟩
  · rw [zFY hn hg.known];exact (zFO k hg.passed).1
  · intro p hp
    obtain ⟨t,ht,hp⟩:=List.mem_flatMap.1 hp
    rw [(zB8 t.Id l).2 p hp]
    exact List.mem_map.2 ⟨t,ht,rfl⟩
theorem zKT {h:zS} {l:List zB} (hn:(v8 h).Nodup) (hg:zBd h l) (k:Int):xL k (vM h l)=xL k l:=by
  rw [← zGE,zFY hn hg.known,(zB8 k l).1]
/-! Further packets. -/
theorem zHx (l r:List zB) (k:Int):wG (l++r) k=r.foldl (nJ k) (wG l k):=by simp [wG]
theorem zFB (l r:List zB) (k:Int):xL k (l++r)=r.foldl (kR k) (xL k l):=by simp [xL]
theorem zDC {α β:Type} {f:Nat→α→Option β}:∀ (x y:List α) (i:Nat),(∀ j p,x[j]?=some p→f (i+j) p=none)→xW f i (x++y)=xW f (i+x.length) y
  | [],y,i,_=>rfl
  | a::r,y,i,h=>by
    rw [List.cons_append,nG,show f i a=none from h 0 a rfl]
    simp only
    rw [zDC r y (i+1) fun j p hj=>by rw [show i+1+j=i+(j+1) by omega];exact h (j+1) p hj]
    rw [List.length_cons,show i+1+r.length=i+(r.length+1) by omega]
theorem zIH {g:zS} {L L':List zB}:∀ (r:List zB) (i j:Nat),(∀ n k,wG (L.take (i+n)) k=wG (L'.take (j+n)) k)→xW (kP g L) i r=xW (kP g L') j r
  | [],_,_,_=>rfl
  | p::r,i,j,h=>by
    rw [nG,nG,zIH r (i+1) (j+1) fun n k=>by have:=h (n+1) k;rwa [show i+(n+1)=i+1+n by omega,show j+(n+1)=j+1+n by omega] at this]
    have:kP g L i p=kP g L' j p:=by
      unfold kP
      rw [nF (p:=p) (show wG (L.take i) p.Thread=wG (L'.take j) p.Thread from h 0 p.Thread)]
    rw [this]
theorem zL1 {g:zS} {m m':List zB} (r:List zB) (h1:zBd g m) (h2:zBd g m') (he:∀ k,wG m k=wG m' k) (hN:evN m=evN m'):zAl g (m++r)=zAl g (m'++r):=by
  have key:∀ x:List zB,zBd g x→xW (kP g (x++r)) 0 (x++r)=xW (kP g (x++r)) x.length r:=by
    intro x hx
    rw [zDC _ _ _ fun j p hj=>?_,Nat.zero_add]
    rw [Nat.zero_add]
    have hlt:=(List.getElem?_eq_some_iff.1 hj).1
    rw [zBZ,List.take_append_of_le_length (by omega)]
    exact ⟨(hx.passed j p hj).1,hx.known p (List.mem_of_getElem? hj),(hx.passed j p hj).2⟩
  unfold zAl
  rw [key m h1,key m' h2,zBv,zBv,hN]
  rw [zIH (g:=g) (L:=m++r) (L':=m'++r) r m.length m'.length fun n k=>by
    rw [List.take_length_add_append,List.take_length_add_append,zHx,zHx,he]]
theorem zMb {h g:zS} {m r:List zB} (hn:(v8 h).Nodup) (hi:v8 g=v8 h) (hg:zBd h m):zBT g (vM h m++r)=zBT g (m++r):=by
  have hgg:∀ x,zBd h x→zBd g x:=fun x hx=>⟨hx.passed,by rw [hi];exact hx.known,hx.few⟩
  have hc:zAl g (vM h m++r)=zAl g (m++r):=zL1 r (hgg _ (zLT hn hg)) (hgg _ hg) (zMa hn hg) (zGn hn hg.known)
  have hp:vM g (vM h m++r)=vM g (m++r):=by
    have:=zKT hn hg
    rw [show vM g (vM h m++r)=g.Threads.flatMap fun t=>xL t.Id (vM h m++r) from rfl,show vM g (m++r)=g.Threads.flatMap fun t=>xL t.Id (m++r) from rfl]
    congr 1
    funext t
    rw [zFB,zFB,this]
  unfold zBT
  rw [hc,hp]

theorem zIY {a b:List yC} (ha:a.length≤100000) (hb:b.length≤100000):xZ 281474976710656 [a,b]=some (a++b):=by
  unfold xZ
  have e1:xR 281474976710656 [a,b] 281474976710656 0 0=some ((a.length:Int)+b.length):=by
    show yN _ _ _ _ _=_
    unfold yN
    rw [show wB [a,b] (0:Int)=some a from rfl]
    simp only [List.length_cons,List.length_nil,Option.bind_some]
    rw [y7 (by omega),cond_true,w64 (by omega) (by omega),y1 (by omega),cond_false,show zK ((0:Int)+1)=1 from rfl]
    show yN _ _ _ _ _=_
    unfold yN
    rw [show wB [a,b] (1:Int)=some b from rfl]
    simp only [List.length_cons,List.length_nil,Option.bind_some]
    rw [y7 (by omega),cond_true,w64 (by omega) (by omega),y1 (by omega),cond_false,show zK ((1:Int)+1)=2 from rfl]
    show yN _ _ _ _ _=_
    unfold yN
    simp only [List.length_cons,List.length_nil]
    rw [y1 (by omega),cond_false,show (0:Int)+(a.length:Int)+(b.length:Int)=(a.length:Int)+b.length by omega]
  have e2:xS 281474976710656 [a,b] 281474976710656 0 []=some (a++b):=by
    show yM _ _ _ _ _=_
    unfold yM
    rw [show wB [a,b] (0:Int)=some a from rfl]
    simp only [List.length_cons,List.length_nil,Option.bind_some]
    rw [y7 (by omega),cond_true,tA (by omega),Option.bind_some,show zK ((0:Int)+1)=1 from rfl]
    show yM _ _ _ _ _=_
    unfold yM
    rw [show wB [a,b] (1:Int)=some b from rfl]
    simp only [List.length_cons,List.length_nil,Option.bind_some,List.nil_append]
    rw [y7 (by omega),cond_true,tA (by omega),Option.bind_some,show zK ((1:Int)+1)=2 from rfl]
    show yM _ _ _ _ _=_
    unfold yM
    simp only [List.length_cons,List.length_nil]
    rw [y1 (by omega),cond_false]
  rw [e1,Option.bind_some]
  unfold wR
  rw [y1 (by omega),cond_false,Option.bind_some,show zK ((0:Int) - ((0:Nat):Int))=0 from rfl,w64 (by omega) (by omega)]
  by_cases hz:(a.length:Int)+b.length - 0>0
  · rw [y7 hz,cond_true,tA (by omega),Option.bind_some,Option.bind_some,e2];rfl
  · rw [y1 hz,cond_false,Option.bind_some,e2];rfl
theorem zIO {a b:List zB} (ha:a.length≤100000) (hb:b.length≤100000):xP 281474976710656 [a,b]=some (a++b):=by
  unfold xP
  have e1:xI 281474976710656 [a,b] 281474976710656 0 0=some ((a.length:Int)+b.length):=by
    show yD _ _ _ _ _=_
    unfold yD
    rw [show wB [a,b] (0:Int)=some a from rfl]
    simp only [List.length_cons,List.length_nil,Option.bind_some]
    rw [y7 (by omega),cond_true,w64 (by omega) (by omega),y1 (by omega),cond_false,show zK ((0:Int)+1)=1 from rfl]
    show yD _ _ _ _ _=_
    unfold yD
    rw [show wB [a,b] (1:Int)=some b from rfl]
    simp only [List.length_cons,List.length_nil,Option.bind_some]
    rw [y7 (by omega),cond_true,w64 (by omega) (by omega),y1 (by omega),cond_false,show zK ((1:Int)+1)=2 from rfl]
    show yD _ _ _ _ _=_
    unfold yD
    simp only [List.length_cons,List.length_nil]
    rw [y1 (by omega),cond_false,show (0:Int)+(a.length:Int)+(b.length:Int)=(a.length:Int)+b.length by omega]
  have e2:xG 281474976710656 [a,b] 281474976710656 0 []=some (a++b):=by
    show yE _ _ _ _ _=_
    unfold yE
    rw [show wB [a,b] (0:Int)=some a from rfl]
    simp only [List.length_cons,List.length_nil,Option.bind_some]
    rw [y7 (by omega),cond_true,tA (by omega),Option.bind_some,show zK ((0:Int)+1)=1 from rfl]
    show yE _ _ _ _ _=_
    unfold yE
    rw [show wB [a,b] (1:Int)=some b from rfl]
    simp only [List.length_cons,List.length_nil,Option.bind_some,List.nil_append]
    rw [y7 (by omega),cond_true,tA (by omega),Option.bind_some,show zK ((1:Int)+1)=2 from rfl]
    show yE _ _ _ _ _=_
    unfold yE
    simp only [List.length_cons,List.length_nil]
    rw [y1 (by omega),cond_false]
  rw [e1,Option.bind_some]
  unfold wN
  rw [y1 (by omega),cond_false,Option.bind_some,show zK ((0:Int) - ((0:Nat):Int))=0 from rfl,w64 (by omega) (by omega)]
  by_cases hz:(a.length:Int)+b.length - 0>0
  · rw [y7 hz,cond_true,tA (by omega),Option.bind_some,Option.bind_some,e2];rfl
  · rw [y1 hz,cond_false,Option.bind_some,e2];rfl
theorem L16_LogGrows_plain:∀ (h:zS) (l:List zB) (snaps:List yC) (n:Int),kK h→zAj q9 l→zAj kG snaps→tF n→∃ F,qN F h l snaps n=some true:=by
  intro h l snaps n _ ho _ _
  have hl:l.length<9223372036854775000:=by have:=ho.2;omega
  have hE:∀ p∈l,p.Events.length≤140737488355328:=fun p hp=>(ho.1 p hp).2.2.2.2
  have hF:=ho.2
  refine ⟨281474976710656,?_⟩
  unfold qN
  rw [zLE (by omega) hl hE,Option.bind_some]
  by_cases hL:zCu h l
  · obtain ⟨k1,k2,k3,k4,k5⟩:=hL
    rw [y7 (show zCu h l from ⟨k1,k2,k3,k4,k5⟩),Bool.not_true,cond_false]
    by_cases hc:snaps.length>20
    · rw [y7 (by omega),cond_true,Option.bind_some,cond_true,zAv];rfl
    rw [y1 (by omega),cond_false]
    by_cases hn0:n<0
    · rw [y7 hn0,cond_true,Option.bind_some,cond_true,zAv];rfl
    rw [y1 hn0,cond_false,Option.bind_some]
    by_cases hn1:n>(l.length:Int)
    · rw [y7 hn1,cond_true,zAv];rfl
    rw [y1 hn1,cond_false]
    have hs1:sub l 0 n=l.take n.toNat:=zGL (by omega)
    have hs2:sub l n ((l.length:Nat):Int)=l.drop n.toNat:=zGR (by omega)
    have hle:=zCY l n.toNat
    have htl:(l.take n.toNat).length≤30:=by rw [List.length_take];omega
    have hdl:(l.drop n.toNat).length≤30:=by rw [List.length_drop];omega
    have hsum:evN (l.take n.toNat)+evN (l.drop n.toNat)=evN l:=by rw [← zBv,List.take_append_drop]
    simp only [tA (show (0:Int)≤n∧n≤((l.length:Nat):Int) by omega),Option.bind_some]
    rw [hs1,hs2,zDK (by omega) (by omega) (by omega) (by omega) (by omega),Option.bind_some]
    by_cases h0:(zBT h (l.take n.toNat)).2=0
    · obtain ⟨m1,m2,m3⟩:=zKp h0
      have hnd:=zFd m1
      have hap:=zD9 m1 m2.passed.valids (l:=l.take n.toNat) (by omega)
      have hea:=zGn hnd m2.known
      rw [kB h0,cond_false,m3]
      unfold zB2
      simp only
      rw [zIY (by omega) (by omega),Option.bind_some,zIO (by omega) (by omega),Option.bind_some,List.nil_append]
      have hgt:(⟨h.Threads,h.Domains,h.Snaps++snaps⟩:zS).Snaps.length≤100000:=by simp only [List.length_append];omega
      rw [zDK (h:=⟨h.Threads,h.Domains,h.Snaps++snaps⟩) (by simp only;omega) (by simp only;omega) hgt (by rw [List.length_append];omega) (by rw [zBv];omega),Option.bind_some,Option.bind_some]
      rw [zMb (g:=⟨h.Threads,h.Domains,h.Snaps++snaps⟩) (r:=l.drop n.toNat) hnd rfl m2,List.take_append_drop]
      rw [tA (by simp only [List.length_nil];omega),Option.bind_some,tA (by omega),Option.bind_some]
      rw [zDK (h:=⟨h.Threads,h.Domains,h.Snaps++snaps⟩) (by simp only;omega) (by simp only;omega) hgt (by omega) (by omega),Option.bind_some]
      rw [uX rfl,cond_true,zIM (zMR (h:=⟨h.Threads,h.Domains,h.Snaps++snaps⟩) (by simp only;omega) (by simp only;omega) hgt (by omega)),zAv,y7 rfl]
      rfl
    · rw [jJ h0,cond_true,zAv];rfl
  · rw [y1 hL,Bool.not_false,cond_true,Option.bind_some,cond_true,zAv];rfl
end Go.Ab
