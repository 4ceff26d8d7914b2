/- A log's parts are packets that make the same log; LogGrows, plain. No conditions but those that the theorems name. -/
import Derived.Test.YtbifmbdcejggkaaC16g
namespace Go.Ab
open Go
set_option linter.unusedVariables false

/-! Filling parts again changes nothing. -/
def Fix (k:Int) (out:List zB):Prop:=xR k out=out∧∀ q∈out,q.Thread=k
theorem zJM {out:List zB} (h:0<out.length):lst out∈out:=by
  have h2:lst out∈ini out++[lst out]:=by simp
  rwa [← pY h] at h2
theorem zLG {out:List zB} {T S L:Int}:zAh out ⟨T,S,L,[]⟩=qX out ⟨T,S,L,[]⟩:=rfl
theorem zJN {k:Int} {out:List zB} {p:zB} (h:Fix k out) (hp:p.Thread=k):Fix k (qX out p):=by
  unfold qX
  by_cases hc:p.Lost>0∨out.length=0
  · rw [if_pos hc]
    constructor
    · rw [uN,h.1]
      unfold pO
      rw [if_pos hp,zLG]
      unfold qX
      rw [if_pos hc]
    · intro q hq
      rcases List.mem_append.1 hq with hq | hq
      · exact h.2 q hq
      · rw [List.mem_singleton.1 hq];exact hp
  · rw [if_neg hc];exact h
theorem zIt {k:Int} {out:List zB} (h:Fix k out) (h0:0<out.length) (e:zH):Fix k (fE out e):=by
  have hs:=pY h0
  have hlt:(lst out).Thread=k:=h.2 _ (zJM h0)
  have hin:∀ q∈ini out,q.Thread=k:=fun q hq=>h.2 q (by rw [hs];simp [hq])
  unfold fE
  by_cases hf:(lst out).Events.length=1000
  · rw [if_pos hf]
    unfold pC
    rw [jC,y6]
    simp only [List.nil_append]
    constructor
    · rw [uN,h.1]
      unfold pO
      rw [if_pos hlt]
      unfold zAh
      rw [show qX out ⟨(lst out).Thread,(lst out).Serial+1000,0,[e]⟩=out by unfold qX;rw [if_neg (by simp only;omega)]]
      simp only [List.foldl_cons,List.foldl_nil]
      unfold fE
      rw [if_pos hf]
      unfold pC
      rw [jC,y6];rfl
    · intro q hq
      rcases List.mem_append.1 hq with hq | hq
      · exact h.2 q hq
      · rw [List.mem_singleton.1 hq];exact hlt
  · rw [if_neg hf]
    unfold pC
    constructor
    · have h1:=h.1
      rw [hs,uN] at h1
      unfold pO at h1
      rw [if_pos hlt] at h1
      rw [uN]
      unfold pO
      rw [if_pos hlt]
      unfold zAh at h1 ⊢
      have ho:qX (xR k (ini out)) ⟨(lst out).Thread,(lst out).Serial,(lst out).Lost,(lst out).Events++[e]⟩=qX (xR k (ini out)) (lst out):=rfl
      simp only
      rw [ho,List.foldl_append,h1,← hs]
      simp only [List.foldl_cons,List.foldl_nil]
      unfold fE
      rw [if_neg hf];rfl
    · intro q hq
      rcases List.mem_append.1 hq with hq | hq
      · exact hin q hq
      · rw [List.mem_singleton.1 hq];exact hlt
theorem zHM {k:Int}:∀ (xs:List zH) (out:List zB),Fix k out→0<out.length→Fix k (xs.foldl fE out)
  | [],out,h,_=>h
  | x::xs,out,h,h0=>by
    rw [List.foldl_cons]
    exact zHM xs _ (zIt h h0 x) (by unfold fE;split<;>exact zAS _ _)
theorem zCh (k:Int) (l:List zB):Fix k (xR k l):=by
  induction l using qT with
  | h0=>exact ⟨rfl,fun q h=>by cases h⟩
  | h1 l p ih =>
    rw [uN]
    unfold pO
    by_cases h:p.Thread=k
    · rw [if_pos h];exact zHM _ _ (zJN ih h) (zGd _ _)
    · rw [if_neg h];exact ih

/-! The parts are valid packets and follow each other. -/
theorem zI1 (l:List zB) (p:zB):xF (l++[p]) p.Thread=(p.Serial+p.Events.length,t7 p.Events):=by
  rw [u6];unfold pI;rw [if_pos rfl]
theorem zKU {k:Int} {out:List zB} {e:zH} (h:vM out) (h0:0<out.length) (ht:∀ q∈out,q.Thread=k) (he:evS e=0) (ha:(xF out k).2≤e.At) (hs:(xF out k).1+1≤1000000000000000) :
    vM (fE out e)∧xF (fE out e) k=((xF out k).1+1,e.At):=by
  have hsp:=pY h0
  have hlt:(lst out).Thread=k:=ht _ (zJM h0)
  have hP:=h
  rw [hsp,tE] at hP
  obtain ⟨g1,g2,g3⟩:=hP
  have hz:=vK g2
  have hE:xF out k=((lst out).Serial+(lst out).Events.length,t7 (lst out).Events):=by
    conv=>lhs;rw [hsp,← hlt]
    exact zI1 _ _
  rw [hE] at ha hs ⊢
  simp only at ha hs
  have hae:uU none [e]=0:=by
    simp only [uU]
    rw [if_neg (by omega)];rfl
  unfold fE
  by_cases hf:(lst out).Events.length=1000
  · rw [if_pos hf]
    unfold pC
    rw [jC,y6]
    simp only [List.nil_append]
    refine ⟨tE.2 ⟨h,?_,?_⟩,?_⟩
    · rw [zDY]
      unfold tM nN
      simp only [List.length_singleton]
      exact ⟨by omega,by omega,by omega,hae⟩
    · rw [zAa]
      simp only
      rw [hlt,hE]
      simp only
      refine ⟨by omega,ha⟩
    · rw [u6]
      unfold pI
      rw [if_pos hlt]
      simp only [List.length_singleton]
      rw [show (lst out).Serial+1000+((1:Nat):Int)=(lst out).Serial+((lst out).Events.length:Int)+1 by omega];rfl
  · rw [if_neg hf]
    unfold pC
    refine ⟨tE.2 ⟨g1,?_,?_⟩,?_⟩
    · rw [zDY]
      unfold tM nN
      simp only [List.length_append,List.length_singleton]
      exact ⟨by omega,by omega,by omega,(zLH (by omega) (by simp)).2 ⟨hz.2.2.2.2.2.2.2.2,hae,ha⟩⟩
    · rw [zAa] at g3 ⊢
      simp only
      rw [zKR (by omega)]
      exact g3
    · rw [u6]
      unfold pI
      rw [if_pos hlt]
      simp only [List.length_append,List.length_singleton]
      rw [zKg (by simp),show (lst out).Serial+(((lst out).Events.length+1:Nat):Int)=(lst out).Serial+((lst out).Events.length:Int)+1 by omega];rfl
theorem zDN {k:Int}:∀ (xs:List zH) (out:List zB),vM out→0<out.length→Fix k out→uU (some (xF out k).2) xs=0→(xF out k).1+xs.length≤1000000000000000 →
    vM (xs.foldl fE out)∧xF (xs.foldl fE out) k=((xF out k).1+xs.length,if xs=[] then (xF out k).2 else t7 xs)
  | [],out,h,_,_,_,_=>by
    refine ⟨h,?_⟩
    rw [if_pos rfl]
    simp
  | x::xs,out,h,h0,hx,ha,hs=>by
    have hc:uU (some (xF out k).2) (x::xs)=if evS x≠0 then evS x else bif (some (xF out k).2).any (fun a=>decide (x.At<a)) then 11 else uU (some x.At) xs:=rfl
    rw [hc] at ha
    by_cases he:evS x≠0
    · rw [if_pos he] at ha;exact absurd ha he
    rw [if_neg he] at ha
    simp only [Option.any_some] at ha
    by_cases hlt:x.At<(xF out k).2
    · rw [y5 hlt,cond_true] at ha;omega
    rw [yU hlt,cond_false] at ha
    simp only [List.length_cons] at hs
    obtain ⟨s1,s2⟩:=zKU h h0 hx.2 (show evS x=0 by omega) (by omega) (by omega)
    have h0':0<(fE out x).length:=by unfold fE;split<;>exact zAS _ _
    obtain ⟨r1,r2⟩:=zDN xs _ s1 h0' (zIt hx h0 x) (by rw [s2];exact ha) (by rw [s2];simp only;omega)
    rw [List.foldl_cons]
    refine ⟨r1,?_⟩
    rw [r2,s2]
    simp only
    rw [if_neg (show ¬ x::xs=[] by simp),show (xF out k).1+1+(xs.length:Int)=(xF out k).1+((x::xs).length:Int) by simp;omega]
    congr 1
    by_cases hn:xs=[]
    · rw [if_pos hn,hn];rfl
    · rw [if_neg hn];unfold t7;rw [List.getLast?_cons_of_ne_nil hn]
theorem zL7 {k:Int} {out:List zB} {p:zB} (h:vM out) (hx:Fix k out) (hk:p.Thread=k) (hp:uV p=0) (hf:uC out p=true):vM (zAh out p)∧xF (zAh out p) k=xF (out++[p]) k:=by
  have hz:=vK hp
  have hE:xF (out++[p]) k=(p.Serial+p.Events.length,t7 p.Events):=by rw [← hk];exact zI1 _ _
  rw [hE]
  rw [zAa,hk] at hf
  have hne:p.Events≠[]:=fun e=>by have:=hz.2.2.2.2.2.2.1;rw [e] at this;simp at this
  unfold zAh qX
  by_cases hc:p.Lost>0∨out.length=0
  · rw [if_pos hc]
    cases hev:p.Events with
    | nil=>exact absurd hev hne
    | cons e es =>
      have hall:=hz.2.2.2.2.2.2.2.2
      rw [hev] at hall hf hz
      simp only [List.length_cons] at hz
      have hce:uU none (e::es)=if evS e≠0 then evS e else uU (some e.At) es:=rfl
      rw [hce] at hall
      by_cases he:evS e≠0
      · rw [if_pos he] at hall;exact absurd hall he
      rw [if_neg he] at hall
      have h1:fE (out++[⟨p.Thread,p.Serial,p.Lost,[]⟩]) e=out++[⟨p.Thread,p.Serial,p.Lost,[e]⟩]:=by
        unfold fE
        rw [y6,if_neg (by simp)]
        unfold pC
        rw [jC,y6];rfl
      rw [List.foldl_cons,h1]
      have hae:uU none [e]=0:=by
        simp only [uU]
        rw [if_neg (by omega)];rfl
      have h2:vM (out++[⟨p.Thread,p.Serial,p.Lost,[e]⟩]):=by
        rw [tE]
        refine ⟨h,?_,?_⟩
        · rw [zDY]
          unfold tM nN
          simp only [List.length_singleton]
          exact ⟨by omega,by omega,by omega,hae⟩
        · rw [zAa]
          simp only
          rw [hk];exact hf
      have h3:xF (out++[⟨p.Thread,p.Serial,p.Lost,[e]⟩]) k=(p.Serial+1,e.At):=by
        rw [u6];unfold pI;rw [if_pos hk];rfl
      have h4:Fix k (out++[⟨p.Thread,p.Serial,p.Lost,[e]⟩]):=by
        rw [← h1]
        refine zIt ?_ (by simp) e
        have:=zJN hx hk
        unfold qX at this
        rw [if_pos hc] at this;exact this
      obtain ⟨r1,r2⟩:=zDN es _ h2 (by simp) h4 (by rw [h3];exact hall) (by rw [h3];simp only;omega)
      refine ⟨r1,?_⟩
      rw [r2,h3]
      simp only
      rw [show p.Serial+1+(es.length:Int)=p.Serial+((e::es).length:Int) by simp;omega]
      congr 1
      by_cases hn:es=[]
      · rw [if_pos hn,hn];rfl
      · rw [if_neg hn];unfold t7;rw [List.getLast?_cons_of_ne_nil hn]
  · rw [if_neg hc]
    obtain ⟨r1,r2⟩:=zDN p.Events out h (by omega) hx ((zG0 hz.2.2.2.2.2.2.1).2 ⟨hz.2.2.2.2.2.2.2.2,hf.2⟩) (by omega)
    refine ⟨r1,?_⟩
    rw [r2,if_neg hne]
    rw [show (xF out k).1=p.Serial by omega]
theorem zFQ (k:Int) {l:List zB} (h:vM l):vM (xR k l)∧xF (xR k l) k=xF l k:=by
  induction l using qT with
  | h0=>exact ⟨zDg,rfl⟩
  | h1 l p ih =>
    obtain ⟨g1,g2,g3⟩:=tE.1 h
    obtain ⟨i1,i2⟩:=ih g1
    rw [uN,u6]
    unfold pO
    by_cases hk:p.Thread=k
    · rw [if_pos hk]
      obtain ⟨r1,r2⟩:=zL7 i1 (zCh k l) hk g2 (by rw [← g3];exact zBs (by rw [hk];exact i2))
      exact ⟨r1,by rw [r2,u6,i2]⟩
    · rw [if_neg hk];unfold pI;rw [if_neg hk];exact ⟨i1,i2⟩

/-! All parts. -/
theorem zKQ {k:Int} {l:List zB} (h:∀ p∈l,p.Thread≠k):xR k l=[]:=by
  rw [← zGO,show ofT k l=[] from List.filter_eq_nil_iff.2 fun p hp=>by rw [yU (h p hp)];simp];rfl
theorem zLW (k j:Int) (l:List zB):ofT k (xR j l)=if j=k then xR k l else []:=by
  have h:=(zCh j l).2
  by_cases e:j=k
  · subst e
    rw [if_pos rfl]
    exact List.filter_eq_self.2 fun p hp=>y5 (h p hp)
  · rw [if_neg e]
    exact List.filter_eq_nil_iff.2 fun p hp=>by rw [yU (fun g=>e ((h p hp).symm.trans g))];simp
theorem zGm {h:zR} {l:List zB} (hn:(uF h).Nodup) (hk:∀ p∈l,p.Thread∈uF h) (k:Int):ofT k (y0 h l)=xR k l:=by
  unfold y0
  have h1:ofT k (h.Threads.flatMap fun t=>xR t.Id l)=(uF h).flatMap fun j=>if j=k then xR k l else []:=by
    unfold uF
    rw [List.flatMap_map]
    generalize h.Threads=ts
    induction ts with
    | nil=>rfl
    | cons t r ih =>
      rw [List.flatMap_cons,List.flatMap_cons,← ih,← zLW]
      exact List.filter_append ..
  rw [h1]
  by_cases hin:k∈uF h
  · revert hn hin
    clear h1 hk
    generalize uF h=ids
    intro hn hin
    induction ids with
    | nil=>cases hin
    | cons j r ih =>
      obtain ⟨n1,n2⟩:=List.nodup_cons.1 hn
      rw [List.flatMap_cons]
      by_cases e:j=k
      · subst e
        rw [if_pos rfl,show (r.flatMap fun i=>if i=j then xR j l else [])=[] from List.flatMap_eq_nil_iff.2 fun i hi=>if_neg fun (g:i=j)=>n1 (g ▸ hi),List.append_nil]
      · rw [if_neg e,List.nil_append]
        exact ih n2 (by rcases List.mem_cons.1 hin with g | g;exact absurd g.symm e;exact g)
  · rw [zKQ fun p hp (g:p.Thread=k)=>hin (g ▸ hk p hp)]
    exact List.flatMap_eq_nil_iff.2 fun i hi=>by split<;>rfl
theorem zKu {ids:List Int} (hn:ids.Nodup) {k:Int} (hk:k∈ids) (n:Nat):(ids.map fun i=>if k=i then n else 0).sum=n:=by
  induction ids with
  | nil=>cases hk
  | cons a r ih =>
    obtain ⟨h1,h2⟩:=List.nodup_cons.1 hn
    simp only [List.map_cons,List.sum_cons]
    by_cases h:k=a
    · subst h
      rw [if_pos rfl]
      have:∀ s:List Int,k∉s→(s.map fun i=>if k=i then n else 0).sum=0:=by
        intro s
        induction s with
        | nil=>intro _;rfl
        | cons b s ihs =>
          intro hs
          simp only [List.mem_cons,not_or] at hs
          simp only [List.map_cons,List.sum_cons,if_neg hs.1,ihs hs.2]
      rw [this r h1];omega
    · rw [if_neg h,ih h2 (by rcases List.mem_cons.1 hk with g | g;exact absurd g h;exact g)];omega
theorem zNw {ids:List Int} (hn:ids.Nodup) {l:List zB} (hk:∀ p∈l,p.Thread∈ids):(ids.map fun k=>evN (ofT k l)).sum=evN l:=by
  induction l with
  | nil =>
    clear hn hk
    induction ids with
    | nil=>rfl
    | cons a r ih=>simpa [ofT,evN] using ih
  | cons p r ih =>
    have h:(fun k=>evN (ofT k (p::r)))=fun k=>(if p.Thread=k then p.Events.length else 0)+evN (ofT k r):=by
      funext k
      unfold ofT
      rw [List.filter_cons]
      by_cases h:p.Thread=k
      · rw [if_pos h,if_pos (by simpa using h)];simp [evN]
      · rw [if_neg h,if_neg (by simpa using h)];simp
    rw [h,zJT,zKu hn (hk p (by simp)),ih fun q hq=>hk q (by simp [hq])]
    simp [evN]
theorem zJR {h:zR} {l:List zB} (hn:(uF h).Nodup) (hk:∀ p∈l,p.Thread∈uF h):evN (y0 h l)=evN l:=by
  rw [← zNw hn hk]
  unfold y0 uF
  rw [List.map_map]
  generalize h.Threads=ts
  induction ts with
  | nil=>rfl
  | cons t r ih =>
    rw [List.flatMap_cons,zJH,ih]
    simp only [List.map_cons,List.sum_cons,Function.comp]
    rw [show evN (xR t.Id l)=evN (ofT t.Id l) by rw [← zBL,← zBL,zCm]]
theorem zMy {h:zR} {l:List zB} (hn:(uF h).Nodup) (hg:zCs h l) (k:Int):xF (y0 h l) k=xF l k:=by
  rw [← zE4,zGm hn hg.known,(zFQ k hg.passed).2]
theorem zMR {h:zR} {l:List zB} (hn:(uF h).Nodup) (hg:zCs h l):zCs h (y0 h l):=by
  refine ⟨zKi.2 fun k=>?_,?_,by rw [zJR hn hg.known];exact hg.few⟩
  · rw [zGm hn hg.known];exact (zFQ k hg.passed).1
  · intro p hp
    obtain ⟨t,ht,hp⟩:=List.mem_flatMap.1 hp
    rw [(zCh t.Id l).2 p hp]
    exact List.mem_map.2 ⟨t,ht,rfl⟩
theorem zKZ {h:zR} {l:List zB} (hn:(uF h).Nodup) (hg:zCs h l) (k:Int):xR k (y0 h l)=xR k l:=by
  rw [← zGO,zGm hn hg.known,(zCh k l).1]
theorem zNf {h:zR} {l:List zB} (hn:(uF h).Nodup) (hg:zCs h l):y0 h (y0 h l)=y0 h l:=by
  have:=zKZ hn hg
  unfold y0 at this ⊢
  congr 1
  funext t
  rw [this]

/-! Further packets. -/
end Go.Ab
