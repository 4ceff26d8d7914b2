/- Lemmas. No conditions but those that they name. -/
import Derived.Test.YtcejcgalbcnjnaaGreatCtd
namespace Go.Ab
open Go
set_option linter.unusedVariables false
def zGs (h:wR) (l:List zO):Prop:=h.Xd.length<=70/\h.Xi.length<=10/\h.Xl.length<=20/\l.length<=30/\evN l<=3000
instance decLightS {h:wR} {l:List zO}:Decidable (zGs h l):=inferInstanceAs (Decidable (_/\_))
theorem zKB {e:y8} (h:evS e=0):e.Xs.length<=32:=by
 rcases zlg 32 e.Xs.length with hgt | hle
 ·exfalso
  unfold evS at h
  split at h
  ·omega
  split at h
  ·omega
  split at h
  ·omega
  rename_i hb
  have hb:rL e=false:=by simpa using hb
  cases hu:A5 e.Xg with
  | false=>exact zFw hb hu (by omega)
  | true =>
   have hn:AQ e.Xg=false:=by
    cases hn:AQ e.Xg
    ·rfl
    ·rw [zOi _ hn] at hu;cases hu
   have ht:DT e=7:=by
    unfold DT;rw [hn,hu];simp only [SW,if_false,if_true];unfold M9;rw [if_pos hgt]
   rw [if_pos (by rw [ht];omega),ht] at h;omega
 ·exact hle
theorem zNl {p:zO} (h:kY p=0):∀ e∈p.Xe,e.Xs.length<=32:=by
 intro e he;exact zKB (zJx (lJ h).2.2.2.2.2.2.2.2 e he)
def evs (l:List zO):List y8:=l.flatMap (·.Xe)
theorem QG (l m:List zO):evs (l++m)=evs l++evs m:=by simp [evs]
theorem U0 (l:List zO):(evs l).length=evN l:=by
 induction l with
 | nil=>rfl
 | cons a r ih=>simp [evs,evN] at *
theorem zIz {out:List zO} (h:0<out.length):evs out=evs (ini out)++(lst out).Xe:=by
 conv=>lhs;rw [G7 h,QG]
 simp [evs]
theorem zGF {out:List zO} (h:0<out.length) (e:y8):evs (fE out e)=evs out++[e]:=by
 unfold fE
 split
 ·unfold lU;rw [CY,v4,QG];simp [evs]
 ·unfold lU;rw [QG,zIz h];simp [evs]
theorem zCY:∀ (xs:List y8) (out:List zO),0<out.length->evs (xs.foldl fE out)=evs out++xs
 | [],out,_=>by simp
 | x::xs,out,h=>by
  have h1:0<(fE out x).length:=by unfold fE;split<;>exact QA _ _
  rw [aF,zCY xs _ h1,zGF h];simp
theorem zD0 (out:List zO) (p:zO):0<(d9 out p).length:=by
 unfold d9
 split
 ·simp
 ·omega
theorem zM1 (out:List zO) (p:zO):evs (d9 out p)=evs out:=by
 unfold d9
 split
 ·rw [QG];simp [evs]
 ·rfl
theorem zG4 (out:List zO) (p:zO):evs (AY out p)=evs out++p.Xe:=by
 unfold AY;rw [zCY _ _ (zD0 _ _),zM1]
def ofT (k:Int) (l:List zO):List zO:=l.filter fun p=>decide (p.Xb=k)
theorem zML (k:Int) (l:List zO) (p:zO):ofT k (l++[p])=ofT k l++if p.Xb=k then [p] else []:=by
 unfold ofT;rw [List.filter_append]
 by_cases h:p.Xb=k<;>simp [h]
theorem zAu (k:Int) (l:List zO):evs (tL k l)=evs (ofT k l):=by
 induction l using TC with
 | h0=>rfl
 | h1 l p ih =>
  rw [UR,zML,QG];unfold KN
  by_cases h:p.Xb=k
  ·rw [if_pos h,if_pos h,zG4,ih];simp [evs]
  ·rw [if_neg h,if_neg h,ih];simp [evs]
def mQ (l:List zO):Prop:=∀ q∈l,0<q.Xe.length
theorem zNw {out:List zO} (h:0<out.length) (hf:mQ (ini out)) (e:y8):mQ (ini (fE out e))/\0<(lst (fE out e)).Xe.length:=by
 unfold fE
 split
 ·rename_i hl
  refine ⟨?_,by rw [dE];simp⟩;rw [zBN,CY,G7 h];intro q hq;rcases wL.1 hq with hq | hq
  ·exact hf q hq
  ·rw [uO.1 hq];omega
 ·exact ⟨by rw [zBN];exact hf,by rw [dE];simp⟩
theorem zFL:∀ (xs:List y8) (out:List zO),0<out.length->mQ (ini out)->0<xs.length->mQ (xs.foldl fE out)
 | [],_,_,_,h=>by simp at h
 | x::xs,out,h0,hf,_=>by
  obtain ⟨h1,h2⟩:=zNw h0 hf x;have h3:0<(fE out x).length:=by unfold fE;split<;>exact QA _ _
  rw [aF];cases xs with
  | nil =>
   simp only [List.foldl_nil];rw [G7 h3];intro q hq;rcases wL.1 hq with hq | hq
   ·exact h1 q hq
   ·rw [uO.1 hq];exact h2
  | cons y ys=>exact zFL (y::ys) _ h3 h1 (by simp)
theorem zN4 {l:List zO} (h:mQ l):mQ (ini l):=fun q hq=>h q (List.dropLast_subset l hq)
theorem zJO {out:List zO} {p:zO} (h:mQ out) (hp:0<p.Xe.length):mQ (AY out p):=by
 unfold AY;refine zFL _ _ (zD0 _ _) ?_ hp;unfold d9
 split
 ·rw [CY];exact h
 ·exact zN4 h
theorem zOy (k:Int) (l:List zO) (hv:o9 l):mQ (tL k l):=by
 induction l using TC with
 | h0=>intro q hq;cases hq
 | h1 l p ih =>
  have ih:=ih fun q hq=>hv q (by simp [hq])
  rw [UR];unfold KN
  by_cases h:p.Xb=k
  ·rw [if_pos h];exact zJO ih (zIn hv (by simp))
  ·rw [if_neg h];exact ih
theorem zOs {l:List zO} (h:mQ l):l.length<=evN l:=by
 induction l with
 | nil=>simp
 | cons a r ih =>
  have h1:=h a (by simp);have h2:=ih fun q hq=>h q (by simp [hq])
  simp only [evN,uM,lS,zlc] at *;omega
theorem zHF {ids:List Int} (hn:ids.Nodup) (k:Int) (n:Nat):(ids.map fun i=>if k=i then n else 0).sum<=n:=by
 induction ids with
 | nil=>simp
 | cons a r ih =>
  obtain ⟨h1,h2⟩:=CD.1 hn;simp only [uM,lS]
  by_cases h:k=a
  ·subst h;rw [if_pos rfl]
   have:(r.map fun i=>if k=i then n else 0).sum=0:=by
    clear ih hn h2
    induction r with
    | nil=>rfl
    | cons b s ihs =>
     simp only [uA,not_or] at h1;simp only [uM,lS,if_neg h1.1,ihs h1.2]
   omega
  ·rw [if_neg h];have:=ih h2;omega
theorem zLb {α:Type} (f g:α->Nat) (l:List α):(l.map fun i=>f i+g i).sum=(l.map f).sum+(l.map g).sum:=by
 induction l with
 | nil=>rfl
 | cons a r ih=>simp only [uM,lS,ih];omega
theorem zHg {ids:List Int} (hn:ids.Nodup) (l:List zO):(ids.map fun k=>evN (ofT k l)).sum<=evN l:=by
 induction l with
 | nil =>
  clear hn
  induction ids with
  | nil=>simp
  | cons a r ih=>simpa [ofT,evN] using ih
 | cons p r ih =>
  have h:(fun k=>evN (ofT k (p::r)))=fun k=>(if p.Xb=k then p.Xe.length else 0)+evN (ofT k r):=by
   funext k
   unfold ofT;rw [L6]
   by_cases h:p.Xb=k
   ·rw [if_pos h,if_pos (by simpa using h)];simp [evN]
   ·rw [if_neg h,if_neg (by simpa using h)];simp
  rw [h,zLb]
  have:=zHF hn p.Xb p.Xe.length
  simp only [evN,uM,lS] at *;omega
theorem zCc {h:wR} (hh:gF h=0):(cE h).Nodup:=by
 unfold gF at hh
 split at hh
 ·omega
 split at hh
 ·omega
 split at hh
 ·rename_i q hq
  exfalso
  have:∀ (i:Nat) (m:List wN) q,u6 (thF h.Xd) i m=.inr q->q≠0:=by
   intro i m
   induction m generalizing i with
   | nil=>intro q h;cases h
   | cons a r ih =>
    intro q hq;simp only [u6] at hq;cases hf:thF h.Xd i a with
    | none=>rw [hf] at hq;exact ih _ _ hq
    | some b =>
     rw [hf] at hq;injection hq with hq;subst hq;unfold thF at hf
     split at hf
     ·injection hf with hf;omega
     ·split at hf
      ·injection hf with hf;omega
      ·cases hf
  exact this _ _ _ hq hh
 ·rename_i hq
  have hn:=zDp hq;simp only [cQ] at hn;unfold cE
  have:∀ i t,h.Xd[i]?=some t->t.Id∉(h.Xd.take i).map (·.Id):=by
   intro i t hi hm
   have:=hn i t hi
   unfold thF at this;rw [if_pos hm] at this
   split at this<;>cases this
  clear hn hq hh;generalize h.Xd=ts at this
  induction ts using TC with
  | h0=>simp
  | h1 ts t ih =>
   rw [nH,List.nodup_append];refine ⟨ih fun i x hi hm=>?_,by simp,?_⟩
   ·have hlt:=(vO.1 hi).1;refine this i x (by rw [uH hlt];exact hi) ?_;rw [List.take_append_of_le_length (by omega)];exact hm
   ·intro a ha b hb;simp only [uM,MB,uO] at hb;subst hb
    have:=this ts.length t (by simp)
    simp only [List.take_left'] at this;intro e;subst e;exact this ha
theorem zJS {h:wR} {l:List zO} (hh:gF h=0) (hv:o9 l) (hN:evN l<=100000):RL (DE h l)/\(DE h l).length<=evN l:=by
 have hmem:∀ p∈DE h l,∃ k,p∈tL k l:=by
  intro p hp;obtain ⟨t,_,hp⟩:=aB.1 hp;exact ⟨t.Id,hp⟩
 have hlen:(DE h l).length<=evN l:=by
  refine kX ?_ (zHg (zCc hh) l);unfold DE cE;rw [List.length_flatMap,QL];generalize h.Xd=ts
  induction ts with
  | nil=>simp
  | cons t r ih =>
   simp only [uM,lS,Function.comp];have h1:=zOs (zOy t.Id l hv);have h2:evN (tL t.Id l)=evN (ofT t.Id l):=by rw [<- U0,<- U0,zAu]
   simp only [tY] at *;omega
 refine ⟨⟨by omega,fun p hp=>?_⟩,hlen⟩;obtain ⟨k,hk⟩:=hmem p hp;have hsub:∀ e∈p.Xe,e∈evs (ofT k l):=fun e he=>by
  rw [<- zAu];exact aB.2 ⟨p,hk,he⟩
 constructor
 ·have h1:=zFj hk;have h2:evN (tL k l)=evN (ofT k l):=by rw [<- U0,<- U0,zAu]
  have h3:evN (ofT k l)<=evN l:=by
   have:∀ m:List zO,evN (ofT k m)<=evN m:=by
    intro m
    induction m with
    | nil=>simp [ofT,evN]
    | cons a r ih =>
     unfold ofT at *;rw [L6]
     split
     ·simp only [evN,uM,lS] at *;omega
     ·simp only [evN,uM,lS] at *;omega
   exact this l
  omega
 ·intro e he;obtain ⟨q,hq,heq⟩:=aB.1 (hsub e he)
  have:=zNl (hv q (mG.1 hq).1) e heq
  omega
theorem zG5 {h:wR} {l:List zO} (ht:h.Xd.length<=100000) (hd:h.Xi.length<=100000) (hs:h.Xl.length<=100000) (hN:evN l<=100000):zEt (cY h l).1:=by
 unfold cY
 split
 ·exact ⟨by simp [mS],by simp [mS],by simp [mS],by simp [RL,mS]⟩
 split
 ·exact ⟨by simp [mS],by simp [mS],by simp [mS],by simp [RL,mS]⟩
 ·rename_i h1 h2
  have hg:=zAo.1 (show AR h l=0 by omega);exact ⟨kX ht (by omega),kX hd (by omega),kX hs (by omega),(zJS (by omega) hg.passed.valids hN).1⟩
end Go.Ab
