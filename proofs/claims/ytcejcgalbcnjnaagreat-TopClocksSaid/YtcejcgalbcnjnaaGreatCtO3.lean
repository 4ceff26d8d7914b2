/- Lemmas. No conditions but those that they name. -/
import Derived.Test.YtcejcgalbcnjnaaGreatCtO2
namespace Go.Ab
open Go
set_option linter.unusedVariables false
structure Wt (l:z6) (m:Nat) (b:List Bool) (W:List (List Int)):Prop where
 len:W.length=l.Xc.Xd.length
 rl:∀ c<l.Xc.Xd.length,(W.getD c []).length<=m
 mem:∀ c<l.Xc.Xd.length,∀ x∈W.getD c [],0<=x/\x<m/\tA l c=(idA l x.toNat).Xb/\b.getD x.toNat false=false
 srt:∀ c<l.Xc.Xd.length,(W.getD c []).Pairwise (·<·)
 all:∀ c<l.Xc.Xd.length,∀ x<m,tA l c=(idA l x).Xb->b.getD x false=false->(x:Int)∈W.getD c []
section
variable {l:z6} {ρ τ:Nat->Int} {T:Int->Int->Int} {dm:Int->Int} {w:yR} {k:vT} {W:List (List Int)} {b:List Bool}
theorem zOI {m c:Nat} (h:Wt l m b W) (hc:c<l.Xc.Xd.length) (e:tA l c=(idA l m).Xb) (inj:∀ d<l.Xc.Xd.length,tA l d=(idA l m).Xb->d=c) (hb:b.getD m false=false):Wt l (m+1) b (W.set c (W.getD c []++[(m:Int)])):=by
 have hl:=h.len;refine ⟨by rw [kW];exact hl,fun d hd=>?_,fun d hd x hx=>?_,fun d hd=>?_,fun d hd x hx e2 hx2=>?_⟩
 all_goals rw [qT (by omega)] at *
 all_goals by_cases ed:d=c
 ·rw [if_pos ed,zla,zls];have:=h.rl c hc;omega
 ·rw [if_neg ed];have:=h.rl d hd;omega
 ·rw [if_pos ed] at hx;rcases wL.mp hx with hx | hx
  ·obtain ⟨a1,a2,a3,a4⟩:=h.mem c hc x hx;exact ⟨a1,by omega,by rw [ed];exact a3,a4⟩
  ·rw [uO.mp hx,wB,ed];exact ⟨by omega,by omega,e,hb⟩
 ·rw [if_neg ed] at hx;obtain ⟨a1,a2,a3⟩:=h.mem d hd x hx;exact ⟨a1,by omega,a3⟩
 ·rw [if_pos ed,zAJ];exact ⟨h.srt c hc,zA5 _ _,fun x hx y hy=>by rw [uO.mp hy];exact (h.mem c hc x hx).2.1⟩
 ·rw [if_neg ed];exact h.srt d hd
 ·rw [if_pos ed];rcases zlg x m with hh | hh
  ·exact rM _ (h.all c hc x hh (by rw [<- ed];exact e2) hx2)
  ·rw [show x=m by omega];exact bT _ (uO.mpr rfl)
 ·rw [if_neg ed];rcases zlg x m with hh | hh
  ·exact h.all d hd x hh e2 hx2
  ·exact absurd (inj d hd (by rw [e2,show x=m by omega])) ed
theorem zJP {m c:Nat} {j:Nat} {r:List Int} (h:Wt l m b W) (hc:c<l.Xc.Xd.length) (hr:W.getD c []=(j:Int)::r) (hj:j<b.length) (inj:∀ d<l.Xc.Xd.length,tA l d=(idA l j).Xb->d=c):Wt l m (b.set j true) (W.set c r):=by
 have hl:=h.len;have hs:=h.srt c hc;have hm:=h.mem c hc;rw [hr,J1] at hs;rw [hr] at hm;refine ⟨by rw [kW];exact hl,fun d hd=>?_,fun d hd x hx=>?_,fun d hd=>?_,fun d hd x hx e2 hx2=>?_⟩
 all_goals rw [qT (by omega)] at *
 all_goals by_cases ed:d=c
 ·rw [if_pos ed];have:=h.rl c hc;rw [hr,zlc] at this;omega
 ·rw [if_neg ed];exact h.rl d hd
 ·rw [if_pos ed] at hx;obtain ⟨a1,a2,a3,a4⟩:=hm x (qX _ hx)
  have:=hs.1 x hx
  rw [if_neg (by omega),ed];exact ⟨a1,a2,a3,a4⟩
 ·rw [if_neg ed] at hx;obtain ⟨a1,a2,a3,a4⟩:=h.mem d hd x hx;refine ⟨a1,a2,a3,?_⟩
  split
  ·rename_i ej
   exact absurd (inj d hd (by rw [a3,ej])) ed
  ·exact a4
 ·rw [if_pos ed];exact hs.2
 ·rw [if_neg ed];exact h.srt d hd
 ·rw [if_pos ed]
  split at hx2
  ·cases hx2
  ·rename_i ej
   have:=h.all c hc x hx (by rw [<- ed];exact e2) hx2
   rw [hr] at this;rcases uA.mp this with hh | hh
   ·exact absurd (by omega) ej
   ·exact hh
 ·rw [if_neg ed]
  split at hx2
  ·cases hx2
  ·exact h.all d hd x hx e2 hx2
theorem LT (h:Al l ρ τ T dm) (hk:Kn l ρ τ w k) {x:Nat} (hx:x<evN l.Xa):∃ c<l.Xc.Xd.length,tA l c=(idA l x).Xb/\(∀ d<l.Xc.Xd.length,tA l d=(idA l x).Xb->d=c)/\(zV (k.Ya.getD []) (idA l x).Xb).getD 0=(c:Int):=by
 obtain ⟨o,e,ho⟩:=hk.col;obtain ⟨c,h1,h2,h3⟩:=zEl h ho hx;rw [e,jE];exact ⟨c,h1,h2,fun d hd ed=>ZM h hd h1 (by rw [ed,h2]),h3⟩
theorem zLU (h:Al l ρ τ T dm) (hk:Kn l ρ τ w k):Ok (HR FF l (k,0) FF 0 (List.map (fun _=>([]:List Int)) (List.replicate l.Xc.Xd.length ([]:List Int)))) (Wt l (evN l.Xa) (List.replicate (evN l.Xa) false)):=by
 have hn:=h.tr.n;have ht:=h.tr.thl;have hrl:=hk.tm.len;have hrep:∀ (x:Nat),(List.replicate (evN l.Xa) false).getD x false=false:=fun x=>by
  rw [vQ,iE];split<;>rfl
 have hrow:∀ c,(List.map (fun _=>([]:List Int)) (List.replicate l.Xc.Xd.length ([]:List Int))).getD c []=[]:=fun c=>by
  rw [vQ,vD,iE];split<;>rfl
 refine v9 (σ:=Nat×List (List Int)) (fun n s=>HR FF l (k,0) n s.1 s.2)
  (fun s=>s.1<=evN l.Xa/\Wt l s.1 (List.replicate (evN l.Xa) false) s.2) _ (fun s=>evN l.Xa - s.1) ?_ (0,_) ⟨wI _,⟨by simp,fun c hc=>?_,fun c hc x hx=>?_,fun c hc=>?_,fun c hc x hx=>?_⟩⟩
 ·rintro n ⟨i,W⟩ ⟨h1,h2⟩ ih;simp only at h1 h2 ih ⊢;have hWl:=h2.len;show Ok (VD _ _ _ _ _ _) _;unfold VD;simp only;refine xV (fun hi=>?_) fun hi=>yB (by rw [show i=evN l.Xa by omega] at h2;exact h2)
  have hi':i<evN l.Xa:=by omega
  refine vK (by omega) hi fun x hx=>?_
  rw [wB] at hx;have hx:=(getD_some (d:=default) hx).symm;obtain ⟨c,c1,c2,c3,c4⟩:=LT h hk hi';have hrlc:=h2.rl c c1;rw [hx,hk.tm.id i hi',c4];refine wO fun y hy=>wP (by omega) (wP ?_ (wP (by omega) ?_))
  all_goals
   rw [wB] at hy;have hy:=(getD_some (d:=[]) hy).symm
  ·rw [hy,zls];omega
  ·rw [w5,hy,wB];exact ih (i+1,_) ⟨by simp only;omega,zOI h2 c1 c2 c3 (hrep i)⟩ (by simp only;omega)
 all_goals simp only at *
 ·rw [hrow];exact yI _
 ·rw [hrow] at hx;cases hx
 ·rw [hrow];exact List.Pairwise.nil
 ·omega
def KJ (l:z6) (k:vT) (W:List (List Int)) (i c:Nat):Prop:=tA l c≠(idA l i).Xb->∀ y r,W.getD c []=y::r->(k.Yg.getD i []).getD c 0<=(idA l y.toNat).Xf
def W9 (l:z6) (k:vT) (W:List (List Int)) (i:Nat):Prop:=∀ c<l.Xc.Xd.length,KJ l k W i c
theorem zGl (h:Al l ρ τ T dm) (hk:Kn l ρ τ w k) (hW:Wt l (evN l.Xa) b W) {i:Nat} (hi:i<evN l.Xa):Ok (RM FF (i:Int) W k) fun r=>r=true↔W9 l k W i:=by
 have hn:=h.tr.n;have ht:=h.tr.thl;have hrl:=hk.tm.len;have hvl:=hk.vs.1;have hWl:=hW.len;unfold RM;refine yX (P:=fun o:Unit⊕Bool=>(o=.inl ()/\W9 l k W i)\/(o=.inr false/\¬W9 l k W i)) ?_ ?_
 ·refine v9 (σ:=Nat) (fun n s=>NW FF i W k n s) (fun s=>s<=l.Xc.Xd.length/\∀ c<s,KJ l k W i c) _ (fun s=>l.Xc.Xd.length - s) ?_ 0 ⟨wI _,fun c hc=>by omega⟩;rintro n v ⟨h1,h2⟩ ih;show Ok (SO _ _ _ _ _ _) _;unfold SO;refine xV (fun hv=>?_) fun hv=>yB (.inl ⟨rfl,fun c hc=>h2 c (by omega)⟩)
  have hv':v<l.Xc.Xd.length:=by omega
  refine vK (by omega) hv fun x hx=>?_
  rw [wB] at hx;have hx:=(getD_some (d:=[]) hx).symm;refine yX (P:=fun p=>p=true↔¬KJ l k W i v) ?_ ?_
  ·refine wO fun t et=>?_
   rw [wB] at et;have et:=(getD_some (d:=default) et).symm;obtain ⟨c,c1,c2,c3,c4⟩:=LT h hk hi;rw [et,hk.tm.id i hi,c4];refine vZ (fun e1=>?_) fun e1=>yB ?_
   ·have ne:v≠c:=fun e=>by rw [e] at e1;simp at e1
    have ne2:tA l v≠(idA l i).Xb:=fun e=>ne (c3 v hv' e)
    refine xV (fun hp=>?_) fun hp=>yB ?_
    ·refine wO fun y hy=>?_
     rcases hWv:W.getD v [] with _ | ⟨y0,r⟩
     ·rw [hx,hWv] at hp;simp at hp
     rw [hx,hWv] at hy;have ey:y0=y:=by simpa using hy
     obtain ⟨m1,m2,m3,m4⟩:=hW.mem v hv' y (by rw [hWv,ey];exact tK ..);refine vK m1 (by omega) fun z hz=>wO fun u hu=>?_
     have hz:=(getD_some (d:=default) hz).symm;rw [wB] at hu;have hu:=(getD_some (d:=[]) hu).symm;have hul:=(hk.vs.2 i hi).len;rw [<- hu] at hul;refine wO fun q hq=>yB ?_
     rw [wB] at hq;have hq:=(getD_some (d:=0) hq).symm;rw [hz,hk.tm.id _ (by omega),decide_eq_true_iff];unfold KJ;rw [hWv,ey,<- hu,<- hq]
     constructor
     ·intro hlt hf
      have:=hf ne2 y r rfl
      omega
     ·intro hf;apply GN;intro hge;refine hf fun _ y' r' e'=>?_
      injection e' with e' _;rw [<- e'];omega
    ·have hnil:W.getD v []=[]:=by rw [<- hx];exact dN.mp (by omega)
     unfold KJ;rw [hnil];simp
   ·have e0:(v:Int)=c:=by simpa using e1
    have e:v=c:=by omega
    have e2:tA l v=(idA l i).Xb:=by rw [e,c2]
    unfold KJ;simp [e2]
  ·intro p hp;refine vZ (fun e=>yB (.inr ⟨rfl,fun hf=>hp.mp e (hf v hv')⟩)) fun e=>?_
   rw [w5];refine ih (v+1) ⟨by omega,fun c hc=>?_⟩ (by omega);rcases zlg c v with hh | hh
   ·exact h2 c hh
   ·rw [show c=v by omega];apply GN;intro hf;rw [hp.mpr hf] at e;cases e
 ·rintro _ (⟨rfl,hf⟩ | ⟨rfl,hf⟩)
  ·exact yB (by simp [hf])
  ·exact yB (by simp [hf])
def hdN (W:List (List Int)) (c:Nat):Nat:=((W.getD c []).getD 0 0).toNat
def HF (l:z6) (k:vT) (W:List (List Int)) (c:Nat):Prop:=W.getD c []≠[]/\W9 l k W (hdN W c)
def LoH (k:vT) (W:List (List Int)) (c:Nat):Int:=(k.Xu.getD (hdN W c) default).Xk.Lo
theorem GB (hW:Wt l (evN l.Xa) b W) {c:Nat} (hc:c<l.Xc.Xd.length) (hne:W.getD c []≠[]):∃ r,W.getD c []=(hdN W c:Int)::r/\hdN W c<evN l.Xa/\tA l c=(idA l (hdN W c)).Xb/\b.getD (hdN W c) false=false:=by
 rcases hWv:W.getD c [] with _ | ⟨y,r⟩
 ·exact absurd hWv hne
 have:=hW.mem c hc y (by rw [hWv];exact tK ..)
 unfold hdN;rw [hWv];show ∃ r',y::r=(y.toNat:Int)::r'/\y.toNat<_/\_/\_;exact ⟨r,by rw [show (y.toNat:Int)=y by omega],by omega,this.2.2⟩
theorem zJi (h:Al l ρ τ T dm) (hk:Kn l ρ τ w k) (hW:Wt l (evN l.Xa) b W):Ok (JF FF (k,0) W FF (-1) 0) fun o=>(o = -1/\∀ c<l.Xc.Xd.length,¬HF l k W c)\/∃ d<l.Xc.Xd.length,o=d/\HF l k W d/\∀ c<l.Xc.Xd.length,HF l k W c->LoH k W d<=LoH k W c:=by
 have hn:=h.tr.n;have ht:=h.tr.thl;have hrl:=hk.tm.len;have hWl:=hW.len;have get:∀ {c:Nat} {x:List Int},c<l.Xc.Xd.length->x=W.getD c []->x≠[]->∀ (R:Type) (f:Int->Option R) (P:R->Prop),Ok (f (hdN W c)) P->Ok ((z0 x 0).bind f) P:=by
  intro c x hc hx hne R f P hf;obtain ⟨r,e,_⟩:=GB hW hc (by rw [<- hx];exact hne);rw [hx,e];exact hf
 refine v9 (σ:=Int×Nat) (fun n s=>JF FF (k,0) W n s.1 s.2)
  (fun s=>s.2<=l.Xc.Xd.length/\((s.1 = -1/\∀ c<s.2,¬HF l k W c)\/∃ d<s.2,s.1=d/\HF l k W d/\∀ c<s.2,HF l k W c->LoH k W d<=LoH k W c)) _ (fun s=>l.Xc.Xd.length - s.2) ?_ (-1,0) ⟨wI _,.inl ⟨rfl,fun c hc=>by simp only at hc;omega⟩⟩
 rintro n ⟨o,v⟩ ⟨h1,h2⟩ ih;simp only at h1 h2 ih ⊢;show Ok (YA _ _ _ _ _ _) _;unfold YA;simp only;refine xV (fun hv=>?_) fun hv=>yB (by rw [show l.Xc.Xd.length=v by omega];exact h2)
 have hv':v<l.Xc.Xd.length:=by omega
 refine vK (by omega) hv fun x hx=>?_
 rw [wB] at hx;have hx:=(getD_some (d:=[]) hx).symm;refine yX (P:=fun p=>(p=true->HF l k W v/\(o = -1\/∃ d<v,o=d/\LoH k W v<LoH k W d))/\(p=false->HF l k W v->∃ d<v,o=d/\LoH k W d<=LoH k W v)) ?_ ?_
 ·refine xV (fun hp=>?_) fun hp=>yB ⟨fun e=>(by cases e),fun _ hf=>?_⟩
  ·have hne:x≠[]:=fun e=>by rw [e] at hp;simp at hp
   obtain ⟨r,m1,m2,m3,m4⟩:=GB hW hv' (by rw [<- hx];exact hne);refine get hv' hx hne _ _ _ (yX (zGl h hk hW m2) fun f hf=>vZ (fun e=>?_) fun e=>yB ⟨fun e=>(by cases e),fun _ hf2=>?_⟩)
   ·have hHF:HF l k W v:=⟨by rw [<- hx];exact hne,hf.mp e⟩;refine xV (fun hb=>yB ⟨fun _=>⟨hHF,.inl ?_⟩,fun e=>(by cases e)⟩) fun hb=>?_
    ·rcases h2 with h2 | ⟨d,_,h2,_⟩
     ·exact h2.1
     ·omega
    ·rcases h2 with h2 | ⟨d,d1,d2,d3,d4⟩
     ·omega
     obtain ⟨r2,p1,p2,p3,p4⟩:=GB hW (by omega) d3.1;refine get hv' hx hne _ _ _ (wO fun z hz=>?_);rw [d2];refine wO fun x7 hx7=>?_
     rw [wB] at hz hx7;have hx7:=(getD_some (d:=[]) hx7).symm;refine get (c:=d) (by omega) hx7 (by rw [hx7];exact d3.1) _ _ _ (wO fun z2 hz2=>yB ?_);rw [wB] at hz2;have hz:=(getD_some (d:=default) hz).symm;have hz2:=(getD_some (d:=default) hz2).symm;have e1:z.Xk.Lo=LoH k W v:=by rw [hz];rfl
     have e2:z2.Xk.Lo=LoH k W d:=by rw [hz2];rfl
     rw [e1,e2,decide_eq_true_iff,decide_eq_false_iff_not];exact ⟨fun hlt=>⟨hHF,.inr ⟨d,d1,rfl,hlt⟩⟩,fun hge _=>⟨d,d1,rfl,by omega⟩⟩
   ·rw [hf.mpr hf2.2] at e;cases e
  ·refine absurd ?_ hf.1;rw [<- hx];exact dN.mp (by omega)
 ·rintro p ⟨p1,p2⟩;rw [w5];refine vZ (fun e=>?_) fun e=>?_
  ·obtain ⟨q1,q2⟩:=p1 e;refine ih ((v:Int),v+1) ⟨by simp only;omega,.inr ⟨v,by simp only;omega,rfl,q1,fun c hc hf=>?_⟩⟩ (by simp only;omega);simp only at hc;rcases zlg c v with hh | hh
   ·rcases h2 with ⟨_,h2⟩ | ⟨d,d1,d2,d3,d4⟩
    ·exact absurd hf (h2 c hh)
    ·have a1:=d4 c hh hf;rcases q2 with q2 | ⟨d',_,q2,q3⟩
     ·omega
     ·rw [show d'=d by omega] at q3;omega
   ·rw [show c=v by omega];exact aH _
  ·refine ih (o,v+1) ⟨by simp only;omega,?_⟩ (by simp only;omega);simp only;rcases h2 with ⟨e0,h2⟩ | ⟨d,d1,d2,d3,d4⟩
   ·refine .inl ⟨e0,fun c hc hf=>?_⟩;rcases zlg c v with hh | hh
    ·exact h2 c hh hf
    ·rw [show c=v by omega] at hf;obtain ⟨d,_,hd,_⟩:=p2 e hf;omega
   ·refine .inr ⟨d,by omega,d2,d3,fun c hc hf=>?_⟩;rcases zlg c v with hh | hh
    ·exact d4 c hh hf
    ·rw [show c=v by omega] at hf ⊢;obtain ⟨d',_,hd,hle⟩:=p2 e hf;rw [show d'=d by omega] at hle;exact hle
end
end Go.Ab
