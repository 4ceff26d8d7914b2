/- Lemmas. No conditions but those that they name. -/
import Derived.Test.YtcejcgalbcnjnaaGreatCtR
import Derived.Test.YtcejcgalbcnjnaaGreatCtf
namespace Go.Ab
open Go
set_option linter.unusedVariables false
def FF:Nat:=281474976710656
theorem v9 {σ R:Type} (L:Nat->σ->Option R) (Inv:σ->Prop) (Post:R->Prop) (μ:σ->Nat)
  (h:∀ n s,Inv s->(∀ s',Inv s'->μ s'<μ s->Ok (L n s') Post)->Ok (L (n+1) s) Post) (s:σ) (hi:Inv s) (hm:μ s<281474976710656:=by first | omega | (simp only;omega)):Ok (L FF s) Post:=gN L Inv Post μ h FF s hi hm
def evL (l:List zO):List y8:=l.flatMap (·.Xe)
theorem LH (l:List zO):(evL l).length=evN l:=by simp [evL,evN]
def eA (l:z6) (i:Nat):y8:=(evL l.Xa).getD i default
def idA (l:z6) (i:Nat):xU:=(uE l.Xa).getD i default
structure Tr (l:z6) (ρ:Nat->Int):Prop where
 small:Small l.Xc l.Xa
 chk:C9 l=0
 n:evN l.Xa<=32
 thl:l.Xc.Xd.length<=1000
 nd:(uE l.Xa).Nodup
 th:∀ i<evN l.Xa,∃ t∈l.Xc.Xd,t.Id=(idA l i).Xb
 snd:∀ i<evN l.Xa,∀ j<evN l.Xa,(eA l i).Xg=6->(eA l j).Xg=6->(eA l i).N=(eA l j).N->i=j
 e1:∀ i j,i<j->j<evN l.Xa->(idA l i).Xb=(idA l j).Xb->ρ i<ρ j/\(idA l i).Xf<(idA l j).Xf
 ser:∀ i<evN l.Xa,0<=(idA l i).Xf/\(idA l i).Xf<=1000000000000000
 e2:∀ k<evN l.Xa,∀ i<evN l.Xa,(eA l k).Xg=6->(eA l i).Xg=7->(eA l k).N=(eA l i).N->ρ k<ρ i
 e3:∀ a<evN l.Xa,∀ b<evN l.Xa,(eA l a).At<(eA l b).At->(∃ s∈l.Xc.Xd,∃ t∈l.Xc.Xd,s.Id=(idA l a).Xb/\t.Id=(idA l b).Xb/\s.Xx=t.Xx)->ρ a<ρ b
theorem TU {α:Type} {l:List α} {d:α} (h:l.Nodup) {i j:Nat} (hij:i<j) (hj:j<l.length):l.getD i d≠l.getD j d:=by
 have:=BI.mp h i j (by omega) hj hij
 rw [vQ,vQ,w7 (by omega),w7 hj];exact this
section
variable {l:z6} {ρ:Nat->Int}
theorem zLf (hs:Small l.Xc l.Xa):BU FF l FF 0 []=some (evL l.Xa):=by
 have key:∀ (n i:Nat),(l.Xa.drop i).length<n->BU FF l n (i:Nat) (evL (l.Xa.take i))=some (evL l.Xa):=by
  intro n
  induction n with
  | zero=>intro i h;omega
  | succ n ih =>
   intro i hn;show NZ _ _ _ _ _=_;unfold NZ;rcases hd:l.Xa.drop i with _ | ⟨x,r⟩
   ·have:=fM hd
    rw [xN (by omega),cond_false,kC this]
   ·have hi:=fL hd;have h1:=RA l.Xa (i+1);have h2:=hs.n;have h3:=hs.len;rw [hd] at hn;simp only [zlc] at hn
    have:=ih (i+1) (by rw [nN hd];omega)
    rw [lD hd,show evL (l.Xa.take i++[x])=evL (l.Xa.take i)++x.Xe by simp [evL]] at this;rw [lD hd,XY] at h1;rw [wE (by omega),cond_true,qB hd,zbs,tB (by rw [LH];omega),zbs,j6 (by omega)];exact this
 exact key FF 0 (by have:=hs.len;show (l.Xa.drop 0).length<281474976710656;simp;omega)
def M6 (ids:List xU) (v:Nat) (m:List (xU×Int)):Prop:=m.length<=v/\∀ i<v,zV m (ids.getD i default)=some (i:Int)
theorem zNo (h:Tr l ρ):Ok (GP FF l) fun r=>r.2=0/\∃ m,M6 (uE l.Xa) (evN l.Xa) m/\r.1=⟨l,uE l.Xa,some m,evL l.Xa,List.replicate (evN l.Xa) []⟩:=by
 have hn:=h.n;have hil:(uE l.Xa).length=evN l.Xa:=rK _;have hel:=LH l.Xa;unfold GP;refine pU (show rV FF l=_ from ZV h.small) ?_;rw [h.chk];refine pU (show C1 FF l=_ from zD9 h.small) ?_;rw [V7,if_pos h.chk];refine pU (zLf h.small) ?_;refine yX (P:=fun o:(List (xU×Int))⊕(yR×Int)=>∃ m,o=.inl m/\M6 (uE l.Xa) (evN l.Xa) m) ?_ ?_
 ·refine v9 (σ:=Nat×List (xU×Int)×List (Int×Int)) (fun n s=>E3 FF (uE l.Xa) (evL l.Xa) n s.1 s.2.1 s.2.2)
   (fun s=>s.1<=evN l.Xa/\M6 (uE l.Xa) s.1 s.2.1/\s.2.2.length<=s.1/\∀ N,zV s.2.2 N≠none->∃ i<s.1,(eA l i).Xg=6/\(eA l i).N=N)
   _ (fun s=>evN l.Xa - s.1) ?_ (0,[],[]) ⟨wI _,⟨wI _,fun i hi=>by omega⟩,wI _,fun N hN=>absurd rfl hN⟩
  rintro n ⟨i,m,t⟩ ⟨h1,⟨h2,h3⟩,h4,h5⟩ ih;simp only at h1 h2 h3 h4 h5 ih ⊢;show Ok (RW _ _ _ _ _ _ _) _;unfold RW;refine xV (fun hi=>?_) fun hi=>yB ⟨m,rfl,by rw [show evN l.Xa=i by omega];exact ⟨h2,h3⟩⟩
  refine wO fun x hx=>wP (by omega) ?_
  have ex:x=(uE l.Xa).getD i default:=(getD_some hx).symm;refine wO fun e he=>?_
  have ee:e=eA l i:=(getD_some he).symm;have hm:M6 (uE l.Xa) (i+1) (xC m x i):=by
   refine ⟨by have:=dG m x (i:Int);omega,fun j hj=>?_⟩;rw [dJ,ex];rcases zlg j i with hji | hji
   ·rw [if_neg,h3 j hji];intro hh;exact TU h.nd hji (by omega) hh.symm
   ·rw [show j=i by omega,if_pos rfl]
  rw [w5];refine vZ (fun hk=>?_) fun hk=>?_
  ·have hk':(eA l i).Xg=6:=by rw [<- ee];exact eq_of_beq hk
   have hnone:zV t e.N=none:=by
    cases hq:zV t e.N with
    | none=>rfl
    | some v =>
     obtain ⟨j,j1,j2,j3⟩:=h5 e.N (by rw [hq];exact fun h=>by cases h)
     have:=h.snd j (by omega) i (by omega) j2 hk' (by rw [j3,ee])
     omega
   rw [hnone];refine xV (fun hh=>absurd hh (by decide)) fun _=>wP (by omega) ?_
   refine ih (i+1,_,_) ⟨by simp only;omega,hm,?_,fun N hN=>?_⟩ (by simp only;omega)
   ·have:=dG t e.N 1
    simp only;omega
   ·simp only at hN;rw [dJ] at hN
    by_cases he2:e.N=N
    ·exact ⟨i,by simp only;omega,hk',by rw [<- ee];exact he2⟩
    ·rw [if_neg he2] at hN;obtain ⟨j,j1,j2⟩:=h5 N hN;exact ⟨j,by simp only;omega,j2⟩
  ·refine ih (i+1,_,_) ⟨by simp only;omega,hm,by simp only;omega,fun N hN=>?_⟩ (by simp only;omega);obtain ⟨j,j1,j2⟩:=h5 N hN;exact ⟨j,by simp only;omega,j2⟩
 ·rintro _ ⟨m,rfl,hm⟩;refine wP (by omega) (yB ⟨rfl,m,hm,?_⟩);rw [hil]
def Rws (ρ:Nat->Int) (n b:Nat) (rows:List (List Int)):Prop:=rows.length=n/\∀ a<n,(rows.getD a []).length<=b/\∀ x∈rows.getD a [],0<=x/\x<n/\ρ a<ρ x.toNat
theorem zDT {n b k:Nat} {rows:List (List Int)} {x:Int} (h:Rws ρ n b rows) (hk:k<n) (hx:0<=x/\x<n/\ρ k<ρ x.toNat):Rws ρ n (b+1) (rows.set k (rows.getD k []++[x])):=by
 refine ⟨by rw [kW];exact h.1,fun a ha=>?_⟩
 have:=h.2 a ha
 have h1:=h.1;rw [qT (by omega)]
 by_cases e:a=k
 ·subst e;rw [if_pos rfl,zla,zls];refine ⟨by omega,fun y hy=>?_⟩;rcases wL.mp hy with hy | hy
  ·exact this.2 y hy
  ·rw [uO.mp hy];exact hx
 ·rw [if_neg e];exact ⟨by omega,this.2⟩
theorem zMD (h:Tr l ρ) {w:yR} (hi:w.ids=uE l.Xa) (he:w.Xm=evL l.Xa) (hx:w.next=List.replicate (evN l.Xa) []):Ok (NS FF w) (Rws ρ (evN l.Xa) 64):=by
 have hn:=h.n;have hil:w.ids.length=evN l.Xa:=by rw [hi];exact rK _
 have hel:w.Xm.length=evN l.Xa:=by rw [he];exact LH _
 have hxl:w.next.length=evN l.Xa:=by rw [hx];exact k8
 have hev:∀ i x,w.Xm[i]?=some x->x=eA l i:=fun i x hx=>by rw [he] at hx;exact (getD_some hx).symm
 have hid:∀ i x,w.ids[i]?=some x->x=idA l i:=fun i x hx=>by rw [hi] at hx;exact (getD_some hx).symm
 unfold NS;refine yX (P:=fun o=>∀ (N k:Int),zV o N=some k->0<=k/\k<evN l.Xa/\(eA l k.toNat).Xg=6/\(eA l k.toNat).N=N) ?_ fun o ho=>?_
 ·refine v9 (σ:=Nat×List (Int×Int)) (fun n s=>OH FF w n s.1 s.2)
   (fun s=>s.1<=evN l.Xa/\s.2.length<=s.1/\∀ (N k:Int),zV s.2 N=some k->0<=k/\k<evN l.Xa/\(eA l k.toNat).Xg=6/\(eA l k.toNat).N=N)
   _ (fun s=>evN l.Xa - s.1) ?_ (0,[]) ⟨wI _,wI _,fun N k hk=>by cases hk⟩
  rintro n ⟨i,t⟩ ⟨h1,h2,h3⟩ ih;simp only at h1 h2 h3 ih ⊢;show Ok (TM _ _ _ _ _) _;unfold TM;refine xV (fun hi=>?_) fun hi=>yB h3
  refine wO fun x hx=>?_
  rw [w5];have hx:=hev _ _ hx;rw [wB] at hx;refine vZ (fun hk=>wP (by omega) ?_) fun hk=>ih (i+1,t) ⟨by simp only;omega,by simp only;omega,h3⟩ (by simp only;omega)
  refine ih (i+1,_) ⟨by simp only;omega,?_,fun N k hN=>?_⟩ (by simp only;omega)
  ·have:=dG t x.N (i:Int)
   simp only;omega
  ·simp only at hN;rw [dJ] at hN
   by_cases e:x.N=N
   ·rw [if_pos e] at hN;injection hN with hN;subst hN;rw [wB,<- hx];exact ⟨by omega,by omega,eq_of_beq hk,e⟩
   ·rw [if_neg e] at hN;exact h3 N k hN
 refine yX (P:=Rws ρ (evN l.Xa) 64) ?_ fun o2 ho2=>?_
 ·refine v9 (σ:=Nat×List (List Int)) (fun n s=>OI FF w o n s.1 s.2)
   (fun s=>s.1<=evN l.Xa/\Rws ρ (evN l.Xa) (2 * s.1) s.2) _ (fun s=>evN l.Xa - s.1) ?_ (0,w.next) ⟨wI _,hxl,fun a ha=>?_⟩
  ·rintro n ⟨i,t⟩ ⟨h1,h2⟩ ih;simp only at h1 h2 ih ⊢;show Ok (VO _ _ _ _ _ _) _;unfold VO;refine xV (fun hi=>?_) fun hi=>yB ⟨h2.1,fun a ha=>⟨by have:=(h2.2 a ha).1;omega,(h2.2 a ha).2⟩⟩
   refine wO fun x hx=>?_
   have hx:=hev _ _ hx;rw [wB] at hx;refine yX (P:=fun c=>c=true->0<i/\ρ (i - 1)<ρ i) ?_ fun c hc=>?_
   ·refine xV (fun hj=>?_) fun hj=>yB (by simp)
    rw [o8];refine wO fun y hy=>wO fun z hz=>yB fun hh=>⟨by omega,?_⟩
    have:=h.e1 (i - 1) i (by omega) (by omega) (by rw [show i - 1=((i:Int) - 1).toNat by omega,<- hid _ _ hy,show i=(i:Int).toNat by omega,<- hid _ _ hz];exact eq_of_beq hh)
    exact this.1
   refine yX (P:=Rws ρ (evN l.Xa) (2 * i+1)) ?_ fun t2 ht2=>?_
   ·refine vZ (fun hh=>?_) fun hh=>yB ⟨h2.1,fun a ha=>⟨by have:=(h2.2 a ha).1;omega,(h2.2 a ha).2⟩⟩
    obtain ⟨k0,k1⟩:=hc hh;have hl2:=h2.1;rw [o8];refine wO fun y hy=>?_
    have hy':=(getD_some (d:=[]) hy).symm;rw [show ((i:Int) - 1).toNat=i - 1 by omega] at hy' ⊢;have hb:=(h2.2 (i - 1) (by omega)).1;rw [<- hy'] at hb;refine wP (by omega) (wP (by rw [zls];omega) (wP (by omega) (yB ?_)));rw [hy'];exact zDT h2 (by omega) ⟨by omega,by omega,by rw [wB];exact k1⟩
   have hl2:=ht2.1;rw [w5];refine vZ (fun hh=>?_) fun hh=>ih (i+1,t2) ⟨by simp only;omega,ht2.1,fun a ha=>⟨by have:=(ht2.2 a ha).1;simp only;omega,(ht2.2 a ha).2⟩⟩ (by simp only;omega)
   rw [zba] at hh;obtain ⟨k,hk⟩:=H7.mp hh.1;rw [hk,jE];obtain ⟨k0,k1,k2,k3⟩:=ho _ _ hk;have hr:=h.e2 k.toNat (by omega) i (by omega) k2 (by rw [<- hx];exact eq_of_beq hh.2) (by rw [k3,hx]);refine wO fun y hy=>?_
   have hy':=(getD_some (d:=[]) hy).symm;have hb:=(ht2.2 k.toNat (by omega)).1;rw [<- hy'] at hb;refine wP (by omega) (wP (by rw [zls];omega) (wP (by omega) ?_));rw [hy']
   have:=zDT ht2 (k:=k.toNat) (x:=(i:Int)) (by omega) ⟨by omega,by omega,by rw [wB];exact hr⟩
   exact ih (i+1,_) ⟨by simp only;omega,this⟩ (by simp only;omega)
  ·simp only;rw [hx,vQ,iE];simp [ha]
 refine yX (P:=Rws ρ (evN l.Xa) 64) ?_ fun o3 ho3=>yB ho3
 refine v9 (σ:=Nat×List (List Int)) (fun n s=>QU FF w n s.1 s.2)
  (fun s=>s.1<=evN l.Xa/\Rws ρ (evN l.Xa) 64 s.2) _ (fun s=>evN l.Xa - s.1) ?_ (0,o2) ⟨wI _,ho2⟩
 rintro n ⟨i,t⟩ ⟨h1,h2⟩ ih;simp only at h1 h2 ih ⊢;have hl2:=h2.1;show Ok (TB _ _ _ _ _) _;unfold TB;refine xV (fun hi=>?_) fun hi=>yB h2
 refine wO fun x hx=>wP (by omega) ?_
 have hx:=(getD_some (d:=[]) hx).symm;rw [wB] at hx ⊢;have hb:=h2.2 i (by omega);rw [<- hx] at hb;unfold slices_Sort_int;rw [tB (by omega),zbs];refine wP (MK x) ?_;refine vK (by omega) (by rw [kW];omega) fun y hy=>wP (by omega) ?_
 have hy:=(getD_some (d:=[]) hy).symm;rw [wB,qT (by omega),if_pos rfl] at hy;subst hy;have hsl:=MK x;have hcl:=zAm (pM x);unfold slices_Compact_int;rw [tB (by omega),zbs];refine wP (by omega) ?_;rw [w5,List.set_set];refine ih (i+1,_) ⟨by simp only;omega,by simp only [kW];exact h2.1,fun a ha=>?_⟩ (by simp only;omega);simp only;rw [qT (by omega)]
 by_cases e:a=i
 ·rw [if_pos e];refine ⟨by omega,fun y hy=>?_⟩
  have:=hb.2 y ((G8 x y).mp (YL _ _ hy))
  rw [e];exact this
 ·rw [if_neg e];exact h2.2 a ha
end
end Go.Ab
