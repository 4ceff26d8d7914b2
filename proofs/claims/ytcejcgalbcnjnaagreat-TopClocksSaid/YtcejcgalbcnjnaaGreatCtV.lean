/- Lemmas. No conditions but those that they name. -/
import Derived.Test.YtcejcgalbcnjnaaGreatCtK2
namespace Go.Ab
open Go
set_option linter.unusedVariables false
section
variable {l:z6} {ρ:Nat->Int} {w:yR}
def tA (l:z6) (c:Nat):Int:=(l.Xc.Xd.getD c default).Id
def Aft (w:yR) (x j:Nat):Prop:=∃ b,DV FF w x=some b/\b.getD j false=true
structure Vec (l:z6) (ρ:Nat->Int) (w:yR) (j:Nat) (v:List Int):Prop where
 len:v.length=l.Xc.Xd.length
 v1:∀ c<l.Xc.Xd.length,∀ s:Int,0<=s->s<v.getD c 0->∃ x<evN l.Xa,(idA l x).Xb=tA l c/\s<=(idA l x).Xf/\(x=j\/ρ x<ρ j)
 v3:∀ c<l.Xc.Xd.length,∀ x<evN l.Xa,(idA l x).Xb=tA l c->Aft w x j->(idA l x).Xf<v.getD c 0
theorem zOQ (h:Tr l ρ) (hw:Wld l ρ w) {j:Nat} (hj:j<evN l.Xa) (t:wN):Ok (HM FF (idA l j) (w,0) t FF 0 0) fun r =>
  (∀ s:Int,0<=s->s<r->∃ x<evN l.Xa,(idA l x).Xb=t.Id/\s<=(idA l x).Xf/\(x=j\/ρ x<ρ j))/\∀ x<evN l.Xa,(idA l x).Xb=t.Id->Aft w x j->(idA l x).Xf<r:=by
 have hn:=h.n;have hil:w.ids.length=evN l.Xa:=by rw [hw.ids];exact rK _
 obtain ⟨m,hm1,_,hm2⟩:=hw.at_;have hat:(zV ((w.at_).getD []) (idA l j)).getD (0:Int)=j:=by rw [hm1,jE];unfold idA;rw [hm2 j hj];rfl
 refine v9 (σ:=Int×Nat) (fun n s=>HM FF (idA l j) (w,0) t n s.1 s.2)
  (fun s=>s.2<=evN l.Xa/\(∀ k:Int,0<=k->k<s.1->∃ x<evN l.Xa,(idA l x).Xb=t.Id/\k<=(idA l x).Xf/\(x=j\/ρ x<ρ j))/\∀ x<s.2,(idA l x).Xb=t.Id->Aft w x j->(idA l x).Xf<s.1)
  _ (fun s=>evN l.Xa - s.2) ?_ (0,0) ⟨wI _,fun k k0 k1=>by simp only at k1;omega,fun x hx=>by simp only at hx;omega⟩
 rintro f ⟨r,v⟩ ⟨h1,h2,h3⟩ ih;simp only at h1 h2 h3 ih ⊢;show Ok (T8 _ _ _ _ _ _ _) _;unfold T8;simp only;refine xV (fun hi=>?_) fun hi=>yB ⟨h2,fun x hx=>h3 x (by omega)⟩
 refine vK (by omega) hi fun x hx=>?_
 have hx:x=idA l v:=by rw [hw.ids,wB] at hx;exact (getD_some hx).symm
 have hv:v<evN l.Xa:=by omega
 obtain ⟨b,hb,b1,b2⟩:=zCZ h hw (i:=v) (by omega) (by omega);rw [wB] at b2;refine yX (P:=fun c=>c=true↔(idA l v).Xb=t.Id/\(v=j\/b.getD j false=true)) ?_ fun c hc=>?_
 ·rw [hat,hx];refine vZ (fun e=>?_) fun e=>yB ?_
  ·have e:=eq_of_beq e;refine vZ (fun e2=>yB ?_) fun e2=>?_
   ·have:=eq_of_beq e2
    simp only [true_iff];exact ⟨e,.inl (by omega)⟩
   ·refine pU hb (wO fun y hy=>yB ?_);rw [wB] at hy;rw [getD_some hy]
    have:v≠j:=fun h=>by rw [h] at e2;simp at e2
    simp [e,this]
  ·have:(idA l v).Xb≠t.Id:=fun h=>by rw [h] at e;simp at e
   simp [this]
 ·have hs:=h.ser v hv;rw [hx,w5,w5];refine vZ (fun e=>?_) fun e=>?_
  ·obtain ⟨e1,e2⟩:=hc.mp e;refine ih (_,v+1) ⟨by simp only;omega,fun k k0 k1=>⟨v,hv,e1,by simp only at k1;omega,e2.imp id fun e2=>b2 j hj e2⟩,fun x hx1 hx2 hx3=>?_⟩ (by simp only;omega);simp only at hx1 ⊢;rcases zlg x v with hh | hh
   ·have:=(h.e1 x v hh hv (by rw [hx2,e1])).2
    omega
   ·rw [show x=v by omega];omega
  ·refine ih (r,v+1) ⟨by simp only;omega,h2,fun x hx1 hx2 hx3=>?_⟩ (by simp only;omega);simp only at hx1 ⊢;rcases zlg x v with hh | hh
   ·exact h3 x hh hx2 hx3
   ·have e3:x=v:=by omega
    subst e3;obtain ⟨b',hb',e4⟩:=hx3;rw [hb] at hb';injection hb' with hb';subst hb';rw [hc.mpr ⟨hx2,.inr e4⟩] at e;cases e
theorem zEZ (h:Tr l ρ) (hs:bX FF l=some (w,0)) (hw:Wld l ρ w) {j:Nat} (hj:j<evN l.Xa):Ok (J5 FF l (idA l j)) fun r=>r.2=0/\Vec l ρ w j r.1:=by
 have hn:=h.n;have ht:=h.thl;obtain ⟨m,hm1,_,hm2⟩:=hw.at_;have hat:(zV ((w.at_).getD []) (idA l j)).isSome=true:=by rw [hm1,jE];unfold idA;rw [hm2 j hj];rfl
 unfold J5;rw [hs,zbs];simp only;refine vZ (fun e=>absurd e (by decide)) fun _=>?_
 rw [hat];refine vZ (fun e=>absurd e (by decide)) fun _=>?_
 refine yX (P:=Vec l ρ w j) ?_ fun v hv=>yB ⟨rfl,hv⟩
 refine v9 (σ:=Nat×List Int) (fun n s=>N4 FF l (idA l j) (w,0) n s.1 s.2)
  (fun s=>s.1<=l.Xc.Xd.length/\s.2.length=s.1/\(∀ c<s.1,∀ k:Int,0<=k->k<s.2.getD c 0->∃ x<evN l.Xa,(idA l x).Xb=tA l c/\k<=(idA l x).Xf/\(x=j\/ρ x<ρ j))/\∀ c<s.1,∀ x<evN l.Xa,(idA l x).Xb=tA l c->Aft w x j->(idA l x).Xf<s.2.getD c 0)
  _ (fun s=>l.Xc.Xd.length - s.1) ?_ (0,[]) ⟨wI _,rfl,fun c hc=>by simp only at hc;omega,fun c hc=>by simp only at hc;omega⟩
 rintro f ⟨i,r⟩ ⟨h1,h2,h3,h4⟩ ih;simp only at h1 h2 h3 h4 ih ⊢;show Ok (V0 _ _ _ _ _ _ _) _;unfold V0;refine xV (fun hi=>?_) fun hi=>yB ⟨by omega,fun c hc=>h3 c (by omega),fun c hc=>h4 c (by omega)⟩
 refine wO fun t ht=>?_
 rw [wB] at ht;have et:tA l i=t.Id:=by unfold tA;rw [getD_some ht]
 refine yX (zOQ h hw hj t) fun o ho=>wP (by rw [zls];omega) ?_
 rw [w5];have hg:∀ c,c<i->(r++[o]).getD c 0=r.getD c 0:=fun c hc=>by
  rw [vQ,uH (by omega),vQ]
 have hg2:(r++[o]).getD i 0=o:=by
  rw [vQ,u4 (by omega),h2,GS];rfl
 refine ih (i+1,_) ⟨by simp only;omega,by simp only [zla,zls];omega,fun c hc=>?_,fun c hc=>?_⟩ (by simp only;omega)
 ·simp only at hc ⊢;rcases zlg c i with hh | hh
  ·rw [hg c hh];exact h3 c hh
  ·rw [show c=i by omega,hg2,et];exact ho.1
 ·simp only at hc ⊢;rcases zlg c i with hh | hh
  ·rw [hg c hh];exact h4 c hh
  ·rw [show c=i by omega,hg2,et];exact ho.2
theorem zNp (h:Tr l ρ) (hs:bX FF l=some (w,0)) (hw:Wld l ρ w) {i j:Nat} (hi:i<evN l.Xa) (hj:j<evN l.Xa):Ok (OA FF l (idA l i) (idA l j)) fun r=>r.1=true->Aft w i j:=by
 obtain ⟨m,hm1,_,hm2⟩:=hw.at_;have ha:zV ((w.at_).getD []) (idA l i)=some (i:Int):=by rw [hm1,jE];exact hm2 i hi
 have hb:zV ((w.at_).getD []) (idA l j)=some (j:Int):=by rw [hm1,jE];exact hm2 j hj
 unfold OA;rw [hs,zbs];simp only;rw [ha,hb];refine vZ (fun e=>absurd e (by decide)) fun _=>?_
 refine vZ (fun e=>by cases e) fun _=>?_
 obtain ⟨b,hb,b1,b2⟩:=zCZ h hw (i:=i) (by omega) (by omega);refine pU hb (vK (by show (0:Int)<=(j:Int);omega) (by show (j:Int)<_;omega) fun x hx=>yB fun e=>⟨b,hb,?_⟩);have hx:b[j]?=some x:=hx;rw [getD_some hx];exact e
end
end Go.Ab
