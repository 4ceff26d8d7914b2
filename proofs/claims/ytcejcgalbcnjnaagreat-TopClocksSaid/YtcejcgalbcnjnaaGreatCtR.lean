/- Lemmas. No conditions but those that they name. -/
import Derived.Test.YtcejcgalbcnjnaaGreatCtR1
namespace Go.Ab
open Go
set_option linter.unusedVariables false
theorem zFX {α β:Type} [DecidableEq α] {l:List (α×β)} {k:α} {v:β} (hd:(l.map Prod.fst).Nodup) {p:α×β} (h:p∈xC l k v):p=(k,v)\/p∈l/\p.1≠k:=by
 induction l with
 | nil=>exact Or.inl (uO.mp h)
 | cons q l ih =>
  rw [uM,CD] at hd;unfold xC at h
  split at h
  ·rename_i e
   rcases uA.1 h with h | h
   ·exact Or.inl h
   ·exact Or.inr ⟨qX _ h,fun e2=>hd.1 (by rw [e,<- e2];exact zAy h)⟩
  ·rename_i e
   rcases uA.1 h with rfl | h
   ·exact Or.inr ⟨tK ..,e⟩
   ·rcases ih hd.2 h with h | h
    ·exact Or.inl h
    ·exact Or.inr ⟨qX _ h.1,h.2⟩
theorem zOR {α β:Type} [DecidableEq α] {l:List (α×β)} {k:α} {v:β} (hd:(l.map Prod.fst).Nodup):((xC l k v).map Prod.fst).Nodup:=by
 induction l with
 | nil=>simp [xC]
 | cons q l ih =>
  have hd':=hd;rw [uM,CD] at hd;unfold xC
  split
  ·rename_i e
   rw [uM,CD];exact ⟨by rw [<- e];exact hd.1,hd.2⟩
  ·rename_i e
   rw [uM,CD];refine ⟨fun h=>?_,ih hd.2⟩;obtain ⟨p,h1,h2⟩:=vB.mp h;rcases zFX hd.2 h1 with rfl | h3
   ·exact e h2.symm
   ·exact hd.1 (by rw [<- h2];exact zAy h3.1)
theorem zHM {α β:Type} [DecidableEq α] {l:List (α×β)} {k:α} {v:β} (h:zV l k=some v):(k,v)∈l:=by
 obtain ⟨i,p,h1,h2,h3,_⟩:=NK h
 have:=yN h1
 rw [<- h2,<- h3];exact this
section
variable {w:yR} {F:Nat}
def WQ (w:yR) (x:Int):Int:=(w.ids.getD x.toNat default).Xb
def zAh (w:yR) (x d:Int):Prop:=∃ t∈w.l.Xc.Xd,t.Id=WQ w x/\t.Xx=d
theorem zBh (hg:gS w) (hF:2000<F) {x:Int} (h0:0<=x) (h1:x<w.ids.length):Ok (EN F w x) (zAh w x):=by
 obtain ⟨g1,g2,g3,g4,g5,g6⟩:=hg;unfold EN SG;have hx:w.ids[x.toNat]?=some (w.ids.getD x.toNat default):=jG _ (by omega);refine yX (P:=fun r:Int=>∃ v:Nat,r=v/\v<w.l.Xc.Xd.length/\∃ t,w.l.Xc.Xd[v]?=some t/\t.Id=WQ w x) ?_ ?_
 ·refine yX (P:=fun o:Unit⊕Int=>∃ v:Nat,o=.inr v/\v<w.l.Xc.Xd.length/\∃ t,w.l.Xc.Xd[v]?=some t/\t.Id=WQ w x) ?_ ?_
  ·refine gN (σ:=Nat) (fun n s=>QS F w.l.Xc.Xd w x n s)
    (fun s=>∃ v t,s<=v/\w.l.Xc.Xd[v]?=some t/\t.Id=WQ w x) _ (fun s=>w.l.Xc.Xd.length - s) ?_ F 0 ?_ (by omega)
   ·rintro n s ⟨v,t,h2,h3,h4⟩ ih;have hv:v<w.l.Xc.Xd.length:=(vO.mp h3).1;show Ok (YH _ _ _ _ _ _) _;unfold YH;refine xV (fun hs=>?_) fun hs=>by omega
    refine wO fun u hu=>?_
    unfold TP;rw [WS h0,hx];simp only [zbs];refine vZ (fun h=>?_) fun h=>?_
    ·refine yB ⟨s,rfl,by omega,u,hu,?_⟩;exact eq_of_beq h
    ·rw [w5];refine ih (s+1) ⟨v,t,?_,h3,h4⟩ (by omega);rcases zlg s v with hh | hh
     ·exact hh
     ·rw [show ((s:Nat):Int).toNat=v by omega] at hu;rw [h3] at hu;injection hu with hu;rw [<- hu] at h;rw [beq_eq_false_iff_ne] at h;exact absurd h4 h
   ·obtain ⟨t,ht,e⟩:=g6 (w.ids.getD x.toNat default) (yN hx);obtain ⟨v,hv⟩:=uG.mp ht;exact ⟨v,t,wI _,hv,e⟩
  ·rintro _ ⟨v,rfl,h2,h3⟩;exact yB ⟨v,rfl,h2,h3⟩
 ·rintro _ ⟨v,rfl,h2,t,h3,h4⟩;refine wO fun u hu=>yB ?_
  rw [wB,h3] at hu;injection hu with hu;subst hu;exact ⟨_,yN h3,h4,rfl⟩
structure Grp (w:yR) (F:Nat) (i:Nat) (g:List (Int×List Int)):Prop where
 len:g.length<=i
 nd:(g.map Prod.fst).Nodup
 el:∀ p∈g,p.2.length<=i/\∀ x∈p.2,0<=x/\x<i/\EN F w x=some p.1
theorem zCT (hg:gS w) (hF:9000<F):Ok (BV F w F 0 []) (Grp w F w.ids.length):=by
 have g1:=hg.1;refine gN (σ:=Nat×List (Int×List Int)) (fun n s=>BV F w n s.1 s.2) (fun s=>s.1<=w.ids.length/\Grp w F s.1 s.2) _ (fun s=>w.ids.length - s.1) ?_ F (0,[])
  ⟨wI _,⟨yI _,List.nodup_nil,fun p h=>by cases h⟩⟩ (by simp only;omega)
 rintro n ⟨i,g⟩ ⟨h1,h2⟩ ih;simp only at h1 h2 ih ⊢;show Ok (UY _ _ _ _ _) _;unfold UY;refine xV (fun hi=>?_) fun hi=>yB (by rw [show w.ids.length=i by omega];exact h2)
 obtain ⟨d,hd,_⟩:=zBh (F:=F) hg (by omega) (x:=i) (by omega) (by omega);refine pU hd ?_;have ho:((zV g d).getD []).length<=i/\∀ x∈(zV g d).getD [],0<=x/\x<i/\EN F w x=some d:=by
  cases e:zV g d with
  | none=>exact ⟨wI _,fun x h=>by cases h⟩
  | some v=>exact h2.el _ (zHM e)
 have hgl:=h2.len;have hol:=ho.1;refine wP (by rw [zls];omega) (wP (by omega) ?_);rw [w5];refine ih (i+1,_) ⟨by omega,⟨?_,zOR h2.nd,fun p hp=>?_⟩⟩ (by simp only;omega)
 ·have:=dG g d ((zV g d).getD []++[(i:Int)])
  simp only;omega
 ·simp only at hp ⊢;rcases zFX h2.nd hp with rfl | ⟨hp,_⟩
  ·refine ⟨by rw [zla,zls];omega,fun x hx=>?_⟩;rcases wL.mp hx with hx | hx
   ·have:=ho.2 x hx
    exact ⟨this.1,by omega,this.2.2⟩
   ·rw [uO.mp hx];exact ⟨by omega,by omega,hd⟩
  ·have:=h2.el p hp
   exact ⟨by omega,fun x hx=>⟨(this.2 x hx).1,by have:=(this.2 x hx).2.1;omega,(this.2 x hx).2.2⟩⟩
open Classical in
noncomputable def CC (F:Nat) (w:yR) (l:List Int):Nat->List Int :=
 if h:∃ C,DF w.ids.length C (BD F w l)/\(∀ a,(C a).length<=64000)/\∀ a x,x∈C a->(a:Int)∈l/\x∈l/\atW w a<atW w x then h.choose else fun _=>[]
def Gd (w:yR) (l:List Int):Prop:=l.length<40/\∀ x∈l,0<=x/\x<w.ids.length
theorem N8 (hg:gS w) (hF:9000<F) {l:List Int} (hl:Gd w l):DF w.ids.length (CC F w l) (BD F w l)/\(∀ a,(CC F w l a).length<=64000)/\∀ a x,x∈CC F w l a->(a:Int)∈l/\x∈l/\atW w a<atW w x:=by
 have h:=zLz (w:=w) (F:=F) (l:=l) hl.1 (fun x hx=>by rw [hg.2.1];exact hl.2 x hx) (n:=w.ids.length) hg.2.2.1 hg.2.1 hF;unfold CC;rw [dif_pos h];exact h.choose_spec
noncomputable def CS (F:Nat) (w:yR) (σ:List (List Int)) (a:Nat):List Int:=σ.flatMap fun l=>CC F w l a
theorem zLq (hg:gS w) (hF:9000<F):∀ (σ:List (List Int)) (m:Nat) (row:List (List Int)),(∀ l∈σ,Gd w l)->row.length=w.ids.length->(∀ a,(row.getD a []).length<=m)->m+σ.length * 64000<=1000000000000 ->
  mE F w σ row=some (fG (CS F w σ) row):=by
 intro σ
 induction σ with
 | nil=>intro m row _ _ _ _;exact congrArg some (zA4 row).symm
 | cons l σ ih =>
  intro m row h1 h2 h3 h4;rw [zlc] at h4;obtain ⟨c1,c2,_⟩:=N8 (F:=F) hg hF (h1 l (tK ..));unfold mE;rw [c1 row h2 fun a=>by have:=h3 a;have:=c2 a;omega,zbs,ih (m+64000) _ (fun l hl=>h1 l (qX _ hl)) (by rw [dL];exact h2) ?_ (by omega),zBF]
  ·rfl
  ·intro a
   by_cases ha:a<row.length
   ·rw [rU ha,zla];have:=h3 a;have:=c2 a;omega
   ·rw [vQ,vH (by rw [dL];omega)];exact wI _
theorem zLG {α β:Type} {f:α->List β} {σ τ:List α} (h:σ.Perm τ):σ.Pairwise (fun l m=>f l=[]\/f m=[])->σ.flatMap f=τ.flatMap f:=by
 induction h with
 | nil=>exact fun _=>rfl
 | cons x _ ih=>intro hp;rw [bC,bC,ih (J1.mp hp).2]
 | swap x y l =>
  intro hp;simp only [bC];rcases (J1.mp hp).1 x (tK ..) with h | h
  ·rw [h];simp
  ·rw [h];simp
 | trans h1 h2 ih1 ih2=>intro hp;rw [ih1 hp,ih2 ((h1.pairwise_iff fun h=>h.symm).mp hp)]
theorem zM2 {g:List (Int×List Int)} {i:Nat} (h:Grp w F i g):(g.map Prod.snd).Pairwise fun l m=>∀ x∈l,x∉m:=by
 have hn:=h.nd;have he:=h.el;clear h
 induction g with
 | nil=>exact List.Pairwise.nil
 | cons p g ih =>
  rw [uM,CD] at hn;rw [uM,J1];refine ⟨fun m hm x hx hx2=>?_,ih hn.2 fun q hq=>he q (qX _ hq)⟩;obtain ⟨q,hq,rfl⟩:=vB.mp hm;have a1:=((he p (tK ..)).2 x hx).2.2;have a2:=((he q (qX _ hq)).2 x hx2).2.2;rw [a1] at a2;injection a2 with a2;exact hn.1 (by rw [a2];exact zAy hq)
theorem QX (hg:gS w) {g:List (Int×List Int)} (h:Grp w F w.ids.length g):∀ l∈g.map Prod.snd,Gd w l:=by
 intro l hl;obtain ⟨p,hp,rfl⟩:=vB.mp hl
 have:=h.el p hp
 have g1:=hg.1;exact ⟨by omega,fun x hx=>⟨(this.2 x hx).1,(this.2 x hx).2.1⟩⟩
theorem zAC (hg:gS w) (hF:9000<F) {g:List (Int×List Int)} (h:Grp w F w.ids.length g) {σ:List (List Int)} (hp:σ.Perm (g.map Prod.snd)):mE F w σ w.next=some (fG (CS F w (g.map Prod.snd)) w.next):=by
 have hg':=hg;obtain ⟨g1,g2,g3,g4,_⟩:=hg';have hgl:=h.len;rw [zLq hg hF σ 1000 w.next (fun l hl=>QX hg h l (hp.mem_iff.mp hl)) g3 (fun a=>?_) (by rw [hp.length_eq,vL];omega)]
 ·congr 2
  funext a
  refine zLG hp ?_;refine (hp.pairwise_iff (fun h=>h.symm)).mpr ?_;refine (zM2 h).imp_of_mem fun {l m} hl hm hlm=>?_
  rcases hc:CC F w l a with _ | ⟨x,t⟩
  ·exact Or.inl rfl
  ·refine Or.inr ?_;rcases hd:CC F w m a with _ | ⟨y,s⟩
   ·rfl
   ·have e1:=((N8 (F:=F) hg hF (QX hg h l hl)).2.2 a x (by rw [hc];exact tK ..)).1;have e2:=((N8 (F:=F) hg hF (QX hg h m hm)).2.2 a y (by rw [hd];exact tK ..)).1;exact absurd e2 (hlm _ e1)
 ·by_cases ha:a<w.next.length
  ·exact g4 _ (yN (jG [] ha))
  ·rw [vQ,vH (by omega)];exact wI _
theorem zKl {g:List (Int×List Int)} {r:List (List Int)} (hn:9000<F/\gS w) (hg:BV F w F 0 []=some g) (h:mE F w (g.map Prod.snd) w.next=some r):∀ σ:List (List Int),σ.Perm (g.map Prod.snd)->mE F w σ w.next=some r:=by
 intro σ hp;have hG:=zAl (zCT (F:=F) hn.2 hn.1) hg;rw [zAC hn.2 hn.1 hG hp,<- zAC hn.2 hn.1 hG (SX _),h]
theorem zKT (hg:gS w) (hF:9000<F):Ok (U3 F w) fun r=>r.length=w.ids.length/\∀ a,a<w.ids.length->∃ c,r.getD a []=w.next.getD a []++c/\c.length<=3000000/\∀ x∈c,0<=x/\x<w.ids.length/\atW w a<atW w x/\∃ d,zAh w a d/\zAh w x d:=by
 unfold U3;refine wP ⟨hF,hg⟩ ?_;refine yX (zCT (F:=F) hg hF) fun g hG=>?_
 have hgl:=hG.len;have g1:=hg.1;refine zI8 (zAC hg hF hG (.refl _)) ⟨by rw [dL];exact hg.2.2.1,fun a ha=>⟨CS F w (g.map Prod.snd) a,rU (by rw [hg.2.2.1];exact ha),?_,fun x hx=>?_⟩⟩
 ·have:∀ σ:List (List Int),(∀ l∈σ,Gd w l)->(CS F w σ a).length<=σ.length * 64000:=by
   intro σ
   induction σ with
   | nil=>intro _;exact wI _
   | cons l σ ih =>
    intro h;have a1:=(N8 (F:=F) hg hF (h l (tK ..))).2.1 a;have a2:=ih fun l hl=>h l (qX _ hl)
    unfold CS at a2 ⊢;rw [bC,zla,zlc];omega
  have:=this _ (QX hg hG)
  rw [vL] at this;omega
 ·obtain ⟨l,hl,hx⟩:=aB.mp hx;obtain ⟨a1,a2,a3⟩:=(N8 (F:=F) hg hF (QX hg hG l hl)).2.2 a x hx;obtain ⟨p,hp,rfl⟩:=vB.mp hl;obtain ⟨b0,b1,b2⟩:=(hG.el p hp).2 _ a1;obtain ⟨c0,c1,c2⟩:=(hG.el p hp).2 _ a2;refine ⟨c0,c1,a3,p.1,?_,?_⟩
  ·exact zAl (zBh (F:=F) hg (by omega) b0 b1) b2
  ·exact zAl (zBh (F:=F) hg (by omega) c0 c1) c2
end
end Go.Ab
