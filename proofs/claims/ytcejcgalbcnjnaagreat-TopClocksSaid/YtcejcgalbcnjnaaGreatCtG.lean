/- Lemmas. No conditions but those that they name. -/
import Derived.Test.YtcejcgalbcnjnaaGreatCtF
namespace Go.Ab
open Go
set_option linter.unusedVariables false
theorem Bnd.mono {len:Nat} {B C:Int} {d:List Int} (h:Bnd len B d) (hc:B<=C):Bnd len C d:=⟨h.1,fun v hv=>(h.2 v hv).imp id fun h=>by omega⟩
section
variable {len:Nat} {W:Int} {back:Bool} {g:vX}
theorem zNI (hE:EOk len W g.Xj) (hW:0<=W):∀ (n i:Nat) (B:Int) (s:Bool×List Int),g.Xj.length - i<n->g.Xj.length<=100000000->Bnd len B s.2->B+W * (g.Xj.length - i:Nat)<=1000000000000000000 ->
  J4 FF g back n s.1 i s.2=some ((g.Xj.drop i).foldl (rlx back) s):=by
 intro n
 induction n with
 | zero=>intro i B s h;omega
 | succ n ih =>
  intro i B s hn hel hb hB;show U1 _ _ _ _ _ _ _=_;unfold U1;rcases hd:g.Xj.drop i with _ | ⟨e,r⟩
  ·have:=fM hd
   rw [xN (by omega),cond_false];rfl
  ·have hi:=fL hd;have he:=OO hd;obtain ⟨i1,i2,i3,i4⟩:=AG (back:=back) hE he;obtain ⟨_,_,_,_,w1,w2⟩:=hE e he;have hl:=hb.1;have hWn:0<=W * ((g.Xj.length - i:Nat):Int):=CL hW (by omega);rw [wE (by omega),cond_true,qB hd,zbs];have e1:(bif back then some (e.to_,e.from_) else some (e.from_,e.to_))=some (src back e,dst back e):=by cases back<;>rfl
   rw [e1,zbs];simp only;have e2:∀ x:Int,0<=x->x<len->z0 s.2 x=some (gD s.2 x):=fun x h0 h1=>by rw [WS h0,jG 0 (by omega)]
   simp only [e2 _ i1 i2,e2 _ i3 i4,zbs];rw [w5];have hW3:W * ((g.Xj.length - i:Nat):Int)=W+W * ((g.Xj.length - (i+1):Nat):Int):=by
    rw [show g.Xj.length - i=(g.Xj.length - (i+1))+1 by omega,Int.natCast_add,Int.mul_add];omega
   have hW4:0<=W * ((g.Xj.length - (i+1):Nat):Int):=CL hW (by omega);have hrec:=ih (i+1) (B+W) (rlx back s e) (by omega) hel (Z8 he hE hW hb) (by omega);rw [aF];rw [nN hd] at hrec
   by_cases h1:gD s.2 (src back e)=INF
   ·rw [tV h1];simp only [cond_false,zbs]
    have:rlx back s e=s:=if_neg fun h=>h.1 h1
    rw [this] at hrec ⊢;exact hrec
   ·have hb1 : -B<=gD s.2 (src back e)/\gD s.2 (src back e)<=B:=by
     rcases hb.2 (src back e).toNat (by omega) with h | h
     ·exact absurd h h1
     ·exact h
    rw [aN h1];simp only [cond_true,zbs];rw [w64 (x:=gD s.2 (src back e)+e.Xv) (by omega) (by omega)]
    by_cases h2:gD s.2 (src back e)+e.Xv<gD s.2 (dst back e)
    ·rw [wE h2,cond_true]
     have:rlx back s e=_:=if_pos ⟨h1,h2⟩
     rw [this] at hrec ⊢;exact hrec
    ·rw [xN h2,cond_false]
     have:rlx back s e=s:=if_neg fun h=>h2 h.2
     rw [this] at hrec ⊢;exact hrec
theorem zDA (hE:EOk len W g.Xj) (hW:0<=W) {B:Int} {d:List Int} (hel:g.Xj.length<=100000000) (hb:Bnd len B d) (hB:B+W * g.Xj.length<=1000000000000000000) :
  J4 FF g back FF true 0 d=some (g.Xj.foldl (rlx back) (true,d)) :=
 zNI (back:=back) hE hW FF 0 B (true,d) (by show _<281474976710656;omega) hel hb (by rw [Nat.sub_zero];exact hB)
def Rch (back:Bool) (es:List xD):Nat->Int->Prop
 | 0,v=>v=0
 | k+1,v=>Rch back es k v\/∃ e∈es,dst back e=v/\Rch back es k (src back e)
theorem zN3 {es:List xD} {d:List Int} (h:∀ e∈es,gD d (src back e)≠INF->gD d (dst back e)≠INF) (h0:gD d 0≠INF):∀ (k:Nat) (v:Int),Rch back es k v->gD d v≠INF:=by
 intro k
 induction k with
 | zero=>intro v hv;rw [show v=0 from hv];exact h0
 | succ k ih =>
  rintro v (hv | ⟨e,he,rfl,hv⟩)
  ·exact ih v hv
  ·exact h e he (ih _ hv)
theorem zIA {π:Int->Int} (hE:EOk len W g.Xj) (hW:0<=W) (hW2:W<=10000000) (hel:g.Xj.length<=7000) (hlen:len<=7000) (hlen2:2<=len) (hP:Pot back π g.Xj) (h0:π 0=0) :
  Ok (AH FF g ((List.replicate len INF).set 0 0) back) fun r=>r.2.length=len/\Low len π r.2/\Bnd len 1000000000000000 r.2/\∀ v,Rch back g.Xj 3 v->gD r.2 v≠INF:=by
 have hE1:W * (g.Xj.length:Int)<=10000000 * 7000:=Int.mul_le_mul hW2 (by omega) (by omega) (by omega);have hE0:0<=W * (g.Xj.length:Int):=CL hW (by omega);have hl:((List.replicate len INF).set 0 0).length=len:=by rw [kW,k8]
 unfold AH;refine yX (P:=fun o:(List Int)⊕(Bool×(List (Int)))=>∃ d b,(o=.inl d\/o=.inr (b,d))/\d.length=len/\Low len π d/\Bnd len 1000000000000000 d/\∀ v,Rch back g.Xj 3 v->gD d v≠INF) ?_ ?_
 ·refine v9 (σ:=Nat×List Int) (fun n s=>HT FF g ((List.replicate len INF).set 0 0) back n s.1 s.2)
   (fun s=>s.1<=len+1/\Low len π s.2/\Bnd len (s.1 * (10000000 * 7000)) s.2/\gD s.2 0≠INF/\∀ k≤s.1,∀ v,Rch back g.Xj k v->gD s.2 v≠INF) _ (fun s=>len+1 - s.1) ?_ (0,_) ⟨wI _,?_,?_,?_,?_⟩
  ·rintro n ⟨i,d⟩ ⟨h1,h2,h3,h4,h5⟩ ih;simp only at h1 h2 h3 h4 h5 ih ⊢;show Ok (KV _ _ _ _ _ _ _) _;unfold KV;rw [hl,w5 (i:=(len:Int)) (by omega) (by omega)];have hBn:Bnd len 1000000000000000 d:=⟨h3.1,fun v hv=>(h3.2 v hv).imp id fun h=>by omega⟩;refine xV (fun hi=>?_) fun hi=>yB ⟨d,true,.inl rfl,h3.1,h2,hBn,h5 3 (by omega)⟩
   refine pU (zDA (back:=back) hE hW (by omega) h3 (by omega)) ?_;have hb:=zEE (back:=back) (s:=(true,d)) hE hW h3;have hlo:=zMI (s:=(true,d)) hE h3.1 hP h2;obtain ⟨f1,f2⟩:=zDh (back:=back) (s:=(true,d)) hE hW h3 (by omega);refine vZ (fun hc=>?_) fun hc=>?_
   ·have e:=zEe (back:=back) hc;rw [e] at f2;rw [e];exact yB ⟨d,true,.inr rfl,h3.1,h2,hBn,zN3 f2 h4 3⟩
   ·rw [w5];refine ih (i+1,_) ⟨by simp only;omega,hlo,?_,?_,fun k hk v hv=>?_⟩ (by simp only;omega)
    ·exact hb.mono (by simp only;omega)
    ·exact f1 0 (by omega) h4
    ·simp only at hk ⊢;have hst:∀ v:Int,0<=v->v<len->gD d v≠INF->gD (g.Xj.foldl (rlx back) (true,d)).2 v≠INF:=fun v v0 v1 hv=>f1 v.toNat (by omega) hv
     have hin:∀ k v,Rch back g.Xj k v->0<=v/\v<len:=by
      intro k
      induction k with
      | zero=>intro v hv;rw [show v=0 from hv];omega
      | succ k ih2 =>
       rintro v (hv | ⟨e,he,rfl,hv⟩)
       ·exact ih2 v hv
       ·have:=AG (back:=back) hE he;omega
     rcases k with _ | k
     ·have:=hin 0 v hv
      exact hst v this.1 this.2 (by rw [show v=0 from hv];exact h4)
     ·rcases hv with hv | ⟨e,he,rfl,hv⟩
      ·have:=hin k v hv
       exact hst v this.1 this.2 (h5 k (by omega) v hv)
      ·exact f2 e he (h5 k (by omega) _ hv)
  ·intro v hv;simp only;rw [qT (by rw [k8];omega)]
   by_cases e:v=0
   ·rw [if_pos e,e]
    have:π ((0:Nat):Int)=0:=h0
    rw [this];exact .inr (aH _)
   ·rw [if_neg e,vQ,iE,if_pos hv];exact .inl rfl
  ·refine ⟨hl,fun v hv=>?_⟩;simp only;rw [qT (by rw [k8];omega)]
   by_cases e:v=0
   ·rw [if_pos e];exact .inr (by omega)
   ·rw [if_neg e,vQ,iE,if_pos hv];exact .inl rfl
  ·show ((List.replicate len INF).set 0 0).getD 0 0≠INF;rw [qT (by rw [k8];omega),if_pos rfl]
   decide
  ·intro k hk v hv
   have:k=0:=by simp only at hk;omega
   subst this;rw [show v=0 from hv];show ((List.replicate len INF).set 0 0).getD 0 0≠INF;rw [qT (by rw [k8];omega),if_pos rfl]
   decide
 ·rintro o ⟨d,b,ho,h⟩;rcases ho with rfl | rfl
  ·exact yB h
  ·exact yB h
theorem zOl {π:Int->Int} (hE:EOk len W g.Xj) (hW:0<=W) (hW2:W<=10000000) (hel:g.Xj.length<=7000) (hlen:len<=7000) (hP:Pot false π g.Xj) :
  Ok (AH FF g (List.replicate len 0) false) fun r=>r.2.length=len/\r.1=true:=by
 have hE1:W * (g.Xj.length:Int)<=10000000 * 7000:=Int.mul_le_mul hW2 (by omega) (by omega) (by omega);have hE0:0<=W * (g.Xj.length:Int):=CL hW (by omega);unfold AH;refine yX (P:=fun o:(List Int)⊕(Bool×(List (Int)))=>∃ d,o=.inr (true,d)/\d.length=len) ?_ ?_
 ·refine v9 (σ:=Nat×List Int) (fun n s=>HT FF g (List.replicate len 0) false n s.1 s.2)
   (fun s=>s.1<=len/\Bnd len (s.1 * (10000000 * 7000)) s.2/\(∀ v<len,s.2.getD v 0≠INF)/\∃ S,dn S len=s.1/\Stl len π g.Xj S s.2) _ (fun s=>len+1 - s.1) ?_ (0,_) ⟨wI _,?_,?_,fun _=>false,?_,?_⟩
  ·rintro n ⟨i,d⟩ ⟨h1,h3,h4,S,h5,h6⟩ ih;simp only at h1 h3 h4 h5 h6 ih ⊢;show Ok (KV _ _ _ _ _ _ _) _;unfold KV;rw [k8,w5 (i:=(len:Int)) (by omega) (by omega)];refine xV (fun hi=>?_) fun hi=>by omega
   refine pU (zDA (back:=false) hE hW (by omega) h3 (by omega)) ?_;have hb:=zEE (back:=false) (s:=(true,d)) hE hW h3;obtain ⟨f1,f2⟩:=zDh (back:=false) (s:=(true,d)) hE hW h3 (by omega)
   by_cases hS:∃ a<len,S a=false
   ·refine vZ (fun hc=>?_) fun hc=>?_
    ·have e:=zEe (back:=false) hc;rw [e];exact yB ⟨d,rfl,h3.1⟩
    ·obtain ⟨v,v1,v2,v3⟩:=least (ρ:=fun v=>d.getD v 0 - π v) len hS;have hst:=zME (s:=(true,d)) hE h3.1 hP h6 v1 v2 v3 h4;have hd:=(zCs (m:=len) v1 v2).1;have hdl:=zBR (upd S v) len;rw [w5];refine ih (i+1,_) ⟨by simp only;omega,?_,fun v hv=>f1 v hv (h4 v hv),upd S v,by simp only;omega,hst⟩ (by simp only;omega);exact hb.mono (by simp only;omega)
   ·have hst:∀ e∈g.Xj,gD d (dst false e)<=gD d (src false e)+e.Xv:=fun e he=>by
     obtain ⟨i1,i2,i3,i4⟩:=AG (back:=false) hE he;refine h6.out e he ?_;cases e1:S e.from_.toNat
     ·have i1:0<=e.from_:=i1;have i2:e.from_<len:=i2;exact absurd ⟨_,by omega,e1⟩ hS
     ·rfl
    rw [zMt (s:=(true,d)) hst];exact yB ⟨d,rfl,h3.1⟩
  ·refine ⟨k8,fun v hv=>?_⟩;simp only;rw [vQ,iE,if_pos hv];exact .inr ⟨by show _<=(0:Int);omega,by show (0:Int)<=_;omega⟩
  ·intro v hv;simp only;rw [vQ,iE,if_pos hv]
   decide
  ·simp only
   have:∀ m,dn (fun _=>false) m=0:=by
    intro m
    induction m with
    | zero=>rfl
    | succ m ih=>unfold dn;rw [ih];rfl
   exact this len
  ·exact ⟨fun a _ h=>by (cases h),fun e _ h=>by (cases h)⟩
 ·rintro _ ⟨d,rfl,h⟩;exact yB ⟨h,rfl⟩
end
end Go.Ab
