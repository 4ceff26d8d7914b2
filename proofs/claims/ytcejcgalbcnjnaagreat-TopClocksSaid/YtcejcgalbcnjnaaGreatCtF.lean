/- Lemmas. No conditions but those that they name. -/
import Derived.Test.YtcejcgalbcnjnaaGreatCtB
namespace Go.Ab
open Go
set_option linter.unusedVariables false
abbrev INF:Int:=9223372036854775807
def src (back:Bool) (e:xD):Int:=if back then e.to_ else e.from_
def dst (back:Bool) (e:xD):Int:=if back then e.from_ else e.to_
abbrev gD (d:List Int) (x:Int):Int:=d.getD x.toNat 0
def rlx (back:Bool) (s:Bool×List Int) (e:xD):Bool×List Int :=
 if gD s.2 (src back e)≠INF/\gD s.2 (src back e)+e.Xv<gD s.2 (dst back e) then (false,s.2.set (dst back e).toNat (gD s.2 (src back e)+e.Xv)) else s
def EOk (len:Nat) (W:Int) (es:List xD):Prop:=∀ e∈es,0<=e.from_/\e.from_<len/\0<=e.to_/\e.to_<len /\ -W<=e.Xv/\e.Xv<=W
def Bnd (len:Nat) (B:Int) (d:List Int):Prop:=d.length=len/\∀ v<len,d.getD v 0=INF \/ -B<=d.getD v 0/\d.getD v 0<=B
section
variable {len:Nat} {W:Int} {back:Bool}
theorem AG {es:List xD} (h:EOk len W es) {e:xD} (he:e∈es):0<=src back e/\src back e<len/\0<=dst back e/\dst back e<len:=by
 obtain ⟨h1,h2,h3,h4,_⟩:=h e he;cases back
 ·exact ⟨h1,h2,h3,h4⟩
 ·exact ⟨h3,h4,h1,h2⟩
theorem RK {s:Bool×List Int} {e:xD} (hd:(dst back e).toNat<s.2.length) (v:Nat) :
  (rlx back s e).2.getD v 0=if gD s.2 (src back e)≠INF/\gD s.2 (src back e)+e.Xv<gD s.2 (dst back e)/\v=(dst back e).toNat then gD s.2 (src back e)+e.Xv else s.2.getD v 0:=by
 unfold rlx
 by_cases h:gD s.2 (src back e)≠INF/\gD s.2 (src back e)+e.Xv<gD s.2 (dst back e)
 ·rw [if_pos h];simp only;rw [qT hd]
  by_cases h2:v=(dst back e).toNat
  ·rw [if_pos h2,if_pos ⟨h.1,h.2,h2⟩]
  ·rw [if_neg h2,if_neg fun h3=>h2 h3.2.2]
 ·rw [if_neg h,if_neg fun h3=>h ⟨h3.1,h3.2.1⟩]
theorem zBI (s:Bool×List Int) (e:xD):(rlx back s e).2.length=s.2.length:=by
 unfold rlx;split
 ·simp only;rw [kW]
 ·rfl
theorem Z8 {B:Int} {s:Bool×List Int} {es:List xD} {e:xD} (he:e∈es) (h:EOk len W es) (hW:0<=W) (hb:Bnd len B s.2):Bnd len (B+W) (rlx back s e).2:=by
 obtain ⟨i1,i2,i3,i4⟩:=AG (back:=back) h he;obtain ⟨_,_,_,_,w1,w2⟩:=h e he;obtain ⟨b1,b2⟩:=hb;refine ⟨by rw [zBI];exact b1,fun v hv=>?_⟩;rw [RK (by omega)]
 split
 ·rename_i h1
  rcases b2 (src back e).toNat (by omega) with h2 | h2
  ·exact absurd h2 h1.1
  ·refine .inr ?_;unfold gD;omega
 ·rcases b2 v hv with h2 | h2
  ·exact .inl h2
  ·exact .inr (by omega)
theorem zEE:∀ {es:List xD} {B:Int} {s:Bool×List Int},EOk len W es->0<=W->Bnd len B s.2->Bnd len (B+W * es.length) (es.foldl (rlx back) s).2:=by
 intro es
 induction es with
 | nil=>intro B s _ _ h;simpa using h
 | cons e es ih =>
  intro B s h hW hb
  have:=ih (fun x hx=>h x (qX _ hx)) hW (Z8 (back:=back) (tK ..) h hW hb)
  rw [zlc,aF];have e2:B+W * ((es.length+1:Nat):Int)=B+W+W * (es.length:Int):=by
   rw [Int.natCast_add,Int.mul_add];omega
  rw [e2];exact this
theorem zFc {s:Bool×List Int} {e:xD} (hd:(dst back e).toNat<s.2.length) (v:Nat):(rlx back s e).2.getD v 0<=s.2.getD v 0:=by
 rw [RK hd]
 split
 ·rename_i h;rw [h.2.2];unfold gD at h ⊢;omega
 ·exact aH _
theorem zMv:∀ {es:List xD} {s:Bool×List Int},s.1=false->(es.foldl (rlx back) s).1=false:=by
 intro es
 induction es with
 | nil=>intro s h;exact h
 | cons e es ih =>
  intro s h;rw [aF];refine ih ?_;unfold rlx;split
  ·rfl
  ·exact h
theorem zEe:∀ {es:List xD} {s:Bool×List Int},(es.foldl (rlx back) s).1=true->es.foldl (rlx back) s=s:=by
 intro es
 induction es with
 | nil=>intro s _;rfl
 | cons e es ih =>
  intro s h;rw [aF] at h ⊢
  by_cases h2:gD s.2 (src back e)≠INF/\gD s.2 (src back e)+e.Xv<gD s.2 (dst back e)
  ·rw [show rlx back s e=_ from if_pos h2] at h;rw [zMv rfl] at h;cases h
  ·rw [show rlx back s e=_ from if_neg h2] at h ⊢;exact ih h
theorem zMt:∀ {es:List xD} {s:Bool×List Int},(∀ e∈es,gD s.2 (dst back e)<=gD s.2 (src back e)+e.Xv)->es.foldl (rlx back) s=s:=by
 intro es
 induction es with
 | nil=>intro s _;rfl
 | cons e es ih =>
  intro s h;rw [aF,show rlx back s e=s from if_neg fun h2=>by have:=h e (tK ..);omega];exact ih fun x hx=>h x (qX _ hx)
def Pot (back:Bool) (π:Int->Int) (es:List xD):Prop:=∀ e∈es,π (dst back e) - π (src back e)<=e.Xv
def Low (len:Nat) (π:Int->Int) (d:List Int):Prop:=∀ v:Nat,v<len->d.getD v 0=INF\/π v<=d.getD v 0
theorem zMI {π:Int->Int}:∀ {es:List xD} {s:Bool×List Int},EOk len W es->s.2.length=len->Pot back π es->Low len π s.2->Low len π (es.foldl (rlx back) s).2:=by
 intro es
 induction es with
 | nil=>intro s _ _ _ h;exact h
 | cons e es ih =>
  intro s h hl hp hs;rw [aF];obtain ⟨i1,i2,i3,i4⟩:=AG (back:=back) h (tK ..);refine ih (fun x hx=>h x (qX _ hx)) (by rw [zBI];exact hl) (fun x hx=>hp x (qX _ hx)) fun v hv=>?_
  rw [RK (by omega)]
  split
  ·rename_i h1
   refine .inr ?_
   have:=hp e (tK ..)
   rcases hs (src back e).toNat (by omega) with h2 | h2
   ·exact absurd h2 h1.1
   ·rw [show (((src back e).toNat:Nat):Int)=src back e by omega] at h2;rw [h1.2.2,show (((dst back e).toNat:Nat):Int)=dst back e by omega];unfold gD;omega
  ·exact hs v hv
theorem zDh:∀ {es:List xD} {B:Int} {s:Bool×List Int},EOk len W es->0<=W->Bnd len B s.2->B+W * es.length<=1000000000000000000 ->
  (∀ v,v<len->s.2.getD v 0≠INF->(es.foldl (rlx back) s).2.getD v 0≠INF)/\∀ e∈es,gD s.2 (src back e)≠INF->gD (es.foldl (rlx back) s).2 (dst back e)≠INF:=by
 intro es
 induction es with
 | nil=>intro B s _ _ _ _;exact ⟨fun v _ h=>h,fun e h=>by cases h⟩
 | cons e es ih =>
  intro B s h hW hb hB;obtain ⟨i1,i2,i3,i4⟩:=AG (back:=back) h (tK ..);obtain ⟨_,_,_,_,w1,w2⟩:=h e (tK ..);have e2:B+W * (((e::es).length:Nat):Int)=B+W+W * (es.length:Int):=by
   rw [zlc,Int.natCast_add,Int.mul_add];omega
  rw [e2] at hB;have hWn:0<=W * (es.length:Int):=CL hW (by omega);obtain ⟨j1,j2⟩:=ih (fun x hx=>h x (qX _ hx)) hW (Z8 (back:=back) (tK ..) h hW hb) hB;rw [aF];have hdl:(dst back e).toNat<s.2.length:=by have:=hb.1;omega
  have st:∀ v,v<len->s.2.getD v 0≠INF->(rlx back s e).2.getD v 0≠INF:=by
   intro v hv hf
   have:=zFc (back:=back) (e:=e) hdl v
   rcases hb.2 v hv with h2 | h2
   ·exact absurd h2 hf
   ·unfold INF at *;omega
  refine ⟨fun v hv hf=>j1 v hv (st v hv hf),fun x hx hf=>?_⟩;rcases uA.mp hx with rfl | hx
  ·refine j1 _ (by omega) ?_;rw [RK hdl];rcases hb.2 (src back x).toNat (by omega) with h2 | h2
   ·exact absurd h2 hf
   ·split
    ·unfold gD INF;omega
    ·rename_i h3
     have h4:¬(gD s.2 (src back x)+x.Xv<gD s.2 (dst back x)):=fun h5=>h3 ⟨hf,h5,rfl⟩
     unfold gD INF at *;omega
  ·obtain ⟨k1,k2,k3,k4⟩:=AG (back:=back) h (qX _ hx);exact j2 x hx (st _ (by omega) hf)
end
section
variable {len:Nat} {W:Int} {π:Int->Int}
structure Stl (len:Nat) (π:Int->Int) (ES:List xD) (S:Nat->Bool) (d:List Int):Prop where
 le:∀ a<len,S a=true->∀ b<len,S b=false->d.getD a 0 - π a<=d.getD b 0 - π b
 out:∀ e∈ES,S e.from_.toNat=true->gD d e.to_<=gD d e.from_+e.Xv
theorem zME {ES:List xD} {S:Nat->Bool} {s:Bool×List Int} (hE:EOk len W ES) (hl:s.2.length=len) (hP:Pot false π ES) (h:Stl len π ES S s.2) {v:Nat} (hv:v<len) (hvS:S v=false)
  (hm:∀ b<len,S b=false->s.2.getD v 0 - π v<=s.2.getD b 0 - π b) (hfin:∀ b<len,s.2.getD b 0≠INF):Stl len π ES (upd S v) (ES.foldl (rlx false) s).2:=by
 have key:∀ (es:List xD) (t:Bool×List Int),(∀ e∈es,e∈ES)->t.2.length=len->(∀ a<len,S a=true->t.2.getD a 0=s.2.getD a 0)->t.2.getD v 0=s.2.getD v 0->(∀ b<len,S b=false->s.2.getD v 0 - π v<=t.2.getD b 0 - π b)->(∀ b<len,t.2.getD b 0<=s.2.getD b 0)->v=v ->
   let u:=es.foldl (rlx false) t
   u.2.length=len/\(∀ a<len,S a=true->u.2.getD a 0=s.2.getD a 0)/\u.2.getD v 0=s.2.getD v 0/\(∀ b<len,S b=false->s.2.getD v 0 - π v<=u.2.getD b 0 - π b)/\(∀ b<len,u.2.getD b 0<=t.2.getD b 0)/\∀ e∈es,e.from_.toNat=v->gD u.2 e.to_<=s.2.getD v 0+e.Xv:=by
  intro es
  induction es with
  | nil=>intro t _ h1 h2 h3 h4 h5 _;exact ⟨h1,h2,h3,h4,fun b _=>aH _,fun e he=>by cases he⟩
  | cons e es ih =>
   intro t hes h1 h2 h3 h4 h5 _;have he:=hes e (tK ..);obtain ⟨i1,i2,i3,i4⟩:=AG (back:=false) hE he;have i1:0<=e.from_:=i1;have i2:e.from_<len:=i2;have i3:0<=e.to_:=i3;have i4:e.to_<len:=i4;have hp:π e.to_ - π e.from_<=e.Xv:=hP e he;have ef:((e.from_.toNat:Nat):Int)=e.from_:=by omega
   have et:((e.to_.toNat:Nat):Int)=e.to_:=by omega
   have hx:(rlx false t e).2.length=len/\(∀ a<len,S a=true->(rlx false t e).2.getD a 0=s.2.getD a 0)/\(rlx false t e).2.getD v 0=s.2.getD v 0/\(∀ b<len,S b=false->s.2.getD v 0 - π v<=(rlx false t e).2.getD b 0 - π b)/\(∀ b<len,(rlx false t e).2.getD b 0<=t.2.getD b 0)/\(e.from_.toNat=v->gD (rlx false t e).2 e.to_<=s.2.getD v 0+e.Xv):=by
    have hle:=fun b=>zFc (back:=false) (s:=t) (e:=e) (show e.to_.toNat<t.2.length by omega) b
    have hat:=fun b=>RK (back:=false) (s:=t) (e:=e) (show e.to_.toNat<t.2.length by omega) b
    by_cases hq:gD t.2 e.from_≠INF/\gD t.2 e.from_+e.Xv<gD t.2 e.to_
    ·have hsf:S e.from_.toNat=false:=by
      cases e1:S e.from_.toNat
      ·rfl
      ·have a1:=h2 _ (by omega) e1;have a2:=h.out e he e1;have a3:=h5 e.to_.toNat (by omega);unfold gD at a2 hq;omega
     have a1:=h4 _ (by omega) hsf;rw [ef] at a1;have htf:S e.to_.toNat=false:=by
      cases e1:S e.to_.toNat
      ·rfl
      ·have a2:=h2 _ (by omega) e1;have a3:=h.le _ (by omega) e1 v hv hvS;rw [et] at a3;unfold gD at hq;omega
     have htv:v≠e.to_.toNat:=fun e1=>by
      have a2:((v:Nat):Int)=e.to_:=by omega
      rw [a2] at a1;rw [e1] at h3 a1;unfold gD at hq;omega
     have hat2:∀ b,(rlx false t e).2.getD b 0=if b=e.to_.toNat then gD t.2 e.from_+e.Xv else t.2.getD b 0:=by
      intro b;rw [hat b]
      by_cases e1:b=e.to_.toNat
      ·rw [if_pos ⟨hq.1,hq.2,e1⟩,if_pos e1];rfl
      ·rw [if_neg fun e2=>e1 e2.2.2,if_neg e1]
     refine ⟨by rw [zBI];exact h1,fun a ha ha2=>?_,?_,fun b hb hb2=>?_,fun b hb=>hle b,fun e1=>?_⟩
     ·rw [hat2,if_neg (fun e1=>by rw [e1,htf] at ha2;cases ha2)];exact h2 a ha ha2
     ·rw [hat2,if_neg htv];exact h3
     ·rw [hat2]
      split
      ·rename_i e1
       rw [e1,et];unfold gD;omega
      ·exact h4 b hb hb2
     ·show (rlx false t e).2.getD e.to_.toNat 0<=_;rw [hat2,if_pos rfl];show t.2.getD e.from_.toNat 0+_<=_;rw [e1,h3];exact aH _
    ·have hr:rlx false t e=t:=if_neg hq;rw [hr];refine ⟨h1,h2,h3,h4,fun b _=>aH _,fun e1=>?_⟩;have a2:gD t.2 e.from_=s.2.getD v 0:=by
      show t.2.getD e.from_.toNat 0=_;rw [e1,h3]
     have a3:gD t.2 e.from_≠INF:=by rw [a2];exact hfin v hv
     have a4:¬(gD t.2 e.from_+e.Xv<gD t.2 e.to_):=fun h9=>hq ⟨a3,h9⟩
     rw [a2] at a4;omega
   obtain ⟨x1,x2,x3,x4,x5,x6⟩:=hx;obtain ⟨y1,y2,y3,y4,y5,y6⟩:=ih (rlx false t e) (fun e he=>hes e (qX _ he)) x1 x2 x3 x4 (fun b hb=>by have:=x5 b hb;have:=h5 b hb;omega) rfl;refine ⟨y1,y2,y3,y4,fun b hb=>by have:=x5 b hb;have:=y5 b hb;rw [aF];omega,fun e2 he2 e1=>?_⟩;rcases uA.mp he2 with rfl | he2
   ·have:=x6 e1
    have:=y5 e2.to_.toNat (by omega)
    rw [aF];unfold gD at *;omega
   ·exact y6 e2 he2 e1
 obtain ⟨y1,y2,y3,y4,y5,y6⟩:=key ES s (fun e he=>he) hl (fun _ _ _=>rfl) rfl hm (fun _ _=>aH _) rfl;have hup:∀ b,upd S v b=if b=v then true else S b:=fun _=>rfl
 refine ⟨fun a ha ha2 b hb hb2=>?_,fun e he hs=>?_⟩
 ·rw [hup] at ha2 hb2
  split at hb2
  ·cases hb2
  ·have a1:=y4 b hb hb2
   split at ha2
   ·rename_i e1
    rw [e1,y3];exact a1
   ·rw [y2 a ha ha2]
    have:=h.le a ha ha2 v hv hvS
    omega
 ·obtain ⟨i1,i2,i3,i4⟩:=AG (back:=false) hE he;have i1:0<=e.from_:=i1;have i2:e.from_<len:=i2;have i3:0<=e.to_:=i3;have i4:e.to_<len:=i4;rw [hup] at hs
  split at hs
  ·rename_i e1
   have:=y6 e he e1
   show _<=(ES.foldl (rlx false) s).2.getD e.from_.toNat 0+_;rw [e1,y3];exact this
  ·have a1:=h.out e he hs;have a2:=y5 e.to_.toNat (by omega);have a3:=y2 e.from_.toNat (by omega) hs;unfold gD at *;omega
end
end Go.Ab
