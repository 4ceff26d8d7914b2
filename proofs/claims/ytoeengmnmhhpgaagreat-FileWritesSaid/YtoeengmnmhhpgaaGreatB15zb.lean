/- Plain laws of the functions uS this seat's, laid anew from another seat's text. No conditions but those that the theorems name. -/
import Derived.Test.YtoeengmnmhhpgaaGreatP15zxD
import Derived.Test.YtoeengmnmhhpgaaGreatA32
import Derived.Test.YtoeengmnmhhpgaaGreatC15y
namespace Go.Ab
open Go
set_option linter.unusedVariables false
def pO:List Int:=[95,46,58,47,60,62,36,42,126,45]
def aA (c:Int):Bool:=decide (97<=c/\c<=122)||decide (65<=c/\c<=90)||decide (48<=c/\c<=57)||pO.contains c
def tL {α:Type} [DecidableEq α] (s:α):Nat->List α->Int
 | _,[] => -1
 | i,x::r=>if x=s then (i:Int) else tL s (i+1) r
theorem rZ {α:Type} [DecidableEq α] (s:α):∀ (l:List α) (i:Nat),(tL s i l = -1/\s∉l)\/∃ j,l[j]?=some s/\tL s i l=((i+j:Nat):Int):=by
 intro l
 induction l with
 | nil=>intro i;exact .inl ⟨rfl,by simp⟩
 | cons x r ih =>
  intro i;unfold tL
  by_cases h:x=s
  ·exact .inr ⟨0,by simp [h],by simp [h]⟩
  ·rw [if_neg h];rcases ih (i+1) with ⟨h1,h2⟩ | ⟨j,h1,h2⟩
   ·exact .inl ⟨h1,by simp [h2,Ne.symm h]⟩
   ·exact .inr ⟨j+1,by simpa using h1,by rw [h2];omega⟩
def tC (s:List Int):Int:=if s=[]\/40<s.length then 3 else if s.all aA then 0 else 3
theorem OQ {α R:Type} {l:List α} (L:Nat->Int->Option (Unit⊕R)) (f:Nat->α->Option R)
  (h0:∀ n i,l.length<=i->L (n+1) (i:Nat)=some (.inl ()))
  (h1:∀ n i x r,l.drop i=x::r->i<l.length->(∀ b,f i x=some b->L (n+1) (i:Nat)=some (.inr b))/\(f i x=none->L (n+1) (i:Nat)=L n ((i+1:Nat):Int)))
  {n:Nat} (hn:l.length<n):L n 0=some (uR f 0 l):=by
 have:=ER (l:=l) (σ:=Unit) (fun n i _=>L n i) (fun i r _=>uR f i r) (fun _ _=>True) (fun n i _ hi _=>h0 n i hi) ?_ (n:=n) (s:=()) trivial hn
 ·exact this
 ·intro n i _ x r hd hlt _ ih;obtain ⟨k1,k2⟩:=h1 n i x r hd hlt;simp only [uR];cases hf:f i x with
  | none=>rw [k2 hf];exact ih () trivial
  | some b=>rw [k1 b hf]
theorem zIw {α:Type} (p:α->Bool):∀ (l:List α) (i:Nat),uR (fun _ x=>if p x then some true else none) i l=if l.any p then .inr true else .inl ():=by
 intro l
 induction l with
 | nil=>intro i;rfl
 | cons x r ih =>
  intro i;simp only [uR]
  by_cases hp:p x=true
  ·have ea:(x::r).any p=true:=by simp [hp]
   rw [if_pos hp,if_pos ea]
  ·have ea:(x::r).any p=r.any p:=by simp [hp]
   rw [if_neg hp,ih (i+1),ea]
theorem zC1 {c:Int}:g9 281474976710656 c 281474976710656 0=some (if pO.contains c then .inr true else .inl ()):=by
 have:=OQ (l:=pO) (g9 281474976710656 c) (fun _ x=>if x==c then some true else none) ?_ ?_ (n:=281474976710656) (by show 10<281474976710656;omega)
 ·rw [this,zIw (fun x=>x==c)];have e:pO.any (fun x=>x==c)=pO.contains c:=by
   rw [List.contains_eq_any_beq];congr 1;funext x;exact BEq.comm
  rw [e]
 ·intro n i hi;show oW 281474976710656 c _ _=_;unfold oW
  change pO.length<=i at hi
  have h10:pO.length=10:=rfl;rw [yP (by rw [show ([95,46,58,47,60,62,36,42,126,45]:List Int)=pO from rfl];omega),cond_false]
 ·intro n i x r hd hlt;have h10:pO.length=10:=rfl;have e:g9 281474976710656 c (n+1) (i:Nat)=(bif (x==c) then some (.inr true) else g9 281474976710656 c n ((i+1:Nat):Int)):=by
   show oW 281474976710656 c _ _=_;unfold oW;rw [show ([95,46,58,47,60,62,36,42,126,45]:List Int)=pO from rfl,yN (by omega),cond_true,vE hd,zbs,wX (by omega)]
  rw [e]
  constructor
  ·intro b hb
   by_cases hx:(x==c)=true
   ·rw [if_pos hx] at hb;injection hb with hb;subst hb;rw [hx];rfl
   ·rw [if_neg hx] at hb;cases hb
  ·intro hb
   by_cases hx:(x==c)=true
   ·rw [if_pos hx] at hb;cases hb
   ·rw [Bool.not_eq_true] at hx;rw [hx];rfl
theorem zBA (c:Int):∀ l:List Int, -1<=pD l c/\decide (pD l c>=0)=l.contains c:=by
 intro l
 induction l with
 | nil=>simp [pD]
 | cons b l ih =>
  unfold pD;rw [List.contains_cons]
  by_cases h:b=c
  ·rw [if_pos h];subst h;simp
  ·rw [if_neg h];have hb:(c==b)=false:=by simpa using Ne.symm h
   rw [hb,Bool.false_or]
   by_cases h2:pD l c = -1
   ·rw [if_pos h2]
    have:=ih.2;rw [h2] at this
    exact ⟨by omega,this⟩
   ·rw [if_neg h2];refine ⟨by omega,?_⟩;rw [<- ih.2]
    have:=ih.1
    rw [yN (by omega),yN (by omega)]
theorem zHs {c:Int}:decide (pD pO c>=0)=pO.contains c:=(zBA c pO).2
theorem zCK {c:Int}:G4 c=some (aA c):=by
 unfold G4 bP M2;have h:=zHs (c:=c);unfold pO at h;unfold aA pO;simp only [zbs,h]
 by_cases c1:c>=97<;>by_cases c2:c<=122<;>by_cases c3:c>=65<;>by_cases c4:c<=90<;>by_cases c5:c>=48<;>by_cases c6:c<=57<;>simp [c1,c2,c3,c4,c5,c6]<;>omega
theorem zCR {c:Int}:KK 281474976710656 c=some (aA c):=by
 unfold KK;rw [zC1];unfold aA
 by_cases hs:pO.contains c=true
 ·rw [if_pos hs];simp only [hs,Bool.or_true,zbs];cases (bif decide (c>=(97:Int)) then (decide (c<=(122:Int))||(bif decide (c>=(65:Int)) then (decide (c<=(90:Int))||(decide (c>=(48:Int))&&decide (c<=(57:Int)))) else (decide (c>=(48:Int))&&decide (c<=(57:Int))))) else (bif decide (c>=(65:Int)) then (decide (c<=(90:Int))||(decide (c>=(48:Int))&&decide (c<=(57:Int)))) else (decide (c>=(48:Int))&&decide (c<=(57:Int)))))<;>rfl
 ·rw [if_neg hs];rw [Bool.not_eq_true] at hs;simp only [hs,Bool.or_false,zbs]
  by_cases c1:c>=97<;>by_cases c2:c<=122<;>by_cases c3:c>=65<;>by_cases c4:c<=90<;>by_cases c5:c>=48<;>by_cases c6:c<=57<;>simp [c1,c2,c3,c4,c5,c6]<;>omega
theorem XH {α R:Type} (p:α->Bool) (v:R):∀ (l:List α) (i:Nat),uR (fun _ x=>if p x=false then some v else none) i l=if l.all p=true then .inl () else .inr v:=by
 intro l
 induction l with
 | nil=>intro i;rfl
 | cons x r ih =>
  intro i;simp only [uR]
  by_cases hp:p x=false
  ·have ea:¬(x::r).all p=true:=by simp [hp]
   rw [if_pos hp,if_neg ea]
  ·have ea:(x::r).all p=r.all p:=by simp at hp;simp [hp]
   rw [if_neg hp,ih (i+1),ea]
theorem zAZ {l:List Int} (L:Nat->Int->Option (Unit⊕Int)) (hl:l.length<=40)
  (e:∀ n i,L (n+1) (i:Nat)=bif decide (((i:Nat):Int)<((l.length:Nat):Int)) then (yX l (i:Nat)).bind fun c=>(bif !(aA c) then some (.inr (3:Int)) else L n (zI ((i:Nat)+(1:Int)))) else some (.inl ())) :
  L 281474976710656 0=some (if l.all aA=true then .inl () else .inr 3):=by
 have:=OQ (l:=l) L (fun _ x=>if aA x=false then some 3 else none) ?_ ?_ (n:=281474976710656) (by omega)
 ·rw [this,XH]
 ·intro n i hi;rw [e,yP (by omega),cond_false]
 ·intro n i x r hd hlt;rw [e,yN (by omega),cond_true,vE hd,zbs,wX (by omega)];cases aA x<;>simp
theorem JC {l:List Int}:dY 281474976710656 l=some (tC l):=by
 unfold dY tC
 by_cases h:l=[]\/40<l.length
 ·have:((l==([]:List Int))||decide ((((l).length:Nat):Int)>(40:Int)))=true:=by
   rcases h with h | h
   ·rw [h];rfl
   ·rw [yN (p:=((l.length:Nat):Int)>40) (by omega),Bool.or_true]
  rw [this,cond_true,if_pos h]
 ·have:((l==([]:List Int))||decide ((((l).length:Nat):Int)>(40:Int)))=false:=by
   have hb:(l==([]:List Int))=false:=by
    cases l with
    | nil=>exact absurd (.inl rfl) h
    | cons a r=>rfl
   rw [hb,yP (by omega)];rfl
  rw [this,cond_false,if_neg h,zAZ (l:=l) (KY 281474976710656 l) (by omega) (fun n i=>by
   show K6 281474976710656 l _ _=_;unfold K6;simp only [zCK,zbs]),zbs]
  by_cases ha:l.all aA=true
  ·rw [if_pos ha,if_pos ha]
  ·rw [if_neg ha,if_neg ha]
theorem GH {l:List Int}:fV 281474976710656 l=some (tC l):=by
 unfold fV tC
 by_cases h:l=[]\/40<l.length
 ·have:(decide ((((l).length:Nat):Int)<(1:Int))||decide ((((l).length:Nat):Int)>(40:Int)))=true:=by
   rcases h with h | h
   ·rw [h];rfl
   ·rw [yN (p:=((l.length:Nat):Int)>40) (by omega),Bool.or_true]
  rw [this,cond_true,if_pos h]
 ·have hp:0<l.length:=List.length_pos_iff.2 (fun hc=>h (.inl hc))
  have:(decide ((((l).length:Nat):Int)<(1:Int))||decide ((((l).length:Nat):Int)>(40:Int)))=false:=by
   rw [yP (by omega),yP (by omega)];rfl
  rw [this,cond_false,if_neg h,zAZ (l:=l) (EL 281474976710656 l) (by omega) (fun n i=>by
   show JX 281474976710656 l _ _=_;unfold JX;simp only [zCR,zbs]),zbs]
  by_cases ha:l.all aA=true
  ·rw [if_pos ha,if_pos ha]
  ·rw [if_neg ha,if_neg ha]
def pM (l:List (List Int)):Int:=if 32<l.length then 7 else if l.all (fun s=>decide (tC s=0)) then 0 else 3
theorem EF (s:List Int):tC s=0\/tC s=3:=by
 unfold tC;split
 ·exact .inr rfl
 ·split
  ·exact .inl rfl
  ·exact .inr rfl
theorem WZ {l:List (List Int)} (L:Nat->Int->Option (Unit⊕Int)) (hl:l.length<=100000)
  (e:∀ n i,L (n+1) (i:Nat)=bif decide (((i:Nat):Int)<((l.length:Nat):Int)) then (yX l (i:Nat)).bind fun c=>(bif (tC c != (0:Int)) then some (.inr (3:Int)) else L n (zI ((i:Nat)+(1:Int)))) else some (.inl ())) :
  L 281474976710656 0=some (if l.all (fun s=>decide (tC s=0))=true then .inl () else .inr 3):=by
 have:=OQ (l:=l) L (fun _ x=>if decide (tC x=0)=false then some 3 else none) ?_ ?_ (n:=281474976710656) (by omega)
 ·rw [this,XH (fun s=>decide (tC s=0))]
 ·intro n i hi;rw [e,yP (by omega),cond_false]
 ·intro n i x r hd hlt;rw [e,yN (p:=((i:Nat):Int)<((l.length:Nat):Int)) (by omega),cond_true,vE hd,zbs,wX (by omega)];rcases EF x with h | h<;>simp [h]
theorem X2 {l:List (List Int)}:AG 281474976710656 l=some (pM l):=by
 unfold AG pM
 by_cases h:32<l.length
 ·rw [yN (by omega),cond_true,if_pos h]
 ·rw [yP (by omega),cond_false,if_neg h,WZ (l:=l) (J2 281474976710656 l) (by omega) (fun n i=>by
   show JH 281474976710656 l _ _=_;unfold JH;simp only [JC,zbs]
   congr 1;congr 1;funext c
   rcases EF c with h | h<;>rw [h]<;>rfl),zbs]
  by_cases ha:l.all (fun s=>decide (tC s=0))=true
  ·rw [if_pos ha,if_pos ha]
  ·rw [if_neg ha,if_neg ha]
theorem zAE {l:List (List Int)}:AE 281474976710656 l=some (pM l):=by
 unfold AE pM
 by_cases h:32<l.length
 ·rw [yN (by omega),cond_true,if_pos h]
 ·rw [yP (by omega),cond_false,if_neg h,WZ (l:=l) (E8 281474976710656 l) (by omega) (fun n i=>by
   show EQ 281474976710656 l _ _=_;unfold EQ;simp only [GH,zbs]),zbs]
  by_cases ha:l.all (fun s=>decide (tC s=0))=true
  ·rw [if_pos ha,if_pos ha]
  ·rw [if_neg ha,if_neg ha]
theorem MD {α:Type} [DecidableEq α] {l:List α} {s:α} (L:Nat->Int->Option (Unit⊕Int)) (hl:l.length<=100000)
  (e:∀ n i x r,l.drop i=x::r->i<l.length->L (n+1) (i:Nat)=if x=s then some (.inr (i:Int)) else L n ((i+1:Nat):Int))
  (e0:∀ n i,l.length<=i->L (n+1) (i:Nat)=some (.inl ())):L 281474976710656 0=some (if tL s 0 l = -1 then .inl () else .inr (tL s 0 l)):=by
 have:=ER (l:=l) (σ:=Unit) (fun n i _=>L n i) (fun i r _=>if tL s i r = -1 then .inl () else .inr (tL s i r)) (fun _ _=>True) (fun n i _ hi _=>by simpa [tL] using e0 n i hi) ?_ (n:=281474976710656) (s:=()) trivial (by omega)
 ·exact this
 ·intro n i _ x r hd hlt _ ih;show L (n+1) (i:Nat)=_;rw [e n i x r hd hlt]
  by_cases h:x=s
  ·have:tL s i (x::r)=(i:Int):=by simp [tL,h]
   rw [if_pos h,this,if_neg (by omega)]
  ·have:tL s i (x::r)=tL s (i+1) r:=by simp [tL,h]
   rw [if_neg h,this];exact ih () trivial
theorem zDo {l:List (List Int)} {s:List Int} (hl:l.length<=100000):JJ 281474976710656 l s=some (tL s 0 l):=by
 unfold JJ;rw [MD (l:=l) (s:=s) (HV 281474976710656 l s) hl (fun n i x r hd hlt=>by
  show mP 281474976710656 l s _ _=_;unfold mP;rw [yN (p:=((i:Nat):Int)<((l.length:Nat):Int)) (by omega),cond_true,vE hd,zbs,wX (by omega)]
  by_cases h:x=s
  ·rw [if_pos h,OE h.symm];rfl
  ·rw [if_neg h,NY (fun hc=>h hc.symm)];rfl) (fun n i hi=>by
  show mP 281474976710656 l s _ _=_;unfold mP;rw [yP (p:=((i:Nat):Int)<((l.length:Nat):Int)) (by omega),cond_false]),zbs]
 by_cases h:tL s 0 l = -1
 ·rw [if_pos h,h]
 ·rw [if_neg h]
theorem zAd {l:List (List Int)} {s:List Int} (hl:l.length<=100000):AC 281474976710656 l s=some (tL s 0 l):=by
 unfold AC;rw [MD (l:=l) (s:=s) (K4 281474976710656 l s) hl (fun n i x r hd hlt=>by
  show lK 281474976710656 l s _ _=_;unfold lK;rw [yN (p:=((i:Nat):Int)<((l.length:Nat):Int)) (by omega),cond_true,vE hd,zbs,wX (by omega)]
  by_cases h:x=s
  ·rw [if_pos h,OE h];rfl
  ·rw [if_neg h,NY h];rfl) (fun n i hi=>by
  show lK 281474976710656 l s _ _=_;unfold lK;rw [yP (p:=((i:Nat):Int)<((l.length:Nat):Int)) (by omega),cond_false]),zbs]
 by_cases h:tL s 0 l = -1
 ·rw [if_pos h,h]
 ·rw [if_neg h]
theorem zHC {l:List (zV)} {s:zV} (hl:l.length<=100000):H2 281474976710656 l s=some (tL s 0 l):=by
 unfold H2;rw [MD (l:=l) (s:=s) (JQ 281474976710656 l s) hl (fun n i x r hd hlt=>by
  show oI 281474976710656 l s _ _=_;unfold oI;rw [yN (p:=((i:Nat):Int)<((l.length:Nat):Int)) (by omega),cond_true,vE hd,zbs,wX (by omega)]
  by_cases h:x=s
  ·rw [if_pos h,yN h.symm];rfl
  ·rw [if_neg h,yP (fun hc=>h hc.symm)];rfl) (fun n i hi=>by
  show oI 281474976710656 l s _ _=_;unfold oI;rw [yP (p:=((i:Nat):Int)<((l.length:Nat):Int)) (by omega),cond_false]),zbs]
 by_cases h:tL s 0 l = -1
 ·rw [if_pos h,h]
 ·rw [if_neg h]
theorem V4 {l:List (zV)} {s:zV} (hl:l.length<=100000):DT 281474976710656 l s=some (tL s 0 l):=by
 unfold DT;rw [MD (l:=l) (s:=s) (GY 281474976710656 l s) hl (fun n i x r hd hlt=>by
  show mK 281474976710656 l s _ _=_;unfold mK;rw [yN (p:=((i:Nat):Int)<((l.length:Nat):Int)) (by omega),cond_true,vE hd,zbs,wX (by omega)]
  by_cases h:x=s
  ·rw [if_pos h,yN h];rfl
  ·rw [if_neg h,yP h];rfl) (fun n i hi=>by
  show mK 281474976710656 l s _ _=_;unfold mK;rw [yP (p:=((i:Nat):Int)<((l.length:Nat):Int)) (by omega),cond_false]),zbs]
 by_cases h:tL s 0 l = -1
 ·rw [if_pos h,h]
 ·rw [if_neg h]
def tF (names:List (List Int)) (s:List Int):Int×List (List Int)×Int :=
 if tC s≠0 then (0,names,tC s) else if tL s 0 names ≠ -1 then (tL s 0 names,names,0) else if 1000<=names.length then (0,names,6) else ((names.length:Int),names++[s],0)
theorem CX {α:Type} [DecidableEq α] (s:α) (l:List α) : -1<=tL s 0 l:=by
 rcases rZ s l 0 with ⟨h,_⟩ | ⟨j,_,h⟩<;>omega
theorem WA {names:List (List Int)} {s:List Int} (hl:names.length<=100000):rW 281474976710656 names s=some (tF names s):=by
 unfold rW tF;have hr:=CX s names;rw [JC,zbs]
 by_cases h:tC s≠0
 ·rw [xX h,if_pos h];rfl
 rw [x7 (by omega),if_neg h,cond_false,zDo hl,zbs]
 by_cases h1:tL s 0 names ≠ -1
 ·rw [yN (by omega),if_pos h1,cond_true]
 rw [yP (by omega),if_neg h1,cond_false]
 by_cases h2:1000<=names.length
 ·rw [yN (by omega),if_pos h2,cond_true]
 rw [yP (by omega),if_neg h2,cond_false];unfold OX;rw [xQ (by simp only [List.length_nil];omega),zbs,zbs,List.nil_append,xQ (by simp only [zls];omega),zbs]
theorem W3 {names:List (List Int)} {s:List Int} (hl:names.length<=100000):AO 281474976710656 names s=some (tF names s):=by
 unfold AO tF;have hr:=CX s names;have h03:=EF s;rw [GH,zbs]
 by_cases h:tC s≠0
 ·rw [xX h,if_pos h,show tC s=3 by omega];rfl
 rw [x7 (by omega),if_neg h,cond_false,zAd hl,zbs]
 by_cases h1:tL s 0 names ≠ -1
 ·rw [yN (by omega),if_pos h1,cond_true]
 rw [yP (by omega),if_neg h1,cond_false]
 by_cases h2:1000<=names.length
 ·rw [yN (by omega),if_pos h2,cond_true]
 rw [yP (by omega),if_neg h2,cond_false];rw [xQ (by simp only [List.length_nil];omega),zbs,List.nil_append,xQ (by simp only [zls];omega),zbs]
theorem LH (names:List (List Int)) (s:List Int):(tF names s).2.1.length<=names.length+1:=by
 unfold tF;split
 ·simp
 ·split
  ·simp
  ·split<;>simp
def jI (names0:List (List Int)) (stacks0:List zV):List (List Int)->Int->List (List Int)->List zV->Int×List (List Int)×List zV×Int
 | [],at_,n,s=>(at_,n,s,0)
 | x::r,at_,n,s =>
  if (tF n x).2.2≠0 then (0,names0,stacks0,(tF n x).2.2) else
  if tL (⟨at_,(tF n x).1⟩:zV) 0 s ≠ -1 then jI names0 stacks0 r (tL (⟨at_,(tF n x).1⟩:zV) 0 s) (tF n x).2.1 s else
  if 1000<=s.length then (0,names0,stacks0,6) else jI names0 stacks0 r (s.length:Int) (tF n x).2.1 (s++[⟨at_,(tF n x).1⟩])
def jS (names:List (List Int)) (stacks:List zV) (l:List (List Int)):Int×List (List Int)×List zV×Int :=
 if pM l≠0 then (0,names,stacks,pM l) else jI names stacks l (-1) names stacks
def zA1 (o:(Int×List (List Int)×List zV)⊕(Int×List (List Int)×List zV×Int)):Int×List (List Int)×List zV×Int:=match o with | .inl q=>(q.1,q.2.1,q.2.2,0) | .inr q=>q
theorem zDL {names0:List (List Int)} {stacks0:List zV} {l:List (List Int)} (hl:l.length<=40):∀ (m i:Nat) (at_:Int) (n:List (List Int)) (s:List zV),(l.drop i).length<m->n.length+(l.drop i).length<=100000->s.length+(l.drop i).length<=100000 ->
  ∃ o,CA 281474976710656 names0 stacks0 l m at_ n (i:Int) s=some o/\zA1 o=jI names0 stacks0 (l.drop i) at_ n s:=by
 intro m
 induction m with
 | zero=>intro i at_ n s h;omega
 | succ m ih =>
  intro i at_ n s hm hn hs;show ∃ o,E5 281474976710656 names0 stacks0 l _ at_ n (i:Int) s=some o/\_;unfold E5;rcases hd:l.drop i with _ | ⟨x,r⟩
  ·have:=qC hd
   rw [yP (by omega),cond_false];exact ⟨_,rfl,rfl⟩
  ·have hlt:=tZ hd;rw [hd] at hm hn hs;simp only [zlc] at hm hn hs;have hstep:=w6 hd;rw [yN (by omega),cond_true,vE hd,zbs,WA (by omega),zbs];have hpl:=LH n x;simp only [jI];generalize tF n x=q at *
   by_cases h:q.2.2≠0
   ·rw [xX h,cond_true,if_pos h];exact ⟨_,rfl,rfl⟩
   rw [x7 (by omega),cond_false,if_neg h,zHC (by omega),zbs];have hr:=CX (⟨at_,q.1⟩:zV) s
   by_cases h1:tL (⟨at_,q.1⟩:zV) 0 s ≠ -1
   ·rw [yN (by omega),cond_true,if_pos h1,wX (by omega),<- hstep];exact ih (i+1) _ _ _ (by rw [hstep];omega) (by rw [hstep];omega) (by rw [hstep];omega)
   rw [yP (by omega),cond_false,if_neg h1]
   by_cases h2:1000<=s.length
   ·rw [yN (by omega),cond_true,if_pos h2];exact ⟨_,rfl,rfl⟩
   rw [yP (by omega),cond_false,if_neg h2,xQ (by simp only [zls];omega),zbs,wX (by omega),<- hstep];exact ih (i+1) _ _ _ (by rw [hstep];omega) (by rw [hstep];omega) (by rw [hstep];simp only [zla,zls];omega)
theorem zBp {names:List (List Int)} {stacks:List zV} {l:List (List Int)} (hn:names.length<=50000) (hs:stacks.length<=50000):CF 281474976710656 names stacks l=some (jS names stacks l):=by
 unfold CF jS;rw [X2,zbs]
 by_cases h:pM l≠0
 ·rw [xX h,cond_true,if_pos h]
 have hl:l.length<=32:=by
  unfold pM at h
  by_cases hc:32<l.length
  ·rw [if_pos hc] at h;omega
  ·omega
 rw [x7 (by omega),cond_false,if_neg h];unfold OO;rw [xQ (by simp only [List.length_nil];omega),zbs,zbs,List.nil_append];obtain ⟨o,h1,h2⟩:=zDL (names0:=names) (stacks0:=stacks) (l:=l) (by omega) 281474976710656 0 (-1) names stacks (by simp;omega) (by simp;omega) (by simp;omega);rw [show CA 281474976710656 names stacks l 281474976710656 (-1) names 0 stacks=some o from h1,zbs];rw [zdz] at h2;rw [<- h2];cases o<;>rfl
theorem zD0 {names0:List (List Int)} {stacks0:List zV} {l:List (List Int)} (hl:l.length<=40):∀ (m i:Nat) (at_:Int) (n:List (List Int)) (s:List zV),(l.drop i).length<m->n.length+(l.drop i).length<=100000->s.length+(l.drop i).length<=100000 ->
  ∃ o,BF 281474976710656 names0 stacks0 l m at_ n (i:Int) s=some o/\zA1 o=jI names0 stacks0 (l.drop i) at_ n s:=by
 intro m
 induction m with
 | zero=>intro i at_ n s h;omega
 | succ m ih =>
  intro i at_ n s hm hn hs;show ∃ o,HB 281474976710656 names0 stacks0 l _ at_ n (i:Int) s=some o/\_;unfold HB;rcases hd:l.drop i with _ | ⟨x,r⟩
  ·have:=qC hd
   rw [yP (by omega),cond_false];exact ⟨_,rfl,rfl⟩
  ·have hlt:=tZ hd;rw [hd] at hm hn hs;simp only [zlc] at hm hn hs;have hstep:=w6 hd;rw [yN (by omega),cond_true,vE hd,zbs,W3 (by omega),zbs];have hpl:=LH n x;simp only [jI];generalize tF n x=q at *
   by_cases h:q.2.2≠0
   ·rw [xX h,cond_true,if_pos h];exact ⟨_,rfl,rfl⟩
   rw [x7 (by omega),cond_false,if_neg h,V4 (by omega),zbs];have hr:=CX (⟨at_,q.1⟩:zV) s
   by_cases h1:tL (⟨at_,q.1⟩:zV) 0 s ≠ -1
   ·rw [yN (by omega),cond_true,if_pos h1,zbs];simp only;rw [wX (by omega),<- hstep];exact ih (i+1) _ _ _ (by rw [hstep];omega) (by rw [hstep];omega) (by rw [hstep];omega)
   rw [yP (by omega),cond_false,if_neg h1]
   by_cases h2:1000<=s.length
   ·rw [yN (by omega),cond_true,if_pos h2];exact ⟨_,rfl,rfl⟩
   rw [yP (by omega),cond_false,if_neg h2,xQ (by simp only [zls];omega),zbs,zbs];simp only;rw [wX (by omega),<- hstep];exact ih (i+1) _ _ _ (by rw [hstep];omega) (by rw [hstep];omega) (by rw [hstep];simp only [zla,zls];omega)
theorem zEX {names:List (List Int)} {stacks:List zV} {l:List (List Int)} (hn:names.length<=50000) (hs:stacks.length<=50000):A9 281474976710656 names stacks l=some (jS names stacks l):=by
 unfold A9 jS;rw [zAE,zbs]
 by_cases h:pM l≠0
 ·rw [xX h,cond_true,if_pos h]
 have hl:l.length<=32:=by
  unfold pM at h
  by_cases hc:32<l.length
  ·rw [if_pos hc] at h;omega
  ·omega
 rw [x7 (by omega),cond_false,if_neg h];rw [xQ (by simp only [List.length_nil];omega),zbs,List.nil_append];obtain ⟨o,h1,h2⟩:=zD0 (names0:=names) (stacks0:=stacks) (l:=l) (by omega) 281474976710656 0 (-1) names stacks (by simp;omega) (by simp;omega) (by simp;omega);rw [show BF 281474976710656 names stacks l 281474976710656 (-1) names 0 stacks=some o from h1,zbs];rw [zdz] at h2;rw [<- h2];cases o<;>rfl
def toO (v:Int):Unit⊕Int:=if v=0 then .inl () else .inr v
theorem zFB:toO 0=.inl ():=rfl
theorem EX {v:Int} (h:v≠0):toO v=.inr v:=if_neg h
def kE (seen:List (List Int)):List (List Int)->Int
 | []=>0
 | x::r=>if tC x≠0 then 3 else if x∈seen then 4 else kE (seen++[x]) r
theorem zE3 {l:List (List Int)} (hl:l.length<=1000):AD 281474976710656 l 281474976710656 0 []=some (toO (kE [] l)):=by
 have:=ER (l:=l) (fun n i s=>AD 281474976710656 l n i s) (fun i r _=>toO (kE (l.take i) r)) (fun i s=>BZ s (l.take i)) ?_ ?_ (n:=281474976710656) (s:=[]) RR (by omega)
 ·simpa using this
 ·intro n i s hi _;show oL _ _ _ _ _=_;unfold oL;simp (disch:=omega) only [yP,cond_false];rfl
 ·intro n i s x r hd hlt hS ih;show oL _ _ _ _ _=_;unfold oL;have hs:=hS.1;rw [S5 hd] at hs;simp only [kE];simp (disch:=omega) only [yN,cond_true,vE hd,zbs,JC,hS.2,xQ,wX];rw [ih _ (by rw [bO hd];exact O6 hS x)];rcases EF x with h | h
  ·by_cases h2:x∈l.take i<;>simp [h,h2,bO hd,toO]
  ·simp [h,toO]
theorem zF3 {l:List (List Int)} (hl:l.length<=1000):JK 281474976710656 l=some (kE [] l):=by
 unfold JK;rw [zE3 hl,zbs];unfold toO
 by_cases h:kE [] l=0
 ·rw [if_pos h,h]
 ·rw [if_neg h]
theorem XY {α:Type} [DecidableEq α] (s:α) (l:List α):decide (tL s 0 l>=0)=decide (s∈l):=by
 rcases rZ s l 0 with ⟨h,h2⟩ | ⟨j,h1,h⟩
 ·rw [h];simp [h2]
 ·rw [h,yN (by omega),yN (List.mem_of_getElem? h1)]
theorem zCT {l:List (List Int)} (hl:l.length<=1000):CQ 281474976710656 l 281474976710656 0=some (toO (kE [] l)):=by
 have:=ER (l:=l) (fun n i (_:Unit)=>CQ 281474976710656 l n i) (fun i r _=>toO (kE (l.take i) r)) (fun i s=>True) ?_ ?_ (n:=281474976710656) (s:=()) trivial (by omega)
 ·simpa using this
 ·intro n i s hi _;show mA _ _ _ _=_;unfold mA;simp (disch:=omega) only [yP,cond_false];rfl
 ·intro n i s x r hd hlt hS ih;show mA _ _ _ _=_;unfold mA;have ht:=List.length_take_le i l;simp only [kE];simp (disch:=omega) only [yN,cond_true,vE hd,zbs,GH,xQ,wX,SV,zAd,XY,ih () trivial];rcases EF x with h | h
  ·by_cases h2:x∈l.take i<;>simp [h,h2,bO hd,toO]
  ·simp [h,toO]
def dOf (ds:List Int) (i:Int):Int:=if i = -1 then 0 else (ds[i.toNat]?).getD 0
def DI (st:List zV) (ds:List Int):Prop:=∀ (j:Nat) (d:Int),ds[j]?=some d->∃ p,st[j]?=some p /\ -1<=p.c0/\p.c0<j/\d=1+dOf ds p.c0/\1<=d/\d<=32
theorem zAO {ds:List Int} {d c:Int} (h:c<ds.length) (h0 : -1<=c):dOf (ds++[d]) c=dOf ds c:=by
 unfold dOf
 split
 ·rfl
 ·rw [List.getElem?_append_left (by omega)]
theorem DI.range {st:List zV} {ds:List Int} (h:DI st ds) (c:Int):0<=dOf ds c/\dOf ds c<=32:=by
 unfold dOf
 split
 ·omega
 ·cases hd:ds[c.toNat]? with
  | none=>simp
  | some d=>obtain ⟨p,_,_,_,_,h1,h2⟩:=h _ _ hd;simp;omega
theorem DI.push {st:List zV} {ds:List Int} {p:zV} (h:DI st ds) (hp:st[ds.length]?=some p) (h0 : -1<=p.c0) (h1:p.c0<ds.length) (h2:1+dOf ds p.c0<=32):DI st (ds++[1+dOf ds p.c0]):=by
 intro j d hj;rcases zlg j ds.length with hlt | hge
 ·rw [List.getElem?_append_left hlt] at hj;obtain ⟨q,h3,h4,h5,h6,h7⟩:=h j d hj;exact ⟨q,h3,h4,h5,by rw [zAO (by omega) h4];exact h6,h7⟩
 ·have hj':j=ds.length:=by
   have:=(List.getElem?_eq_some_iff.1 hj).1
   simp at this;omega
  subst hj';simp at hj;subst hj
  have:=h.range p.c0
  exact ⟨p,hp,h0,by omega,by rw [zAO h1 h0],by omega,h2⟩
theorem DI.nil {st:List zV}:DI st []:=fun j d h=>by simp at h
theorem zC9 {st:List zV} {ds:List Int} (h:DI st ds):∀ (n:Nat) (i acc:Int), -1<=i->i<ds.length->i+1<n->0<=acc->acc+i<=5000->DB 281474976710656 st n i acc=some (acc+dOf ds i):=by
 intro n
 induction n with
 | zero=>intro i acc h0 h1 h2;omega
 | succ n ih =>
  intro i acc h0 h1 h2 h3 h4;show mD _ _ _ _ _=_;unfold mD
  by_cases hi:i = -1
  ·rw [yP (by omega),cond_false,hi];simp [dOf]
  ·obtain ⟨m,rfl⟩:=Int.eq_ofNat_of_zero_le (show 0<=i by omega);obtain ⟨d,hd⟩:∃ d,ds[m]?=some d:=⟨ds[m]'(by omega),List.getElem?_eq_getElem _⟩;obtain ⟨p,hp,k0,k1,k2,k3,k4⟩:=h m d hd;have key:dOf ds (m:Int)=d:=by simp [dOf,hd]
   rw [yN (by omega),cond_true,nG,hp,zbs,w64 (by omega) (by omega),key,ih p.c0 (acc+1) k0 (by omega) (by omega) (by omega) (by omega)]
   congr 1;omega
def kK (nn:Nat) (ds:List Int) (seen:List zV):List zV->Int
 | []=>0
 | p::r=>if p.c0 < -1\/p.c0>=seen.length\/p.c1<0\/p.c1>=nn then 2 else if p∈seen then 4 else if 1+dOf ds p.c0>32 then 7 else kK nn (ds++[1+dOf ds p.c0]) (seen++[p]) r
theorem zEZ {names:List (List Int)} {l:List zV} (hl:l.length<=1000):∀ (n i:Nat) (ds:List Int),DI l ds->ds.length=i->i<=l.length->(l.drop i).length<n->B4 281474976710656 names l n (i:Nat)=some (toO (kK names.length ds (l.take i) (l.drop i))):=by
 intro n
 induction n with
 | zero=>intro i ds _ _ _ h;omega
 | succ n ih =>
  intro i ds hD hdl hil hn;show GR _ _ _ _ _=_;unfold GR;rcases hd:l.drop i with _ | ⟨p,r⟩
  ·have:=qC hd
   simp (disch:=omega) only [yP,cond_false];rfl
  have hlt:=tZ hd;have ht:=S5 hd;rw [hd] at hn;simp only [zlc] at hn;simp only [kK,ht];simp (disch:=omega) only [yN,cond_true,vE hd,zbs,xQ,SV,V4,XY]
  by_cases c1:p.c0 < -1\/p.c0>=i\/p.c1<0\/p.c1>=names.length
  ·rw [if_pos c1,EX (by decide)]
   have:(decide (p.c0<(-1:Int))||(decide (p.c0>=(i:Int))||(decide (p.c1<(0:Int))||decide (p.c1>=((names.length:Nat):Int)))))=true:=by simpa using c1
   rw [this];rfl
  ·rw [if_neg c1];simp (disch:=omega) only [yP,Bool.or_false,cond_false]
   by_cases c2:p∈l.take i
   ·rw [if_pos c2,yN c2];rfl
   ·rw [if_neg c2,yP c2,cond_false];unfold MG;have hr:=hD.range p.c0;have hdep:DB 281474976710656 l 281474976710656 (i:Int) 0=some (1+dOf ds p.c0):=by
     show mD _ _ _ _ _=_;unfold mD;simp (disch:=omega) only [yN,cond_true,vE hd,zbs,w64];rw [zC9 hD _ _ _ (by omega) (by omega) (by omega) (by omega) (by omega)];rfl
    rw [hdep,zbs,zbs]
    by_cases c3:1+dOf ds p.c0>32
    ·rw [if_pos c3,yN c3];rfl
    ·rw [if_neg c3,yP c3,cond_false,wX (by omega),ih (i+1) (ds++[1+dOf ds p.c0]) (hD.push (by rw [hdl];exact GF hd) (by omega) (by omega) (by omega)) (by simp [hdl]) (by omega) (by rw [w6 hd];omega),bO hd,w6 hd]
theorem N6 {names:List (List Int)} {l:List zV}:aQ 281474976710656 names l=some (if 1000<names.length\/1000<l.length then 7 else if kE [] names≠0 then kE [] names else kK names.length [] [] l):=by
 unfold aQ
 by_cases h:1000<names.length\/1000<l.length
 ·rw [if_pos h]
  have:(decide ((((names).length:Nat):Int)>(1000:Int))||decide ((((l).length:Nat):Int)>(1000:Int)))=true:=by simp;omega
  rw [this];rfl
 rw [if_neg h];simp (disch:=omega) only [yP,Bool.or_false,cond_false];rw [zCT (by omega),zbs]
 by_cases h1:kE [] names≠0
 ·rw [EX h1,if_pos h1]
 have h1':kE [] names=0:=by omega
 have:=zEZ (names:=names) (l:=l) (by omega) 281474976710656 0 [] DI.nil rfl (by omega) (by simp;omega)
 rw [h1',zFB,if_neg (by omega)];simp only;rw [show B4 281474976710656 names l 281474976710656 0=_ from this];simp only [List.take_zero,zdz,zbs];generalize kK names.length [] [] l=v;unfold toO
 by_cases hv:v=0
 ·rw [if_pos hv,hv]
 ·rw [if_neg hv]
theorem zEP {α:Type} {l:List α} {i:Nat} (v:α) (h:i<l.length):(l.set i v).take (i+1)=l.take i++[v]:=by
 rw [List.take_add_one,List.take_set_of_le (Nat.le_refl _),List.getElem?_set_self h];rfl
theorem zCe {names:List (List Int)} {l:List zV} (hl:l.length<=1000):∀ (n i:Nat) (s:List (zV×Bool)) (t:List Int),BZ s (l.take i)->t.length=l.length->DI l (t.take i)->i<=l.length->(l.drop i).length<n->CM 281474976710656 names l n (i:Nat) s t=some (toO (kK names.length (t.take i) (l.take i) (l.drop i))):=by
 intro n
 induction n with
 | zero=>intro i s t _ _ _ _ h;omega
 | succ n ih =>
  intro i s t hS htl hD hil hn;show J0 _ _ _ _ _ _ _=_;unfold J0;rcases hd:l.drop i with _ | ⟨p,r⟩
  ·have:=qC hd
   simp (disch:=omega) only [yP,cond_false];rfl
  have hlt:=tZ hd;have ht:=S5 hd;have hs:=hS.1;rw [ht] at hs;rw [hd] at hn;simp only [zlc] at hn;simp only [kK,ht];obtain ⟨y,hy⟩:∃ y,t[i]?=some y:=⟨t[i]'(by omega),List.getElem?_eq_getElem _⟩;simp (disch:=omega) only [yN,cond_true,vE hd,zbs,hS.2,xQ,nG,hy]
  by_cases c1:p.c0 < -1\/p.c0>=i\/p.c1<0\/p.c1>=names.length
  ·rw [if_pos c1,EX (by decide)]
   have:(decide (p.c0<(-1:Int))||(decide (p.c0>=(i:Int))||(decide (p.c1<(0:Int))||decide (p.c1>=((names.length:Nat):Int)))))=true:=by simpa using c1
   rw [this];rfl
  ·rw [if_neg c1];simp (disch:=omega) only [yP,Bool.or_false,cond_false]
   by_cases c2:p∈l.take i
   ·rw [if_pos c2,yN c2];rfl
   ·rw [if_neg c2,yP c2,cond_false];have hr:=hD.range p.c0;have htt:(t.take i).length=i:=by rw [List.length_take];omega
    have hstep:((bif (p.c0 != (-1:Int)) then ((t.set ((i:Int)).toNat (1:Int))[i]?).bind fun x_3=>(yX (t.set ((i:Int)).toNat (1:Int)) p.c0).bind fun x_4=>((t.set ((i:Int)).toNat (1:Int))[i]?).bind fun x_5 =>
      some ((t.set ((i:Int)).toNat (1:Int)).set ((i:Int)).toNat (zI (x_3+x_4))) else some (t.set ((i:Int)).toNat (1:Int))):Option (List Int))=some (t.set i (1+dOf (t.take i) p.c0)):=by
     rw [Int.toNat_natCast]
     by_cases hc:p.c0 = -1
     ·rw [x7 hc,cond_false];simp [dOf,hc]
     ·rw [xX hc,cond_true,List.getElem?_set_self (by omega),zbs];have e:yX (t.set i 1) p.c0=some (dOf (t.take i) p.c0):=by
       obtain ⟨m,hm⟩:=Int.eq_ofNat_of_zero_le (show 0<=p.c0 by omega);rw [hm,nG,List.getElem?_set_ne (by omega)]
       have:(t.take i)[m]?=t[m]?:=by rw [List.getElem?_take_of_lt (by omega)]
       have hml:m<t.length:=by omega
       simp only [dOf];rw [if_neg (by omega),Int.toNat_natCast,this,List.getElem?_eq_getElem hml];rfl
      rw [e,zbs,zbs,w64 (by omega) (by omega),List.set_set]
    rw [hstep,zbs,List.getElem?_set_self (by omega),zbs]
    by_cases c3:1+dOf (t.take i) p.c0>32
    ·rw [if_pos c3,yN c3];rfl
    ·rw [if_neg c3,yP c3,cond_false,wX (by omega)];have hts:=zEP (i:=i) (1+dOf (t.take i) p.c0) (show i<t.length by omega);rw [ih (i+1) _ _ (by rw [bO hd];exact O6 hS p) (by simp [htl]) (by rw [hts];exact hD.push (by rw [htt];exact GF hd) (by omega) (by omega) (by omega)) (by omega) (by rw [w6 hd];omega),bO hd,w6 hd,hts]
def kU (names:List (List Int)) (l:List zV):Int:=if 1000<names.length\/1000<l.length then 7 else if kE [] names≠0 then kE [] names else kK names.length [] [] l
theorem L5 {names:List (List Int)} {l:List zV}:fE 281474976710656 names l=some (kU names l):=by
 unfold fE kU
 by_cases h:1000<names.length\/1000<l.length
 ·rw [if_pos h]
  have:(decide ((((names).length:Nat):Int)>(1000:Int))||decide ((((l).length:Nat):Int)>(1000:Int)))=true:=by simp;omega
  rw [this];rfl
 rw [if_neg h];simp (disch:=omega) only [yP,Bool.or_false,cond_false];rw [zF3 (by omega),zbs]
 by_cases h1:kE [] names≠0
 ·rw [xX h1,if_pos h1];rfl
 have h1':kE [] names=0:=by omega
 have:=zCe (names:=names) (l:=l) (by omega) 281474976710656 0 [] (List.replicate l.length 0) RR (by simp) DI.nil (by omega) (by simp;omega)
 rw [h1',x7 rfl,cond_false,if_neg (by omega),xQ (by omega),zbs];rw [show CM 281474976710656 names l 281474976710656 0 [] (List.replicate l.length 0)=_ from this];simp only [List.take_zero,zdz,zbs];generalize kK names.length [] [] l=v;unfold toO
 by_cases hv:v=0
 ·rw [if_pos hv,hv]
 ·rw [if_neg hv]
def dsF (l:List zV):List Int:=l.foldl (fun ds p=>ds++[1+dOf ds p.c0]) []
theorem zDB:∀ (l:List zV) (ds:List Int),(l.foldl (fun ds p=>ds++[1+dOf ds p.c0]) ds).length=ds.length+l.length:=by
 intro l
 induction l with
 | nil=>intro ds;rfl
 | cons p r ih=>intro ds;rw [List.foldl_cons,ih];simp;omega
theorem CR (l:List zV):(dsF l).length=l.length:=by simp [dsF,zDB]
theorem zAW (l:List zV) (p:zV):dsF (l++[p])=dsF l++[1+dOf (dsF l) p.c0]:=by simp [dsF]
theorem LU:∀ (l seen:List (List Int)),kE seen l=0↔(∀ x∈l,tC x=0/\x∉seen)/\l.Nodup:=by
 intro l
 induction l with
 | nil=>intro seen;simp [kE]
 | cons x r ih =>
  intro seen;simp only [kE]
  by_cases h:tC x≠0
  ·rw [if_pos h];simp [h]
  rw [if_neg h]
  by_cases h2:x∈seen
  ·rw [if_pos h2];simp [h2]
  rw [if_neg h2,ih];simp only [List.mem_cons,List.nodup_cons,forall_eq_or_imp,List.mem_append,List.not_mem_nil,or_false,not_or]
  constructor
  ·rintro ⟨h3,h4⟩;exact ⟨⟨⟨by omega,h2⟩,fun y hy=>⟨(h3 y hy).1,(h3 y hy).2.1⟩⟩,fun hx=>(h3 x hx).2.2 rfl,h4⟩
  ·rintro ⟨⟨_,h3⟩,h4,h5⟩;exact ⟨fun y hy=>⟨(h3 y hy).1,(h3 y hy).2,fun e=>h4 (e ▸ hy)⟩,h5⟩
structure UI (nn k:Nat) (ds:List Int) (seen:List zV) (p:zV):Prop where
 lo : -1<=p.c0
 hi:p.c0<k
 lo1:0<=p.c1
 hi1:p.c1<nn
 new:p∉seen
 deep:1+dOf ds p.c0<=32
theorem SE {nn:Nat}:∀ (r:List zV) (ds:List Int) (seen:List zV) (p:zV),kK nn ds seen (r++[p])=0↔kK nn ds seen r=0/\UI nn (seen++r).length (r.foldl (fun ds p=>ds++[1+dOf ds p.c0]) ds) (seen++r) p:=by
 intro r
 induction r with
 | nil =>
  intro ds seen p;simp only [List.nil_append,kK,List.append_nil,List.foldl_nil,true_and]
  constructor
  ·intro h
   split at h
   ·cases h
   split at h
   ·cases h
   split at h
   ·cases h
   exact ⟨by omega,by omega,by omega,by omega,by assumption,by omega⟩
  ·rintro ⟨h1,h2,h3,h4,h5,h6⟩;rw [if_neg (by omega),if_neg h5,if_neg (by omega)]
 | cons q r ih =>
  intro ds seen p;simp only [List.cons_append,kK,List.foldl_cons]
  split
  ·simp
  split
  ·simp
  split
  ·simp
  rw [ih];simp
theorem zFg {nn mm:Nat} (h:nn<=mm):∀ (r:List zV) (ds:List Int) (seen:List zV),kK nn ds seen r=0->kK mm ds seen r=0:=by
 intro r
 induction r with
 | nil=>intro ds seen _;rfl
 | cons q r ih =>
  intro ds seen hz;simp only [kK] at hz ⊢
  split at hz
  ·cases hz
  rename_i h1
  rw [if_neg (by omega)]
  split at hz
  ·cases hz
  rename_i h2
  rw [if_neg h2]
  split at hz
  ·cases hz
  rename_i h3
  rw [if_neg h3];exact ih _ _ hz
structure u0 (n:List (List Int)) (s:List zV):Prop where
 n1:n.length<=1000
 s1:s.length<=1000
 names:kE [] n=0
 st:kK n.length [] [] s=0
theorem UH {n:List (List Int)} {s:List zV}:kU n s=0↔u0 n s:=by
 unfold kU
 constructor
 ·intro h
  split at h
  ·cases h
  split at h
  ·omega
  exact ⟨by omega,by omega,by omega,h⟩
 ·rintro ⟨h1,h2,h3,h4⟩;rw [if_neg (by omega),if_neg (by omega),h4]
theorem u0.nodup {n:List (List Int)} {s:List zV} (h:u0 n s):n.Nodup:=((LU _ _).1 h.names).2
theorem u0.valid {n:List (List Int)} {s:List zV} (h:u0 n s) {x:List Int} (hx:x∈n):tC x=0:=(((LU _ _).1 h.names).1 x hx).1
theorem u0.name {n:List (List Int)} {s:List zV} (h:u0 n s) {x:List Int} (hx:tC x=0) (hn:x∉n) (hl:n.length<1000):u0 (n++[x]) s:=by
 refine ⟨by simp;omega,h.s1,?_,zFg (by simp) _ _ _ h.st⟩;rw [LU];have h2:=(LU _ _).1 h.names;refine ⟨fun y hy=>⟨?_,by simp⟩,?_⟩
 ·rcases List.mem_append.1 hy with hy | hy
  ·exact h.valid hy
  ·simp at hy;rw [hy];exact hx
 ·rw [List.nodup_append];exact ⟨h.nodup,by simp,fun a ha b hb=>by simp at hb;rw [hb];exact fun e=>hn (e ▸ ha)⟩
theorem u0.push {n:List (List Int)} {s:List zV} {p:zV} (h:u0 n s) (hp:UI n.length s.length (dsF s) s p) (hl:s.length<1000):u0 n (s++[p]) :=
 ⟨h.n1,by simp;omega,h.names,by rw [SE];exact ⟨h.st,by rw [List.nil_append];exact hp⟩⟩
theorem zEI {nn:Nat} (s:List zV) (h:kK nn [] [] s=0):∀ (i:Nat),i<s.length->∃ p,s[i]?=some p/\UI nn i (dsF (s.take i)) (s.take i) p:=by
 intro i hi;have e:s=s.take i++(s[i]::s.drop (i+1)):=by simp
 have:∀ (m:Nat) (r:List zV),r.length=m->kK nn [] [] (s.take i++s[i]::r)=0->kK nn [] [] (s.take i++[s[i]])=0:=by
  intro m
  induction m with
  | zero=>intro r hr h;rw [List.length_eq_zero_iff.1 hr] at h;exact h
  | succ m ih =>
   intro r hr h;rcases List.eq_nil_or_concat r with h0 | ⟨r',y,h0⟩
   ·rw [h0] at hr;simp at hr
   ·rw [h0] at h hr;simp at hr;rw [show s.take i++s[i]::r'.concat y=(s.take i++s[i]::r')++[y] by simp] at h;exact ih r' hr ((SE _ _ _ _).1 h).1
 have h2:=(SE _ _ _ _).1 (this _ _ rfl (by rw [<- e];exact h));refine ⟨s[i],List.getElem?_eq_getElem hi,?_⟩;have h3:=h2.2;simp only [List.nil_append,List.length_take,Nat.min_eq_left (Nat.le_of_lt hi)] at h3;exact h3
theorem UV (s:List zV) (i:Nat):dsF (s.take i)=(dsF s).take i:=by
 induction i with
 | zero=>rfl
 | succ i ih =>
  rcases hd:s.drop i with _ | ⟨x,r⟩
  ·have:=qC hd
   rw [List.take_of_length_le (by omega),List.take_of_length_le (by rw [CR];omega)]
  ·have e:s=s.take i++([x]++r):=by rw [List.singleton_append,<- hd,List.take_append_drop]
   have hlt:=tZ hd;have e2:∃ t,dsF s=dsF (s.take i++[x])++t:=by
    have hg:∀ (r:List zV) (ds:List Int),∃ t,r.foldl (fun ds p=>ds++[1+dOf ds p.c0]) ds=ds++t:=by
     intro r
     induction r with
     | nil=>intro ds;exact ⟨[],by simp⟩
     | cons y r ih2=>intro ds;obtain ⟨t,ht⟩:=ih2 (ds++[1+dOf ds y.c0]);exact ⟨_,by rw [List.foldl_cons,ht,List.append_assoc]⟩
    have:dsF s=r.foldl (fun ds p=>ds++[1+dOf ds p.c0]) (dsF (s.take i++[x])):=by
     have h3:dsF (s.take i++[x]++r)=r.foldl (fun ds p=>ds++[1+dOf ds p.c0]) (dsF (s.take i++[x])):=by unfold dsF;rw [List.foldl_append]
     rwa [List.append_assoc,<- e] at h3
    rw [this];exact hg _ _
   obtain ⟨t,ht⟩:=e2;rw [bO hd,ht,List.take_append_of_le_length (by simp [CR];omega)];exact (List.take_of_length_le (by simp [CR];omega)).symm
theorem zAj {ds:List Int} {i:Nat} {c:Int} (h:c<i) (h0 : -1<=c):dOf (ds.take i) c=dOf ds c:=by
 unfold dOf
 split
 ·rfl
 ·rw [List.getElem?_take_of_lt (by omega)]
theorem u0.pair {n:List (List Int)} {s:List zV} (h:u0 n s) {i:Nat} {p:zV} (hp:s[i]?=some p) :
  -1<=p.c0/\p.c0<i/\0<=p.c1/\p.c1<n.length/\dOf (dsF s) (i:Int)=1+dOf (dsF s) p.c0/\dOf (dsF s) (i:Int)<=32/\p∉s.take i:=by
 have hi:i<s.length:=(List.getElem?_eq_some_iff.1 hp).1;obtain ⟨q,hq,h1,h2,h3,h4,h5,h6⟩:=zEI s h.st i hi;rw [hp] at hq;injection hq with hq;subst hq;rw [UV,zAj h2 h1] at h6;have e:dOf (dsF s) (i:Int)=1+dOf (dsF s) p.c0:=by
  have e1:dsF (s.take (i+1))=dsF (s.take i)++[1+dOf (dsF (s.take i)) p.c0]:=by
   rw [List.take_add_one,hp];exact zAW _ _
  have e2:(dsF s)[i]?=some (1+dOf (dsF s) p.c0):=by
   have:((dsF s).take (i+1))[i]?=(dsF s)[i]?:=List.getElem?_take_of_lt (by omega)
   rw [<- this,<- UV,e1,UV,zAj h2 h1];have hl:((dsF s).take i).length=i:=by rw [List.length_take,CR];omega
   rw [List.getElem?_append_right (by omega),hl];simp
  unfold dOf;rw [if_neg (by omega),Int.toNat_natCast,e2];rfl
 exact ⟨h1,h2,h3,h4,e,by omega,h5⟩
theorem u0.depth0 {n:List (List Int)} {s:List zV} (h:u0 n s) {c:Int} (h0 : -1<=c) (h1:c<s.length):0<=dOf (dsF s) c/\dOf (dsF s) c<=32/\(dOf (dsF s) c=0↔c = -1):=by
 have key:∀ (m:Nat) (c:Int),c+1<m -> -1<=c->c<s.length->0<=dOf (dsF s) c/\dOf (dsF s) c<=32/\(dOf (dsF s) c=0↔c = -1):=by
  intro m
  induction m with
  | zero=>intro c h1 h2;omega
  | succ m ih =>
   intro c h1 h2 h3
   by_cases hc:c = -1
   ·subst hc;simp [dOf]
   ·obtain ⟨i,rfl⟩:=Int.eq_ofNat_of_zero_le (show 0<=c by omega);have hi:i<s.length:=by omega
    obtain ⟨k1,k2,k3,k4,k5,k6,k7⟩:=h.pair (List.getElem?_eq_getElem hi)
    have:=ih (s[i]).c0 (by omega) k1 (by omega)
    omega
 exact key (c.toNat+3) c (by omega) h0 h1
def aD (n:List (List Int)) (s:List zV):Nat->Int->List (List Int)
 | 0,_=>[]
 | k+1,i=>if i<0 then [] else match s[i.toNat]? with
  | none=>[]
  | some p=>(n[p.c1.toNat]?).getD []::aD n s k p.c0
theorem zH2 (n:List (List Int)) (s:List zV):∀ (k:Nat) (i:Int),(aD n s k i).length<=k:=by
 intro k
 induction k with
 | zero=>intro i;exact Nat.le_refl _
 | succ k ih =>
  intro i;simp only [aD]
  split
  ·simp
  split
  ·simp
  ·rename_i p _
   have:=ih p.c0
   simp only [zlc];omega
theorem zGc {n:List (List Int)} {s:List zV} (h:u0 n s):∀ (k f:Nat) (i:Int) (row:List (List Int)), -1<=i->i<s.length->dOf (dsF s) i<=k->k<f->row.length+k<=1000 ->
  GU 281474976710656 n s f i row=some (row++aD n s k i):=by
 intro k
 induction k with
 | zero =>
  intro f i row h0 h1 h2 h3 h4;have hi:i = -1:=(h.depth0 h0 h1).2.2.1 (by have:=(h.depth0 h0 h1).1;omega);subst hi;obtain ⟨f,rfl⟩:∃ g,f=g+1:=⟨f - 1,by omega⟩;show lE _ _ _ _ _ _=_;unfold lE;rw [x7 rfl,cond_false];simp [aD]
 | succ k ih =>
  intro f i row h0 h1 h2 h3 h4;obtain ⟨f,rfl⟩:∃ g,f=g+1:=⟨f - 1,by omega⟩;show lE _ _ _ _ _ _=_;unfold lE
  by_cases hi:i = -1
  ·subst hi;rw [x7 rfl,cond_false];simp [aD]
  ·obtain ⟨m,rfl⟩:=Int.eq_ofNat_of_zero_le (show 0<=i by omega);have hm:s[m]?=some (s[m]'(by omega)):=List.getElem?_eq_getElem _;obtain ⟨k1,k2,k3,k4,k5,k6,k7⟩:=h.pair hm;simp only [aD];rw [xX hi,cond_true,nG,Int.toNat_natCast,if_neg (by omega)];generalize hp:s[m]'(by omega)=p at *;obtain ⟨a,ha⟩:=Int.eq_ofNat_of_zero_le k3;have hlt:a<n.length:=by omega
   rw [hm,zbs,ha,nG];simp only [ha,Int.toNat_natCast,List.getElem?_eq_getElem hlt,zbs,Option.getD_some];rw [xQ (by simp;omega),zbs,ih _ _ _ k1 (by omega) (by omega) (by omega) (by simp;omega)];simp
theorem zHE {n:List (List Int)} {s:List zV} (h:u0 n s):∀ (k f:Nat) (i:Int) (row:List (List Int)), -1<=i->i<s.length->dOf (dsF s) i<=k->k<f->row.length+k<=1000 ->
  G8 281474976710656 n s f i row=some ((aD n s k i).reverse++row):=by
 intro k
 induction k with
 | zero =>
  intro f i row h0 h1 h2 h3 h4;have hi:i = -1:=(h.depth0 h0 h1).2.2.1 (by have:=(h.depth0 h0 h1).1;omega);subst hi;obtain ⟨f,rfl⟩:∃ g,f=g+1:=⟨f - 1,by omega⟩;show lT _ _ _ _ _ _=_;unfold lT;rw [yP (by omega),cond_false];simp [aD]
 | succ k ih =>
  intro f i row h0 h1 h2 h3 h4;obtain ⟨f,rfl⟩:∃ g,f=g+1:=⟨f - 1,by omega⟩;show lT _ _ _ _ _ _=_;unfold lT
  by_cases hi:i = -1
  ·subst hi;rw [yP (by omega),cond_false];simp [aD]
  ·obtain ⟨m,rfl⟩:=Int.eq_ofNat_of_zero_le (show 0<=i by omega);have hm:s[m]?=some (s[m]'(by omega)):=List.getElem?_eq_getElem _;obtain ⟨k1,k2,k3,k4,k5,k6,k7⟩:=h.pair hm;simp only [aD];rw [yN (by omega),cond_true,nG,Int.toNat_natCast,if_neg (by omega)];generalize hp:s[m]'(by omega)=p at *;obtain ⟨a,ha⟩:=Int.eq_ofNat_of_zero_le k3;have hlt:a<n.length:=by omega
   rw [hm,zbs,ha,nG];simp only [ha,Int.toNat_natCast,List.getElem?_eq_getElem hlt,zbs,Option.getD_some];rw [xQ (by simp;omega),zbs,ih _ _ _ k1 (by omega) (by omega) (by omega) (by simp;omega)];simp
theorem zIO {l:List (List Int)} (hl:l.length<=100000):∀ (f i:Nat) (row:List (List Int)),row.length=l.length->2 * i<=l.length+1->l.length<f+i ->
  (∀ k,row[k]?=if k<i\/l.length<=k+i then l.reverse[k]? else l[k]?)->r6 281474976710656 f (i:Int) ((l.length:Int) - 1 - i) row=some l.reverse:=by
 intro f
 induction f with
 | zero=>intro i row hr h2 hf;omega
 | succ f ih =>
  intro i row hr h2 hf hk;show H7 _ _ _ _ _=_;unfold H7
  by_cases hi:(i:Int)<(l.length:Int) - 1 - i
  ·obtain ⟨j,hj⟩:=Int.eq_ofNat_of_zero_le (show 0<=(l.length:Int) - 1 - i by omega);have hjl:j<row.length:=by omega
   have hil:i<row.length:=by omega
   have hne:i≠j:=by omega
   rw [yN hi,cond_true,hj,nG,nG,List.getElem?_eq_getElem hjl,zbs,List.getElem?_eq_getElem hil,zbs,zbs,
    Int.toNat_natCast,Int.toNat_natCast,nG,List.getElem?_set_ne hne,List.getElem?_eq_getElem hjl,zbs,w64 (by omega) (by omega),w64 (by omega) (by omega)]
   have:=ih (i+1) ((row.set i row[j]).set j row[i]) (by simp [hr]) (by omega) (by omega) ?_
   ·rw [show ((i:Int)+1)=((i+1:Nat):Int) by omega,show (j:Int) - 1=(l.length:Int) - 1 - ((i+1:Nat):Int) by omega];exact this
   ·intro k;have ej:some row[j]=l.reverse[i]?:=by
     rw [<- List.getElem?_eq_getElem hjl,hk j,if_neg (by omega),List.getElem?_reverse (by omega)];congr 1;omega
    have ei:some row[i]=l.reverse[j]?:=by
     rw [<- List.getElem?_eq_getElem hil,hk i,if_neg (by omega),List.getElem?_reverse (by omega)];congr 1;omega
    by_cases h1:k=j
    ·subst h1;rw [List.getElem?_set_self (by simpa using hjl),if_pos (by omega),ei]
    rw [List.getElem?_set_ne (fun e=>h1 e.symm)]
    by_cases h3:k=i
    ·subst h3;rw [List.getElem?_set_self hil,if_pos (by omega),ej]
    rw [List.getElem?_set_ne (fun e=>h3 e.symm),hk k]
    by_cases h4:k<i\/l.length<=k+i
    ·rw [if_pos h4,if_pos (by omega)]
    ·rw [if_neg h4,if_neg (by omega)]
  ·rw [yP hi,cond_false]
   congr 1
   apply List.ext_getElem?;intro k;rw [hk k]
   by_cases h1:k<i\/l.length<=k+i
   ·rw [if_pos h1]
   ·rw [if_neg h1,List.getElem?_reverse (by omega)];congr 1;omega
theorem zFF {l:List (List Int)} (hl:l.length<=100000):HE 281474976710656 l=some l.reverse:=by
 unfold HE
 have:=zIO hl 281474976710656 0 l rfl (by omega) (by omega) (by
  intro k
  by_cases h:l.length<=k
  ·rw [if_pos (by omega),List.getElem?_eq_none h,List.getElem?_eq_none (by simpa using h)]
  ·rw [if_neg (by omega)])
 rw [w64 (by omega) (by omega),show (l.length:Int) - 1=(l.length:Int) - 1 - (0:Nat) by omega,show r6 281474976710656 281474976710656 0 ((l.length:Int) - 1 - (0:Nat)) l=_ from this,zbs]
def gG (n:List (List Int)) (s:List zV) (i:Int):List (List Int)×Int :=
 if kU n s≠0 then ([],1) else if i < -1\/i>=s.length then ([],2) else ((aD n s 32 i).reverse,0)
theorem zHX {n:List (List Int)} {s:List zV} {i:Int}:AT 281474976710656 n s i=some (gG n s i):=by
 unfold AT gG;rw [L5,zbs]
 by_cases h:kU n s≠0
 ·rw [xX h,cond_true,if_pos h]
 rw [x7 (by omega),cond_false,if_neg h]
 by_cases h2:i < -1\/i>=s.length
 ·rw [if_pos h2]
  have:(decide (i<(-1:Int))||decide (i>=(((s).length:Nat):Int)))=true:=by simpa using h2
  rw [this];rfl
 rw [if_neg h2];simp (disch:=omega) only [yP,Bool.or_false,cond_false];have hg:u0 n s:=UH.1 (by omega);have hlen:=zH2 n s 32 i;rw [zGc hg 32 _ _ _ (by omega) (by omega) ((hg.depth0 (by omega) (by omega)).2.1) (by omega) (by simp),zbs,List.nil_append,zFF (by omega),zbs,xQ (by simp),zbs]
theorem zGB {n:List (List Int)} {s:List zV} {i:Int}:JM 281474976710656 n s i=some (gG n s i):=by
 unfold JM gG;rw [show aQ 281474976710656 n s=some (kU n s) from N6,zbs]
 by_cases h:kU n s≠0
 ·rw [xX h,cond_true,if_pos h]
 rw [x7 (by omega),cond_false,if_neg h]
 by_cases h2:i < -1\/i>=s.length
 ·rw [if_pos h2]
  have:(decide (i<(-1:Int))||decide (i>=(((s).length:Nat):Int)))=true:=by simpa using h2
  rw [this];rfl
 rw [if_neg h2];simp (disch:=omega) only [yP,Bool.or_false,cond_false];have hg:u0 n s:=UH.1 (by omega);rw [zHE hg 32 _ _ _ (by omega) (by omega) ((hg.depth0 (by omega) (by omega)).2.1) (by omega) (by simp),zbs,List.append_nil]
theorem gA {α:Type} {l m:List α} (h:l <+: m) {i:Nat} {x:α} (hx:l[i]?=some x):m[i]?=some x:=by
 obtain ⟨t,rfl⟩:=h;rw [List.getElem?_append_left (List.getElem?_eq_some_iff.1 hx).1];exact hx
theorem zAl {n:List (List Int)} {s:List zV} {x:List Int} (h:u0 n s) (hx:tC x=0) :
  ((tF n x).2.2=6/\x∉n/\n.length=1000)\/((tF n x).2.2=0/\(∃ a:Nat,(tF n x).1=a/\(tF n x).2.1[a]?=some x)/\u0 (tF n x).2.1 s/\n <+: (tF n x).2.1/\(x∈n->(tF n x).2.1=n)):=by
 unfold tF;have hn1:=h.n1;rw [if_neg (by omega)];rcases rZ x n 0 with ⟨h1,h2⟩ | ⟨j,h1,h2⟩
 ·rw [if_neg (by omega)]
  by_cases h3:1000<=n.length
  ·rw [if_pos h3];exact .inl ⟨rfl,h2,by omega⟩
  ·rw [if_neg h3];exact .inr ⟨rfl,⟨n.length,rfl,by simp⟩,h.name hx h2 (by omega),List.prefix_append _ _,fun hm=>absurd hm h2⟩
 ·rw [if_pos (by omega)];exact .inr ⟨rfl,⟨j,by rw [h2];simp,h1⟩,h,List.prefix_refl _,fun _=>rfl⟩
def Has (n:List (List Int)) (s:List zV):Int->List (List Int)->Int->Prop
 | at_,[],i=>i=at_
 | at_,x::r,i=>∃ a b:Nat,n[a]?=some x/\s[b]?=some ⟨at_,(a:Int)⟩/\Has n s (b:Int) r i
theorem Has.mono {n n':List (List Int)} {s s':List zV} (hn:n <+: n') (hs:s <+: s'):∀ {l:List (List Int)} {at_ i:Int},Has n s at_ l i->Has n' s' at_ l i:=by
 intro l
 induction l with
 | nil=>intro at_ i h;exact h
 | cons x r ih =>
  rintro at_ i ⟨a,b,h1,h2,h3⟩;exact ⟨a,b,gA hn h1,gA hs h2,ih h3⟩
theorem zG2 {s:List zV} {p:zV}:dOf (dsF (s++[p])) (s.length:Int)=1+dOf (dsF s) p.c0:=by
 rw [zAW];unfold dOf;rw [if_neg (by omega),Int.toNat_natCast,List.getElem?_append_right (by rw [CR];exact Nat.le_refl _),CR];simp
theorem zE7 {n0:List (List Int)} {s0:List zV}:∀ (l:List (List Int)) (at_:Int) (n:List (List Int)) (s:List zV),u0 n s->(∀ x∈l,tC x=0) -> -1<=at_->at_<s.length->dOf (dsF s) at_+l.length<=32 ->
  ((jI n0 s0 l at_ n s).2.2.2≠0/\jI n0 s0 l at_ n s=(0,n0,s0,(jI n0 s0 l at_ n s).2.2.2)) \/
  ((jI n0 s0 l at_ n s).2.2.2=0/\u0 (jI n0 s0 l at_ n s).2.1 (jI n0 s0 l at_ n s).2.2.1/\n <+: (jI n0 s0 l at_ n s).2.1/\s <+: (jI n0 s0 l at_ n s).2.2.1 /\
   Has (jI n0 s0 l at_ n s).2.1 (jI n0 s0 l at_ n s).2.2.1 at_ l (jI n0 s0 l at_ n s).1 /\ -1<=(jI n0 s0 l at_ n s).1/\(jI n0 s0 l at_ n s).1<(jI n0 s0 l at_ n s).2.2.1.length):=by
 intro l
 induction l with
 | nil=>intro at_ n s h hv h0 h1 h2;exact .inr ⟨rfl,h,List.prefix_refl _,List.prefix_refl _,rfl,h0,h1⟩
 | cons x r ih =>
  intro at_ n s h hv h0 h1 h2;simp only [zlc] at h2;have hd0:=h.depth0 h0 h1;simp only [jI];rcases zAl h (hv x (by simp)) with ⟨k1,_,_⟩ | ⟨k1,⟨a,k2,k3⟩,k4,k5,_⟩
  ·rw [k1,if_pos (by decide)];exact .inl ⟨(by decide:(6:Int)≠0),rfl⟩
  rw [k1,if_neg (by decide),k2];have hal:(a:Int)<(tF n x).2.1.length:=by have:=(List.getElem?_eq_some_iff.1 k3).1;omega
  rcases rZ (⟨at_,(a:Int)⟩:zV) s 0 with ⟨g1,g2⟩ | ⟨j,g1,g2⟩
  ·rw [g1,if_neg (by decide)]
   by_cases hf:1000<=s.length
   ·rw [if_pos hf];exact .inl ⟨(by decide:(6:Int)≠0),rfl⟩
   rw [if_neg hf];have hg2:u0 (tF n x).2.1 (s++[⟨at_,(a:Int)⟩]):=k4.push ⟨h0,h1,Int.natCast_nonneg _,hal,g2,by simp only;omega⟩ (by omega);have hl:=zG2 (s:=s) (p:=⟨at_,(a:Int)⟩);rcases ih (s.length:Int) _ _ hg2 (fun y hy=>hv y (by simp [hy])) (by omega) (by simp;omega) (by rw [hl];simp only;omega) with h3 | ⟨h3,h4,h5,h6,h7,h8⟩
   ·exact .inl h3
   ·exact .inr ⟨h3,h4,k5.trans h5,(List.prefix_append _ _).trans h6,⟨a,s.length,gA h5 k3,gA h6 (by simp),h7⟩,h8⟩
  ·rw [g2,Nat.zero_add,if_pos (by omega)];have hp:=h.pair g1;have hjl:=(List.getElem?_eq_some_iff.1 g1).1;simp only at hp;rcases ih (j:Int) _ _ k4 (fun y hy=>hv y (by simp [hy])) (by omega) (by omega) (by omega) with h3 | ⟨h3,h4,h5,h6,h7,h8⟩
   ·exact .inl h3
   ·exact .inr ⟨h3,h4,k5.trans h5,h6,⟨a,j,gA h5 k3,gA h6 g1,h7⟩,h8⟩
theorem zD5 (n:List (List Int)) (s:List zV) (k:Nat):aD n s k (-1)=[]:=by
 cases k<;>simp [aD]
theorem WW {l:List (List Int)}:pM l=0↔l.length<=32/\∀ x∈l,tC x=0:=by
 unfold pM
 by_cases h:32<l.length
 ·rw [if_pos h];constructor
  ·intro h;cases h
  ·omega
 rw [if_neg h]
 by_cases h2:l.all (fun s=>decide (tC s=0))=true
 ·rw [if_pos h2];simp at h2;exact ⟨fun _=>⟨by omega,h2⟩,fun _=>rfl⟩
 ·rw [if_neg h2];simp only [List.all_eq_true,decide_eq_true_eq] at h2
  constructor
  ·intro h;cases h
  ·intro h3;exact absurd h3.2 h2
theorem zES {n:List (List Int)} {s:List zV} {l:List (List Int)} (h:u0 n s) :
  ((jS n s l).2.2.2≠0/\jS n s l=(0,n,s,(jS n s l).2.2.2)) \/
  ((jS n s l).2.2.2=0/\l.length<=32/\(∀ x∈l,tC x=0)/\u0 (jS n s l).2.1 (jS n s l).2.2.1/\n <+: (jS n s l).2.1/\s <+: (jS n s l).2.2.1 /\
   Has (jS n s l).2.1 (jS n s l).2.2.1 (-1) l (jS n s l).1 /\ -1<=(jS n s l).1/\(jS n s l).1<(jS n s l).2.2.1.length):=by
 unfold jS
 by_cases hf:pM l≠0
 ·rw [if_pos hf];exact .inl ⟨hf,rfl⟩
 rw [if_neg hf];obtain ⟨hl,hv⟩:=WW.1 (show pM l=0 by omega);rcases zE7 (n0:=n) (s0:=s) l (-1) n s h hv (by omega) (by omega) (by simp [dOf];omega) with h1 | ⟨h1,h2⟩
 ·exact .inl h1
 ·exact .inr ⟨h1,hl,hv,h2⟩
end Go.Ab
