/- Plain laws of the functions qE this seat's, laid anew from another seat's text. No conditions but those that the theorems name. -/
import Derived.Test.YtbifmbdcejggkaaP16xD
import Derived.Test.YtbifmbdcejggkaaA35
namespace Go.Ab
open Go
set_option linter.unusedVariables false
def qM:List Int:=[95,46,58,47,60,62,36,42,126,45]
def pR (c:Int):Bool:=decide (97≤c∧c≤122)||decide (65≤c∧c≤90)||decide (48≤c∧c≤57)||qM.contains c
def kR (s:List Int):Int:=if s=[]∨40<s.length then 3 else if s.all pR then 0 else 3
theorem zEB {α R:Type} {l:List α} (L:Nat→Int→Option (Unit⊕R)) (f:Nat→α→Option R)
  (h0:∀ n i,l.length≤i→L (n+1) (i:Nat)=some (.inl ()))
  (h1:∀ n i x r,l.drop i=x::r→i<l.length→(∀ b,f i x=some b→L (n+1) (i:Nat)=some (.inr b))∧(f i x=none→L (n+1) (i:Nat)=L n ((i+1:Nat):Int)))
  {n:Nat} (hn:l.length<n):L n 0=some (xL f 0 l):=by
 have:=zQe (l:=l) (σ:=Unit) (fun n i _=>L n i) (fun i r _=>xL f i r) (fun _ _=>True) (fun n i _ hi _=>h0 n i hi) ?_ (n:=n) (s:=()) trivial hn
 ·exact this
 ·intro n i _ x r hd hlt _ ih
  obtain ⟨k1,k2⟩:=h1 n i x r hd hlt
  simp only [xL]
  cases hf:f i x with
  | none=>rw [k2 hf];exact ih () trivial
  | some b=>rw [k1 b hf]
theorem zKM {α:Type} (p:α→Bool):∀ (l:List α) (i:Nat),xL (fun _ x=>if p x then some true else none) i l=if l.any p then .inr true else .inl ():=by
 intro l
 induction l with
 | nil=>intro i;rfl
 | cons x r ih =>
  intro i
  simp only [xL]
  by_cases hp:p x=true
  ·have ea:(x::r).any p=true:=by simp [hp]
   rw [if_pos hp,if_pos ea]
  ·have ea:(x::r).any p=r.any p:=by simp [hp]
   rw [if_neg hp,ih (i+1),ea]
theorem zHc {c:Int}:qO 281474976710656 c 281474976710656 0=some (if qM.contains c then .inr true else .inl ()):=by
 have:=zEB (l:=qM) (qO 281474976710656 c) (fun _ x=>if x==c then some true else none) ?_ ?_ (n:=281474976710656) (by show 10<281474976710656;omega)
 ·rw [this,zKM (fun x=>x==c)]
  have e:qM.any (fun x=>x==c)=qM.contains c:=by
   rw [List.contains_eq_any_beq];congr 1;funext x;exact BEq.comm
  rw [e]
 ·intro n i hi
  show u5 281474976710656 c _ _=_
  unfold u5
  change qM.length≤i at hi
  have h10:qM.length=10:=rfl
  rw [yN (by rw [show ([95,46,58,47,60,62,36,42,126,45]:List Int)=qM from rfl];omega),cond_false]
 ·intro n i x r hd hlt
  have h10:qM.length=10:=rfl
  have e:qO 281474976710656 c (n+1) (i:Nat)=(bif (x==c) then some (.inr true) else qO 281474976710656 c n ((i+1:Nat):Int)):=by
   show u5 281474976710656 c _ _=_
   unfold u5
   rw [show ([95,46,58,47,60,62,36,42,126,45]:List Int)=qM from rfl,yP (by omega),cond_true,y1 hd,Option.bind_some,wE (by omega)]
  rw [e]
  constructor
  ·intro b hb
   by_cases hx:(x==c)=true
   ·rw [if_pos hx] at hb;injection hb with hb;subst hb;rw [hx];rfl
   ·rw [if_neg hx] at hb;cases hb
  ·intro hb
   by_cases hx:(x==c)=true
   ·rw [if_pos hx] at hb;cases hb
   ·rw [Bool.not_eq_true] at hx;rw [hx];rfl
theorem zLp (c:Int):∀ l:List Int, -1≤u9 l c∧decide (u9 l c≥0)=l.contains c:=by
 intro l
 induction l with
 | nil=>simp [u9]
 | cons b l ih =>
  unfold u9
  rw [List.contains_cons]
  by_cases h:b=c
  ·rw [if_pos h];subst h;simp
  ·rw [if_neg h]
   have hb:(c==b)=false:=by simpa using Ne.symm h
   rw [hb,Bool.false_or]
   by_cases h2:u9 l c = -1
   ·rw [if_pos h2]
    have:=ih.2;rw [h2] at this
    exact ⟨by omega,this⟩
   ·rw [if_neg h2]
    refine ⟨by omega,?_⟩
    rw [← ih.2]
    have:=ih.1
    rw [yP (by omega),yP (by omega)]
theorem zJa {c:Int}:decide (u9 qM c≥0)=qM.contains c:=(zLp c qM).2
theorem zGG {c:Int}:nS c=some (pR c):=by
 unfold nS vF jD
 have h:=zJa (c:=c)
 unfold qM at h
 unfold pR qM
 simp only [Option.bind_some,h]
 by_cases c1:c≥97<;>by_cases c2:c≤122<;>by_cases c3:c≥65<;>by_cases c4:c≤90<;>by_cases c5:c≥48<;>by_cases c6:c≤57<;>simp [c1,c2,c3,c4,c5,c6]<;>omega
theorem zI0 {c:Int}:zBL 281474976710656 c=some (pR c):=by
 unfold zBL
 rw [zHc]
 unfold pR
 by_cases hs:qM.contains c=true
 ·rw [if_pos hs]
  simp only [hs,Bool.or_true,Option.bind_some]
  cases (bif decide (c≥(97:Int)) then (decide (c≤(122:Int))||(bif decide (c≥(65:Int)) then (decide (c≤(90:Int))||(decide (c≥(48:Int))&&decide (c≤(57:Int)))) else (decide (c≥(48:Int))&&decide (c≤(57:Int))))) else (bif decide (c≥(65:Int)) then (decide (c≤(90:Int))||(decide (c≥(48:Int))&&decide (c≤(57:Int)))) else (decide (c≥(48:Int))&&decide (c≤(57:Int)))))<;>rfl
 ·rw [if_neg hs]
  rw [Bool.not_eq_true] at hs
  simp only [hs,Bool.or_false,Option.bind_some]
  by_cases c1:c≥97<;>by_cases c2:c≤122<;>by_cases c3:c≥65<;>by_cases c4:c≤90<;>by_cases c5:c≥48<;>by_cases c6:c≤57<;>simp [c1,c2,c3,c4,c5,c6]<;>omega
theorem zFc {α R:Type} (p:α→Bool) (v:R):∀ (l:List α) (i:Nat),xL (fun _ x=>if p x=false then some v else none) i l=if l.all p=true then .inl () else .inr v:=by
 intro l
 induction l with
 | nil=>intro i;rfl
 | cons x r ih =>
  intro i
  simp only [xL]
  by_cases hp:p x=false
  ·have ea:¬(x::r).all p=true:=by simp [hp]
   rw [if_pos hp,if_neg ea]
  ·have ea:(x::r).all p=r.all p:=by simp at hp;simp [hp]
   rw [if_neg hp,ih (i+1),ea]
theorem zIN {l:List Int} (L:Nat→Int→Option (Unit⊕Int)) (hl:l.length≤40)
  (e:∀ n i,L (n+1) (i:Nat)=bif decide (((i:Nat):Int)<((l.length:Nat):Int)) then (y6 l (i:Nat)).bind fun c=>(bif !(pR c) then some (.inr (3:Int)) else L n (zP ((i:Nat)+(1:Int)))) else some (.inl ())) :
  L 281474976710656 0=some (if l.all pR=true then .inl () else .inr 3):=by
 have:=zEB (l:=l) L (fun _ x=>if pR x=false then some 3 else none) ?_ ?_ (n:=281474976710656) (by omega)
 ·rw [this,zFc]
 ·intro n i hi
  rw [e,yN (by omega),cond_false]
 ·intro n i x r hd hlt
  rw [e,yP (by omega),cond_true,y1 hd,Option.bind_some,wE (by omega)]
  cases pR x<;>simp
theorem zB9 {l:List Int}:kV 281474976710656 l=some (kR l):=by
 unfold kV kR
 by_cases h:l=[]∨40<l.length
 ·have:((l==([]:List Int))||decide ((((l).length:Nat):Int)>(40:Int)))=true:=by
   rcases h with h | h
   ·rw [h];rfl
   ·rw [yP (p:=((l.length:Nat):Int)>40) (by omega),Bool.or_true]
  rw [this,cond_true,if_pos h]
 ·have:((l==([]:List Int))||decide ((((l).length:Nat):Int)>(40:Int)))=false:=by
   have hb:(l==([]:List Int))=false:=by
    cases l with
    | nil=>exact absurd (.inl rfl) h
    | cons a r=>rfl
   rw [hb,yN (by omega)];rfl
  rw [this,cond_false,if_neg h,zIN (l:=l) (pG 281474976710656 l) (by omega) (fun n i=>by
   show qR 281474976710656 l _ _=_
   unfold qR
   simp only [zGG,Option.bind_some]),Option.bind_some]
  by_cases ha:l.all pR=true
  ·rw [if_pos ha,if_pos ha]
  ·rw [if_neg ha,if_neg ha]
theorem zDX {l:List Int}:zA6 281474976710656 l=some (kR l):=by
 unfold zA6 kR
 by_cases h:l=[]∨40<l.length
 ·have:(decide ((((l).length:Nat):Int)<(1:Int))||decide ((((l).length:Nat):Int)>(40:Int)))=true:=by
   rcases h with h | h
   ·rw [h];rfl
   ·rw [yP (p:=((l.length:Nat):Int)>40) (by omega),Bool.or_true]
  rw [this,cond_true,if_pos h]
 ·have hp:0<l.length:=List.length_pos_iff.2 (fun hc=>h (.inl hc))
  have:(decide ((((l).length:Nat):Int)<(1:Int))||decide ((((l).length:Nat):Int)>(40:Int)))=false:=by
   rw [yN (by omega),yN (by omega)];rfl
  rw [this,cond_false,if_neg h,zIN (l:=l) (zAP 281474976710656 l) (by omega) (fun n i=>by
   show jZ 281474976710656 l _ _=_
   unfold jZ
   simp only [zI0,Option.bind_some]),Option.bind_some]
  by_cases ha:l.all pR=true
  ·rw [if_pos ha,if_pos ha]
  ·rw [if_neg ha,if_neg ha]
def zBs (l:List (List Int)):Int:=if 32<l.length then 7 else if l.all (fun s=>decide (kR s=0)) then 0 else 3
theorem zJ6 (s:List Int):kR s=0∨kR s=3:=by
 unfold kR;split
 ·exact .inr rfl
 ·split
  ·exact .inl rfl
  ·exact .inr rfl
theorem zGe {l:List (List Int)} (L:Nat→Int→Option (Unit⊕Int)) (hl:l.length≤100000)
  (e:∀ n i,L (n+1) (i:Nat)=bif decide (((i:Nat):Int)<((l.length:Nat):Int)) then (y6 l (i:Nat)).bind fun c=>(bif (kR c != (0:Int)) then some (.inr (3:Int)) else L n (zP ((i:Nat)+(1:Int)))) else some (.inl ())) :
  L 281474976710656 0=some (if l.all (fun s=>decide (kR s=0))=true then .inl () else .inr 3):=by
 have:=zEB (l:=l) L (fun _ x=>if decide (kR x=0)=false then some 3 else none) ?_ ?_ (n:=281474976710656) (by omega)
 ·rw [this,zFc (fun s=>decide (kR s=0))]
 ·intro n i hi
  rw [e,yN (by omega),cond_false]
 ·intro n i x r hd hlt
  rw [e,yP (p:=((i:Nat):Int)<((l.length:Nat):Int)) (by omega),cond_true,y1 hd,Option.bind_some,wE (by omega)]
  rcases zJ6 x with h | h<;>simp [h]
theorem zGI {l:List (List Int)}:nU 281474976710656 l=some (zBs l):=by
 unfold nU zBs
 by_cases h:32<l.length
 ·rw [yP (by omega),cond_true,if_pos h]
 ·rw [yN (by omega),cond_false,if_neg h,zGe (l:=l) (jX 281474976710656 l) (by omega) (fun n i=>by
   show qA 281474976710656 l _ _=_
   unfold qA
   simp only [zB9,Option.bind_some]
   congr 1;congr 1;funext c
   rcases zJ6 c with h | h<;>rw [h]<;>rfl),Option.bind_some]
  by_cases ha:l.all (fun s=>decide (kR s=0))=true
  ·rw [if_pos ha,if_pos ha]
  ·rw [if_neg ha,if_neg ha]
theorem zJb {l:List (List Int)}:zBO 281474976710656 l=some (zBs l):=by
 unfold zBO zBs
 by_cases h:32<l.length
 ·rw [yP (by omega),cond_true,if_pos h]
 ·rw [yN (by omega),cond_false,if_neg h,zGe (l:=l) (nP 281474976710656 l) (by omega) (fun n i=>by
   show q6 281474976710656 l _ _=_
   unfold q6
   simp only [zDX,Option.bind_some]),Option.bind_some]
  by_cases ha:l.all (fun s=>decide (kR s=0))=true
  ·rw [if_pos ha,if_pos ha]
  ·rw [if_neg ha,if_neg ha]
def toO (v:Int):Unit⊕Int:=if v=0 then .inl () else .inr v
theorem zNN {v:Int} (h:v≠0):toO v=.inr v:=if_neg h
end Go.Ab
