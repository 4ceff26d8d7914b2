/- Plain laws of the functions tF this seat's, laid anew from another seat's text. No conditions but those that the theorems name. -/
import Derived.Test.YtbifmbdcejggkaaP16xD
import Derived.Test.YtbifmbdcejggkaaA35
namespace Go.Ab
open Go
set_option linter.unusedVariables false
def zBG:List Int:=[95,46,58,47,60,62,36,42,126,45]
def zAr (c:Int):Bool:=decide (97≤c∧c≤122)||decide (65≤c∧c≤90)||decide (48≤c∧c≤57)||zBG.contains c
def nB (s:List Int):Int:=if s=[]∨40<s.length then 3 else if s.all zAr then 0 else 3

/-- A loop that goes through a list and stops at the first that is bad. -/
theorem zFh {α R:Type} {l:List α} (L:Nat→Int→Option (Unit⊕R)) (f:Nat→α→Option R)
    (h0:∀ n i,l.length≤i→L (n+1) (i:Nat)=some (.inl ()))
    (h1:∀ n i x r,l.drop i=x::r→i<l.length→(∀ b,f i x=some b→L (n+1) (i:Nat)=some (.inr b))∧(f i x=none→L (n+1) (i:Nat)=L n ((i+1:Nat):Int)))
    {n:Nat} (hn:l.length<n):L n 0=some (xV f 0 l):=by
  have:=zNU (l:=l) (σ:=Unit) (fun n i _=>L n i) (fun i r _=>xV f i r) (fun _ _=>True) (fun n i _ hi _=>h0 n i hi) ?_ (n:=n) (s:=()) trivial hn
  · exact this
  · intro n i _ x r hd hlt _ ih
    obtain ⟨k1,k2⟩:=h1 n i x r hd hlt
    simp only [xV]
    cases hf:f i x with
    | none=>rw [k2 hf];exact ih () trivial
    | some b=>rw [k1 b hf]
theorem zJq (c:Int):∀ l:List Int, -1≤uP l c∧decide (uP l c≥0)=l.contains c:=by
  intro l
  induction l with
  | nil=>simp [uP]
  | cons b l ih =>
    unfold uP
    rw [List.contains_cons]
    by_cases h:b=c
    · rw [if_pos h];subst h;simp
    · rw [if_neg h]
      have hb:(c==b)=false:=by simpa using Ne.symm h
      rw [hb,Bool.false_or]
      by_cases h2:uP l c = -1
      · rw [if_pos h2]
        have:=ih.2;rw [h2] at this
        exact ⟨by omega,this⟩
      · rw [if_neg h2]
        refine ⟨by omega,?_⟩
        rw [← ih.2]
        have:=ih.1
        rw [y5 (by omega),y5 (by omega)]
theorem zHp {c:Int}:decide (uP zBG c≥0)=zBG.contains c:=(zJq c zBG).2
theorem zE0 {c:Int}:kY c=some (zAr c):=by
  unfold kY w5 qD
  have h:=zHp (c:=c)
  unfold zBG at h
  unfold zAr zBG
  simp only [Option.bind_some,h]
  by_cases c1:c≥97<;>by_cases c2:c≤122<;>by_cases c3:c≥65<;>by_cases c4:c≤90<;>by_cases c5:c≥48<;>by_cases c6:c≤57<;>simp [c1,c2,c3,c4,c5,c6]<;>omega
theorem zEb {α R:Type} (p:α→Bool) (v:R):∀ (l:List α) (i:Nat),xV (fun _ x=>if p x=false then some v else none) i l=if l.all p=true then .inl () else .inr v:=by
  intro l
  induction l with
  | nil=>intro i;rfl
  | cons x r ih =>
    intro i
    simp only [xV]
    by_cases hp:p x=false
    · have ea:¬(x::r).all p=true:=by simp [hp]
      rw [if_pos hp,if_neg ea]
    · have ea:(x::r).all p=r.all p:=by simp at hp;simp [hp]
      rw [if_neg hp,ih (i+1),ea]
theorem zLw {l:List Int} (L:Nat→Int→Option (Unit⊕Int)) (hl:l.length≤40)
    (e:∀ n i,L (n+1) (i:Nat)=bif decide (((i:Nat):Int)<((l.length:Nat):Int)) then (xW l (i:Nat)).bind fun c=>(bif !(zAr c) then some (.inr (3:Int)) else L n (zJ ((i:Nat)+(1:Int)))) else some (.inl ())) :
    L 281474976710656 0=some (if l.all zAr=true then .inl () else .inr 3):=by
  have:=zFh (l:=l) L (fun _ x=>if zAr x=false then some 3 else none) ?_ ?_ (n:=281474976710656) (by omega)
  · rw [this,zEb]
  · intro n i hi
    rw [e,yU (by omega),cond_false]
  · intro n i x r hd hlt
    rw [e,y5 (by omega),cond_true,xL hd,Option.bind_some,w6 (by omega)]
    cases zAr x<;>simp
theorem zAP {l:List Int}:jW 281474976710656 l=some (nB l):=by
  unfold jW nB
  by_cases h:l=[]∨40<l.length
  · have:((l==([]:List Int))||decide ((((l).length:Nat):Int)>(40:Int)))=true:=by
      rcases h with h | h
      · rw [h];rfl
      · rw [y5 (p:=((l.length:Nat):Int)>40) (by omega),Bool.or_true]
    rw [this,cond_true,if_pos h]
  · have:((l==([]:List Int))||decide ((((l).length:Nat):Int)>(40:Int)))=false:=by
      have hb:(l==([]:List Int))=false:=by
        cases l with
        | nil=>exact absurd (.inl rfl) h
        | cons a r=>rfl
      rw [hb,yU (by omega)];rfl
    rw [this,cond_false,if_neg h,zLw (l:=l) (kB 281474976710656 l) (by omega) (fun n i=>by
      show tR 281474976710656 l _ _=_
      unfold tR
      simp only [zE0,Option.bind_some]),Option.bind_some]
    by_cases ha:l.all zAr=true
    · rw [if_pos ha,if_pos ha]
    · rw [if_neg ha,if_neg ha]
/-- A stack's check. -/
def zCL (l:List (List Int)):Int:=if 32<l.length then 7 else if l.all (fun s=>decide (nB s=0)) then 0 else 3
theorem zHQ (s:List Int):nB s=0∨nB s=3:=by
  unfold nB;split
  · exact .inr rfl
  · split
    · exact .inl rfl
    · exact .inr rfl
theorem zJl {l:List (List Int)} (L:Nat→Int→Option (Unit⊕Int)) (hl:l.length≤100000)
    (e:∀ n i,L (n+1) (i:Nat)=bif decide (((i:Nat):Int)<((l.length:Nat):Int)) then (xW l (i:Nat)).bind fun c=>(bif (nB c != (0:Int)) then some (.inr (3:Int)) else L n (zJ ((i:Nat)+(1:Int)))) else some (.inl ())) :
    L 281474976710656 0=some (if l.all (fun s=>decide (nB s=0))=true then .inl () else .inr 3):=by
  have:=zFh (l:=l) L (fun _ x=>if decide (nB x=0)=false then some 3 else none) ?_ ?_ (n:=281474976710656) (by omega)
  · rw [this,zEb (fun s=>decide (nB s=0))]
  · intro n i hi
    rw [e,yU (by omega),cond_false]
  · intro n i x r hd hlt
    rw [e,y5 (p:=((i:Nat):Int)<((l.length:Nat):Int)) (by omega),cond_true,xL hd,Option.bind_some,w6 (by omega)]
    rcases zHQ x with h | h<;>simp [h]
theorem zFf {l:List (List Int)}:kW 281474976710656 l=some (zCL l):=by
  unfold kW zCL
  by_cases h:32<l.length
  · rw [y5 (by omega),cond_true,if_pos h]
  · rw [yU (by omega),cond_false,if_neg h,zJl (l:=l) (q7 281474976710656 l) (by omega) (fun n i=>by
      show tB 281474976710656 l _ _=_
      unfold tB
      simp only [zAP,Option.bind_some]
      congr 1;congr 1;funext c
      rcases zHQ c with h | h<;>rw [h]<;>rfl),Option.bind_some]
    by_cases ha:l.all (fun s=>decide (nB s=0))=true
    · rw [if_pos ha,if_pos ha]
    · rw [if_neg ha,if_neg ha]
def toO (v:Int):Unit⊕Int:=if v=0 then .inl () else .inr v
theorem zN9 {v:Int} (h:v≠0):toO v=.inr v:=if_neg h
end Go.Ab
