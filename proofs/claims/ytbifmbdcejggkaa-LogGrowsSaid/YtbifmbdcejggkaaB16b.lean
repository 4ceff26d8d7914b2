/- Plain laws of the functions tG this seat's, laid anew from another seat's text. No conditions but those that the theorems name. -/
import Derived.Test.YtbifmbdcejggkaaP16xD
import Derived.Test.YtbifmbdcejggkaaA37
namespace Go.Ab
open Go
set_option linter.unusedVariables false
def zBu:List Int:=[95,46,58,47,60,62,36,42,126,45]
def nT (c:Int):Bool:=decide (97≤c∧c≤122)||decide (65≤c∧c≤90)||decide (48≤c∧c≤57)||zBu.contains c
def pB (s:List Int):Int:=if s=[]∨40<s.length then 3 else if s.all nT then 0 else 3

/-- A loop that goes through a list and stops at the first that is bad. -/
theorem zEv {α R:Type} {l:List α} (L:Nat→Int→Option (Unit⊕R)) (f:Nat→α→Option R)
    (h0:∀ n i,l.length≤i→L (n+1) (i:Nat)=some (.inl ()))
    (h1:∀ n i x r,l.drop i=x::r→i<l.length→(∀ b,f i x=some b→L (n+1) (i:Nat)=some (.inr b))∧(f i x=none→L (n+1) (i:Nat)=L n ((i+1:Nat):Int)))
    {n:Nat} (hn:l.length<n):L n 0=some (xW f 0 l):=by
  have:=zNt (l:=l) (σ:=Unit) (fun n i _=>L n i) (fun i r _=>xW f i r) (fun _ _=>True) (fun n i _ hi _=>h0 n i hi) ?_ (n:=n) (s:=()) trivial hn
  · exact this
  · intro n i _ x r hd hlt _ ih
    obtain ⟨k1,k2⟩:=h1 n i x r hd hlt
    simp only [xW]
    cases hf:f i x with
    | none=>rw [k2 hf];exact ih () trivial
    | some b=>rw [k1 b hf]
theorem zIR (c:Int):∀ l:List Int, -1≤uS l c∧decide (uS l c≥0)=l.contains c:=by
  intro l
  induction l with
  | nil=>simp [uS]
  | cons b l ih =>
    unfold uS
    rw [List.contains_cons]
    by_cases h:b=c
    · rw [if_pos h];subst h;simp
    · rw [if_neg h]
      have hb:(c==b)=false:=by simpa using Ne.symm h
      rw [hb,Bool.false_or]
      by_cases h2:uS l c = -1
      · rw [if_pos h2]
        have:=ih.2;rw [h2] at this
        exact ⟨by omega,this⟩
      · rw [if_neg h2]
        refine ⟨by omega,?_⟩
        rw [← ih.2]
        have:=ih.1
        rw [y7 (by omega),y7 (by omega)]
theorem zG3 {c:Int}:decide (uS zBu c≥0)=zBu.contains c:=(zIR c zBu).2
theorem zED {c:Int}:kI c=some (nT c):=by
  unfold kI vC t8
  have h:=zG3 (c:=c)
  unfold zBu at h
  unfold nT zBu
  simp only [Option.bind_some,h]
  by_cases c1:c≥97<;>by_cases c2:c≤122<;>by_cases c3:c≥65<;>by_cases c4:c≤90<;>by_cases c5:c≥48<;>by_cases c6:c≤57<;>simp [c1,c2,c3,c4,c5,c6]<;>omega
theorem zDm {α R:Type} (p:α→Bool) (v:R):∀ (l:List α) (i:Nat),xW (fun _ x=>if p x=false then some v else none) i l=if l.all p=true then .inl () else .inr v:=by
  intro l
  induction l with
  | nil=>intro i;rfl
  | cons x r ih =>
    intro i
    simp only [xW]
    by_cases hp:p x=false
    · have ea:¬(x::r).all p=true:=by simp [hp]
      rw [if_pos hp,if_neg ea]
    · have ea:(x::r).all p=r.all p:=by simp at hp;simp [hp]
      rw [if_neg hp,ih (i+1),ea]
theorem zK2 {l:List Int} (L:Nat→Int→Option (Unit⊕Int)) (hl:l.length≤40)
    (e:∀ n i,L (n+1) (i:Nat)=bif decide (((i:Nat):Int)<((l.length:Nat):Int)) then (wB l (i:Nat)).bind fun c=>(bif !(nT c) then some (.inr (3:Int)) else L n (zK ((i:Nat)+(1:Int)))) else some (.inl ())) :
    L 281474976710656 0=some (if l.all nT=true then .inl () else .inr 3):=by
  have:=zEv (l:=l) L (fun _ x=>if nT x=false then some 3 else none) ?_ ?_ (n:=281474976710656) (by omega)
  · rw [this,zDm]
  · intro n i hi
    rw [e,y1 (by omega),cond_false]
  · intro n i x r hd hlt
    rw [e,y7 (by omega),cond_true,wK hd,Option.bind_some,uM (by omega)]
    cases nT x<;>simp
theorem zAE {l:List Int}:jF 281474976710656 l=some (pB l):=by
  unfold jF pB
  by_cases h:l=[]∨40<l.length
  · have:((l==([]:List Int))||decide ((((l).length:Nat):Int)>(40:Int)))=true:=by
      rcases h with h | h
      · rw [h];rfl
      · rw [y7 (p:=((l.length:Nat):Int)>40) (by omega),Bool.or_true]
    rw [this,cond_true,if_pos h]
  · have:((l==([]:List Int))||decide ((((l).length:Nat):Int)>(40:Int)))=false:=by
      have hb:(l==([]:List Int))=false:=by
        cases l with
        | nil=>exact absurd (.inl rfl) h
        | cons a r=>rfl
      rw [hb,y1 (by omega)];rfl
    rw [this,cond_false,if_neg h,zK2 (l:=l) (jT 281474976710656 l) (by omega) (fun n i=>by
      show tQ 281474976710656 l _ _=_
      unfold tQ
      simp only [zED,Option.bind_some]),Option.bind_some]
    by_cases ha:l.all nT=true
    · rw [if_pos ha,if_pos ha]
    · rw [if_neg ha,if_neg ha]
/-- A stack's check. -/
def zCv (l:List (List Int)):Int:=if 32<l.length then 7 else if l.all (fun s=>decide (pB s=0)) then 0 else 3
theorem zHy (s:List Int):pB s=0∨pB s=3:=by
  unfold pB;split
  · exact .inr rfl
  · split
    · exact .inl rfl
    · exact .inr rfl
theorem zJb {l:List (List Int)} (L:Nat→Int→Option (Unit⊕Int)) (hl:l.length≤100000)
    (e:∀ n i,L (n+1) (i:Nat)=bif decide (((i:Nat):Int)<((l.length:Nat):Int)) then (wB l (i:Nat)).bind fun c=>(bif (pB c != (0:Int)) then some (.inr (3:Int)) else L n (zK ((i:Nat)+(1:Int)))) else some (.inl ())) :
    L 281474976710656 0=some (if l.all (fun s=>decide (pB s=0))=true then .inl () else .inr 3):=by
  have:=zEv (l:=l) L (fun _ x=>if decide (pB x=0)=false then some 3 else none) ?_ ?_ (n:=281474976710656) (by omega)
  · rw [this,zDm (fun s=>decide (pB s=0))]
  · intro n i hi
    rw [e,y1 (by omega),cond_false]
  · intro n i x r hd hlt
    rw [e,y7 (p:=((i:Nat):Int)<((l.length:Nat):Int)) (by omega),cond_true,wK hd,Option.bind_some,uM (by omega)]
    rcases zHy x with h | h<;>simp [h]
theorem zEI {l:List (List Int)}:kE 281474976710656 l=some (zCv l):=by
  unfold kE zCv
  by_cases h:32<l.length
  · rw [y7 (by omega),cond_true,if_pos h]
  · rw [y1 (by omega),cond_false,if_neg h,zJb (l:=l) (qO 281474976710656 l) (by omega) (fun n i=>by
      show tB 281474976710656 l _ _=_
      unfold tB
      simp only [zAE,Option.bind_some]
      congr 1;congr 1;funext c
      rcases zHy c with h | h<;>rw [h]<;>rfl),Option.bind_some]
    by_cases ha:l.all (fun s=>decide (pB s=0))=true
    · rw [if_pos ha,if_pos ha]
    · rw [if_neg ha,if_neg ha]
def toO (v:Int):Unit⊕Int:=if v=0 then .inl () else .inr v
theorem zNs {v:Int} (h:v≠0):toO v=.inr v:=if_neg h
end Go.Ab
