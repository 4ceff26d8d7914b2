/- What the functions about a log's head compute. No conditions but the bounds on lengths that the theorems name. -/
import Derived.Test.YtbifmbdcejggkaaP16xD
import Derived.Test.YtbifmbdcejggkaaB16e
namespace Go.Ab
open Go
set_option linter.unusedVariables false

/-- A loop that ends at the first that fails. -/
theorem zAJ {α β:Type} {l:List α} (L:Nat→Int→Option (Unit⊕β)) (f:Nat→α→Option β) (hl:l.length≤100000)
    (h0:∀ n i,l.length≤i→L (n+1) (i:Nat)=some (.inl ()))
    (h1:∀ n i x r,l.drop i=x::r→i<l.length→L (n+1) (i:Nat)=match f i x with | none=>L n ((i+1:Nat):Int) | some b=>some (.inr b)):L 281474976710656 0=some (x5 f 0 l):=by
  have key:∀ (n i:Nat),(l.drop i).length<n→L n (i:Int)=some (x5 f i (l.drop i)):=by
    intro n
    induction n with
    | zero=>intro i h;omega
    | succ n ih =>
      intro i hn
      rcases hd:l.drop i with _ | ⟨x,r⟩
      · rw [h0 n i (tC hd)];rfl
      · rw [h1 n i x r hd (t9 hd)]
        rw [hd] at hn
        simp only [List.length_cons] at hn
        simp only [x5]
        cases hf:f i x with
        | none=>simp only;rw [ih (i+1) (by rw [vD hd];omega),vD hd]
        | some b=>rfl
  have:=key 281474976710656 0 (by simp;omega)
  simpa using this

/-- The place of the first that a condition holds of. -/
def pH {α:Type} (p:α→Bool) (l:List α):Int:=match x5 (fun i x=>bif p x then some ((i:Nat):Int) else none) 0 l with | .inl _ => -1 | .inr q=>q
def idP (id:Int) (d:zK):Bool:=d.Id==id
theorem zLS {d:List zK} {id:Int} (hl:d.length≤100000):xA 281474976710656 d id=some (pH (idP id) d):=by
  unfold xA
  rw [zAJ (l:=d) (fun n i=>y4 281474976710656 d id n i) (fun i x=>bif idP id x then some ((i:Nat):Int) else none) hl]
  · rw [Option.bind_some];first | (unfold pH;split<;>simp_all) | (unfold uz;split<;>simp_all) | (split<;>simp_all)
  · intro n i hi
    show yM _ _ _ _ _=_
    unfold yM
    rw [y0 (by omega),cond_false]
  · intro n i x r hd hi
    show yM _ _ _ _ _=_
    unfold yM
    rw [y1 (by omega),cond_true,x3 hd,Option.bind_some,v5 (by omega)]
    unfold pR idP
    rw [Option.bind_some]
    cases (x.Id==id)<;>rfl
theorem zKZ {d:List zK} {t:zO} (hl:d.length≤100000):y5 281474976710656 d t=some (pH (idP t.Domain) d):=by
  unfold y5
  rw [zAJ (l:=d) (fun n i=>y2 281474976710656 d t n i) (fun i x=>bif idP t.Domain x then some ((i:Nat):Int) else none) hl]
  · rw [Option.bind_some];first | (unfold pH;split<;>simp_all) | (unfold uz;split<;>simp_all) | (split<;>simp_all)
  · intro n i hi
    show yJ _ _ _ _ _=_
    unfold yJ
    rw [y0 (by omega),cond_false]
  · intro n i x r hd hi
    show yJ _ _ _ _ _=_
    unfold yJ
    rw [y1 (by omega),cond_true,x3 hd,Option.bind_some,v5 (by omega)]
    unfold zAx idP
    rw [Option.bind_some]
    cases (x.Id==t.Domain)<;>rfl
theorem zAe {d:List zK} {id:Int} (hl:d.length≤100000):qX 281474976710656 d id=some (pH (idP id) d):=by
  unfold qX;rw [zLS hl];rfl
def zC8 (x:zK):Prop:=x.Id<0∨x.Id≥8∨x.Ppm<0∨x.Ppm>10000
instance decDomBad {x:zK}:Decidable (zC8 x):=inferInstanceAs (Decidable (_∨_))
def zJt (d:List zK) (i:Nat) (x:zK):Option Int:=if zC8 x then some 2 else if pH (idP x.Id) (d.take i)≥0 then some 4 else none
theorem zEa {d:List zK} (hl:d.length≤100000):j9 281474976710656 d=some (match x5 (zJt d) 0 d with | .inl _=>0 | .inr q=>q):=by
  unfold j9
  rw [zAJ (l:=d) (fun n i=>qC 281474976710656 d n i) (zJt d) hl]
  · rw [Option.bind_some];first | (unfold pH;split<;>simp_all) | (unfold uz;split<;>simp_all) | (split<;>simp_all)
  · intro n i hi
    show vN _ _ _ _=_
    unfold vN
    rw [y0 (by omega),cond_false]
  · intro n i x r hd hi
    show vN _ _ _ _=_
    unfold vN
    rw [y1 (by omega),cond_true,x3 hd,Option.bind_some,v5 (by omega),tM (by omega),zLg,zAe (by rw [List.length_take];omega)]
    unfold zJt
    by_cases h:zC8 x
    · rw [if_pos h,zDG (by simpa [zC8] using h) rfl]
    · rw [if_neg h,zFv (by unfold zC8 at h;simp;omega) rfl,Option.bind_some,Option.bind_some]
      by_cases h2:pH (idP x.Id) (d.take i)≥0
      · rw [if_pos h2,y1 h2];rfl
      · rw [if_neg h2,y0 h2];rfl

def zA6 (n:Int):Bool:=decide (n≥0)&&decide (n≤1000000000000)
def zE2 (d:List zK) (x:xY):Int :=
  if pH (idP x.A) d<0∨pH (idP x.B) d<0 then 5 else if x.A=x.B then 1 else
  if (zA6 x.AtA&&(zA6 x.AtB.Lo&&zA6 x.AtB.Hi))=false∨x.AtB.Lo>x.AtB.Hi then 2 else 0
theorem zGC {d:List zK} {x:xY} (hl:d.length≤100000):nU 281474976710656 d x=some (zE2 d x):=by
  unfold nU zE2 qJ
  rw [zAe hl,Option.bind_some]
  simp only [zAe hl,Option.bind_some]
  rw [show (decide (x.AtA≥(0:Int))&&decide (x.AtA≤(1000000000000:Int)))=zA6 x.AtA from rfl,show (decide (x.AtB.Lo≥(0:Int))&&decide (x.AtB.Lo≤(1000000000000:Int)))=zA6 x.AtB.Lo from rfl,
    show (decide (x.AtB.Hi≥(0:Int))&&decide (x.AtB.Hi≤(1000000000000:Int)))=zA6 x.AtB.Hi from rfl]
  generalize pH (idP x.A) d=p
  generalize pH (idP x.B) d=q
  generalize zA6 x.AtA=r1
  generalize zA6 x.AtB.Lo=r2
  generalize zA6 x.AtB.Hi=r3
  by_cases h1:p<0
  · rw [y1 h1];simp [h1]
  · rw [y0 h1]
    by_cases h2:q<0
    · rw [y1 h2];simp [h1,h2]
    · rw [y0 h2]
      simp only [cond_false,Option.bind_some,h1,h2,or_self,if_false]
      by_cases h3:x.A=x.B
      · rw [uF h3,if_pos h3];rfl
      · rw [jW h3,if_neg h3]
        by_cases h4:x.AtB.Lo>x.AtB.Hi
        · rw [y1 h4];cases r1<;>cases r2<;>cases r3<;>simp [h4]
        · rw [y0 h4];cases r1<;>cases r2<;>cases r3<;>simp [h4]
def snF (d:List zK) (_:Nat) (x:xY):Option Int:=if zE2 d x≠0 then some (zE2 d x) else none
def uz (o:Unit⊕Int):Int:=match o with | .inl _=>0 | .inr q=>q
def zE5 (d:List zK):Int:=uz (x5 (zJt d) 0 d)
def zB5 (d:List zK) (l:List xY):Int :=
  if d.length=0 then 8 else if d.length>8∨l.length>200 then 7 else if d[0]?≠some ⟨0,0⟩ then 10 else if zE5 d≠0 then zE5 d else uz (x5 (snF d) 0 l)
theorem zF2 {d:List zK} {l:List xY} (hl:d.length≤100000) (hm:l.length≤100000):pN 281474976710656 d l=some (zB5 d l):=by
  unfold pN zB5
  by_cases h0:d.length=0
  · rw [if_pos h0,uF (by omega)];rfl
  rw [if_neg h0,jW (by omega),cond_false]
  by_cases h1:d.length>8∨l.length>200
  · rw [if_pos h1,zDG (by simp;omega) rfl]
  rw [if_neg h1,zFv (by simp;omega) rfl,show wD d (0:Int)=d[0]? from zCD d 0]
  cases hd:d[0]? with
  | none=>rw [List.getElem?_eq_none_iff] at hd;omega
  | some x =>
    rw [Option.bind_some]
    by_cases h2:x=⟨0,0⟩
    · rw [if_neg (by simp [h2]),zFv (by simp [h2]) rfl,zEa hl,Option.bind_some]
      show (bif (zE5 d != 0) then some (zE5 d) else _)=_
      by_cases h3:zE5 d≠0
      · rw [if_pos h3,qR h3];rfl
      · rw [if_neg h3,q8 (by omega),cond_false,zAJ (l:=l) (fun n i=>jF 281474976710656 d l n i) (snF d) hm]
        · rw [Option.bind_some];first | (unfold pH;split<;>simp_all) | (unfold uz;split<;>simp_all) | (split<;>simp_all)
        · intro n i hi
          show vZ _ _ _ _ _=_
          unfold vZ
          rw [y0 (by omega),cond_false]
        · intro n i x r hd hi
          show vZ _ _ _ _ _=_
          unfold vZ
          rw [y1 (by omega),cond_true,x3 hd,Option.bind_some,v5 (by omega),zGC hl,Option.bind_some]
          unfold snF
          by_cases h:zE2 d x≠0
          · rw [if_pos h,qR h];rfl
          · rw [if_neg h,q8 (by omega)];rfl
    · rw [if_pos (by simpa using h2),zDG (by simpa using h2) rfl]
def thF (l:List zO) (i:Nat) (t:zO):Option Int:=if zB6 t≠0 then some (zB6 t) else if t.Id∈(l.take i).map (·.Id) then some 4 else none
def doF (d:List zK) (_:Nat) (t:zO):Option Int:=if pH (idP t.Domain) d≥0 then none else some 5
def zAw (h:zT):Int :=
  if h.Threads.length=0 then 8 else if h.Threads.length>64 then 7 else
  match x5 (thF h.Threads) 0 h.Threads with
  | .inr q=>q
  | .inl _=>if zB5 h.Domains h.Snaps≠0 then zB5 h.Domains h.Snaps else uz (x5 (doF h.Domains) 0 h.Threads)

theorem zF8 {h:zT} (hl:h.Threads.length≤100000):∀ (n i:Nat) (row:List (Int×Bool)),zJW row ((h.Threads.take i).map (·.Id))→(h.Threads.drop i).length<n →
    jB 281474976710656 h n (i:Nat) row=some (x5 (thF h.Threads) i (h.Threads.drop i)):=by
  intro n
  induction n with
  | zero=>intro i row _ h;omega
  | succ n ih =>
    intro i row hs hn
    show tX _ _ _ _ _=_
    unfold tX
    rcases hd:h.Threads.drop i with _ | ⟨x,r⟩
    · have:=tC hd
      rw [y0 (by omega),cond_false];rfl
    · have hi:=t9 hd
      rw [hd] at hn
      simp only [List.length_cons] at hn
      rw [y1 (by omega),cond_true,x3 hd,Option.bind_some,zDb,Option.bind_some,v5 (by omega)]
      simp only [x5,thF]
      by_cases h1:zB6 x≠0
      · rw [if_pos h1,qR h1];rfl
      · rw [if_neg h1,q8 (by omega),cond_false,hs.2]
        by_cases h2:x.Id∈(h.Threads.take i).map (·.Id)
        · rw [if_pos h2,y1 h2];rfl
        · have hlen:=hs.1
          simp only [List.length_map,List.length_take] at hlen
          rw [if_neg h2,y0 h2,cond_false,tM (by omega),Option.bind_some,ih (i+1) _ ?_ (by rw [vD hd];omega),vD hd]
          rw [t6 hd,List.map_append]
          exact zLo hs x.Id
theorem zHZ {h:zT} (hl:h.Threads.length≤100000) (hd:h.Domains.length≤100000) (hs:h.Snaps.length≤100000):zAK 281474976710656 h=some (zAw h):=by
  unfold zAK zAw
  by_cases h0:h.Threads.length=0
  · rw [if_pos h0,uF (by omega)];rfl
  rw [if_neg h0,jW (by omega),cond_false]
  by_cases h1:h.Threads.length>64
  · rw [if_pos h1,y1 (by omega)];rfl
  rw [if_neg h1,y0 (by omega),cond_false,show jB 281474976710656 h 281474976710656 (0:Int) []=_ from zF8 hl 281474976710656 0 [] (by simpa using zLy) (by simp;omega),Option.bind_some,List.drop_zero]
  cases x5 (thF h.Threads) 0 h.Threads with
  | inr q=>rfl
  | inl u =>
    simp only
    rw [zF2 hd hs,Option.bind_some]
    by_cases h2:zB5 h.Domains h.Snaps≠0
    · rw [if_pos h2,qR h2];rfl
    · rw [if_neg h2]
      have h2:zB5 h.Domains h.Snaps=0:=by omega
      rw [h2]
      show Option.bind (jH 281474976710656 h 281474976710656 0) _=_
      rw [zAJ (l:=h.Threads) (fun n i=>jH 281474976710656 h n i) (doF h.Domains) hl]
      · rw [Option.bind_some];first | (unfold pH;split<;>simp_all) | (unfold uz;split<;>simp_all) | (split<;>simp_all)
      · intro n i hi
        show uI _ _ _ _=_
        unfold uI
        rw [y0 (by omega),cond_false]
      · intro n i x r hx hi
        show uI _ _ _ _=_
        unfold uI
        rw [y1 (by omega),cond_true,x3 hx,Option.bind_some,v5 (by omega)]
        unfold xL doF
        rw [zKZ hd,Option.bind_some,Option.bind_some]
        by_cases h3:pH (idP x.Domain) h.Domains≥0
        · rw [if_pos h3,y1 h3];rfl
        · rw [if_neg h3,y0 h3];rfl
end Go.Ab
