/- What the functions about a log's head compute. No conditions but the bounds on lengths that the theorems name. -/
import Derived.Test.YtbifmbdcejggkaaP16xD
import Derived.Test.YtbifmbdcejggkaaB16e
namespace Go.Ab
open Go
set_option linter.unusedVariables false

/-- A loop that ends at the first that fails. -/
theorem zA7 {α β:Type} {l:List α} (L:Nat→Int→Option (Unit⊕β)) (f:Nat→α→Option β) (hl:l.length≤100000)
    (h0:∀ n i,l.length≤i→L (n+1) (i:Nat)=some (.inl ()))
    (h1:∀ n i x r,l.drop i=x::r→i<l.length→L (n+1) (i:Nat)=match f i x with | none=>L n ((i+1:Nat):Int) | some b=>some (.inr b)):L 281474976710656 0=some (xW f 0 l):=by
  have key:∀ (n i:Nat),(l.drop i).length<n→L n (i:Int)=some (xW f i (l.drop i)):=by
    intro n
    induction n with
    | zero=>intro i h;omega
    | succ n ih =>
      intro i hn
      rcases hd:l.drop i with _ | ⟨x,r⟩
      · rw [h0 n i (qB hd)];rfl
      · rw [h1 n i x r hd (qW hd)]
        rw [hd] at hn
        simp only [List.length_cons] at hn
        simp only [xW]
        cases hf:f i x with
        | none=>simp only;rw [ih (i+1) (by rw [vY hd];omega),vY hd]
        | some b=>rfl
  have:=key 281474976710656 0 (by simp;omega)
  simpa using this

/-- The place of the first that a condition holds of. -/
def pV {α:Type} (p:α→Bool) (l:List α):Int:=match xW (fun i x=>bif p x then some ((i:Nat):Int) else none) 0 l with | .inl _ => -1 | .inr q=>q
def idP (id:Int) (d:zM):Bool:=d.Id==id
theorem zL9 {d:List zM} {id:Int} (hl:d.length≤100000):xH 281474976710656 d id=some (pV (idP id) d):=by
  unfold xH
  rw [zA7 (l:=d) (fun n i=>xD 281474976710656 d id n i) (fun i x=>bif idP id x then some ((i:Nat):Int) else none) hl]
  · rw [Option.bind_some];first | (unfold pV;split<;>simp_all) | (unfold uz;split<;>simp_all) | (split<;>simp_all)
  · intro n i hi
    show yQ _ _ _ _ _=_
    unfold yQ
    rw [y1 (by omega),cond_false]
  · intro n i x r hd hi
    show yQ _ _ _ _ _=_
    unfold yQ
    rw [y7 (by omega),cond_true,wK hd,Option.bind_some,uM (by omega)]
    unfold nI idP
    rw [Option.bind_some]
    cases (x.Id==id)<;>rfl
theorem zKU {d:List zM} {t:zQ} (hl:d.length≤100000):xC 281474976710656 d t=some (pV (idP t.Domain) d):=by
  unfold xC
  rw [zA7 (l:=d) (fun n i=>xA 281474976710656 d t n i) (fun i x=>bif idP t.Domain x then some ((i:Nat):Int) else none) hl]
  · rw [Option.bind_some];first | (unfold pV;split<;>simp_all) | (unfold uz;split<;>simp_all) | (split<;>simp_all)
  · intro n i hi
    show yP _ _ _ _ _=_
    unfold yP
    rw [y1 (by omega),cond_false]
  · intro n i x r hd hi
    show yP _ _ _ _ _=_
    unfold yP
    rw [y7 (by omega),cond_true,wK hd,Option.bind_some,uM (by omega)]
    unfold zAQ idP
    rw [Option.bind_some]
    cases (x.Id==t.Domain)<;>rfl
theorem zAB {d:List zM} {id:Int} (hl:d.length≤100000):jH 281474976710656 d id=some (pV (idP id) d):=by
  unfold jH;rw [zL9 hl];rfl
def zDk (x:zM):Prop:=x.Id<0∨x.Id≥8∨x.Ppm<0∨x.Ppm>10000
instance decDomBad {x:zM}:Decidable (zDk x):=inferInstanceAs (Decidable (_∨_))
def zJu (d:List zM) (i:Nat) (x:zM):Option Int:=if zDk x then some 2 else if pV (idP x.Id) (d.take i)≥0 then some 4 else none
theorem zEC {d:List zM} (hl:d.length≤100000):kF 281474976710656 d=some (match xW (zJu d) 0 d with | .inl _=>0 | .inr q=>q):=by
  unfold kF
  rw [zA7 (l:=d) (fun n i=>qS 281474976710656 d n i) (zJu d) hl]
  · rw [Option.bind_some];first | (unfold pV;split<;>simp_all) | (unfold uz;split<;>simp_all) | (split<;>simp_all)
  · intro n i hi
    show v3 _ _ _ _=_
    unfold v3
    rw [y1 (by omega),cond_false]
  · intro n i x r hd hi
    show v3 _ _ _ _=_
    unfold v3
    rw [y7 (by omega),cond_true,wK hd,Option.bind_some,uM (by omega),tA (by omega),zLy,zAB (by rw [List.length_take];omega)]
    unfold zJu
    by_cases h:zDk x
    · rw [if_pos h,zD1 (by simpa [zDk] using h) rfl]
    · rw [if_neg h,zGh (by unfold zDk at h;simp;omega) rfl,Option.bind_some,Option.bind_some]
      by_cases h2:pV (idP x.Id) (d.take i)≥0
      · rw [if_pos h2,y7 h2];rfl
      · rw [if_neg h2,y1 h2];rfl

def zBh (n:Int):Bool:=decide (n≥0)&&decide (n≤1000000000000)
def zFG (d:List zM) (x:yC):Int :=
  if pV (idP x.A) d<0∨pV (idP x.B) d<0 then 5 else if x.A=x.B then 1 else
  if (zBh x.AtA&&(zBh x.AtB.Lo&&zBh x.AtB.Hi))=false∨x.AtB.Lo>x.AtB.Hi then 2 else 0
theorem zG7 {d:List zM} {x:yC} (hl:d.length≤100000):zAn 281474976710656 d x=some (zFG d x):=by
  unfold zAn zFG qX
  rw [zAB hl,Option.bind_some]
  simp only [zAB hl,Option.bind_some]
  rw [show (decide (x.AtA≥(0:Int))&&decide (x.AtA≤(1000000000000:Int)))=zBh x.AtA from rfl,show (decide (x.AtB.Lo≥(0:Int))&&decide (x.AtB.Lo≤(1000000000000:Int)))=zBh x.AtB.Lo from rfl,
    show (decide (x.AtB.Hi≥(0:Int))&&decide (x.AtB.Hi≤(1000000000000:Int)))=zBh x.AtB.Hi from rfl]
  generalize pV (idP x.A) d=p
  generalize pV (idP x.B) d=q
  generalize zBh x.AtA=r1
  generalize zBh x.AtB.Lo=r2
  generalize zBh x.AtB.Hi=r3
  by_cases h1:p<0
  · rw [y7 h1];simp [h1]
  · rw [y1 h1]
    by_cases h2:q<0
    · rw [y7 h2];simp [h1,h2]
    · rw [y1 h2]
      simp only [cond_false,Option.bind_some,h1,h2,or_self,if_false]
      by_cases h3:x.A=x.B
      · rw [uX h3,if_pos h3];rfl
      · rw [kQ h3,if_neg h3]
        by_cases h4:x.AtB.Lo>x.AtB.Hi
        · rw [y7 h4];cases r1<;>cases r2<;>cases r3<;>simp [h4]
        · rw [y1 h4];cases r1<;>cases r2<;>cases r3<;>simp [h4]
def snF (d:List zM) (_:Nat) (x:yC):Option Int:=if zFG d x≠0 then some (zFG d x) else none
def uz (o:Unit⊕Int):Int:=match o with | .inl _=>0 | .inr q=>q
def zE2 (d:List zM):Int:=uz (xW (zJu d) 0 d)
def zCn (d:List zM) (l:List yC):Int :=
  if d.length=0 then 8 else if d.length>8∨l.length>200 then 7 else if d[0]?≠some ⟨0,0⟩ then 10 else if zE2 d≠0 then zE2 d else uz (xW (snF d) 0 l)
theorem zFR {d:List zM} {l:List yC} (hl:d.length≤100000) (hm:l.length≤100000):p0 281474976710656 d l=some (zCn d l):=by
  unfold p0 zCn
  by_cases h0:d.length=0
  · rw [if_pos h0,uX (by omega)];rfl
  rw [if_neg h0,kQ (by omega),cond_false]
  by_cases h1:d.length>8∨l.length>200
  · rw [if_pos h1,zD1 (by simp;omega) rfl]
  rw [if_neg h1,zGh (by simp;omega) rfl,show wB d (0:Int)=d[0]? from zEt d 0]
  cases hd:d[0]? with
  | none=>rw [List.getElem?_eq_none_iff] at hd;omega
  | some x =>
    rw [Option.bind_some]
    by_cases h2:x=⟨0,0⟩
    · rw [if_neg (by simp [h2]),zGh (by simp [h2]) rfl,zEC hl,Option.bind_some]
      show (bif (zE2 d != 0) then some (zE2 d) else _)=_
      by_cases h3:zE2 d≠0
      · rw [if_pos h3,jJ h3];rfl
      · rw [if_neg h3,kB (by omega),cond_false,zA7 (l:=l) (fun n i=>jO 281474976710656 d l n i) (snF d) hm]
        · rw [Option.bind_some];first | (unfold pV;split<;>simp_all) | (unfold uz;split<;>simp_all) | (split<;>simp_all)
        · intro n i hi
          show uG _ _ _ _ _=_
          unfold uG
          rw [y1 (by omega),cond_false]
        · intro n i x r hd hi
          show uG _ _ _ _ _=_
          unfold uG
          rw [y7 (by omega),cond_true,wK hd,Option.bind_some,uM (by omega),zG7 hl,Option.bind_some]
          unfold snF
          by_cases h:zFG d x≠0
          · rw [if_pos h,jJ h];rfl
          · rw [if_neg h,kB (by omega)];rfl
    · rw [if_pos (by simpa using h2),zD1 (by simpa using h2) rfl]
def thF (l:List zQ) (i:Nat) (t:zQ):Option Int:=if zCo t≠0 then some (zCo t) else if t.Id∈(l.take i).map (·.Id) then some 4 else none
def doF (d:List zM) (_:Nat) (t:zQ):Option Int:=if pV (idP t.Domain) d≥0 then none else some 5
def zBo (h:zS):Int :=
  if h.Threads.length=0 then 8 else if h.Threads.length>64 then 7 else
  match xW (thF h.Threads) 0 h.Threads with
  | .inr q=>q
  | .inl _=>if zCn h.Domains h.Snaps≠0 then zCn h.Domains h.Snaps else uz (xW (doF h.Domains) 0 h.Threads)

theorem zGb {h:zS} (hl:h.Threads.length≤100000):∀ (n i:Nat) (row:List (Int×Bool)),zKa row ((h.Threads.take i).map (·.Id))→(h.Threads.drop i).length<n →
    jN 281474976710656 h n (i:Nat) row=some (xW (thF h.Threads) i (h.Threads.drop i)):=by
  intro n
  induction n with
  | zero=>intro i row _ h;omega
  | succ n ih =>
    intro i row hs hn
    show qE _ _ _ _ _=_
    unfold qE
    rcases hd:h.Threads.drop i with _ | ⟨x,r⟩
    · have:=qB hd
      rw [y1 (by omega),cond_false];rfl
    · have hi:=qW hd
      rw [hd] at hn
      simp only [List.length_cons] at hn
      rw [y7 (by omega),cond_true,wK hd,Option.bind_some,zDB,Option.bind_some,uM (by omega)]
      simp only [xW,thF]
      by_cases h1:zCo x≠0
      · rw [if_pos h1,jJ h1];rfl
      · rw [if_neg h1,kB (by omega),cond_false,hs.2]
        by_cases h2:x.Id∈(h.Threads.take i).map (·.Id)
        · rw [if_pos h2,y7 h2];rfl
        · have hlen:=hs.1
          simp only [List.length_map,List.length_take] at hlen
          rw [if_neg h2,y1 h2,cond_false,tA (by omega),Option.bind_some,ih (i+1) _ ?_ (by rw [vY hd];omega),vY hd]
          rw [jC hd,List.map_append]
          exact zMh hs x.Id
theorem zH0 {h:zS} (hl:h.Threads.length≤100000) (hd:h.Domains.length≤100000) (hs:h.Snaps.length≤100000):zA8 281474976710656 h=some (zBo h):=by
  unfold zA8 zBo
  by_cases h0:h.Threads.length=0
  · rw [if_pos h0,uX (by omega)];rfl
  rw [if_neg h0,kQ (by omega),cond_false]
  by_cases h1:h.Threads.length>64
  · rw [if_pos h1,y7 (by omega)];rfl
  rw [if_neg h1,y1 (by omega),cond_false,show jN 281474976710656 h 281474976710656 (0:Int) []=_ from zGb hl 281474976710656 0 [] (by simpa using zMd) (by simp;omega),Option.bind_some,List.drop_zero]
  cases xW (thF h.Threads) 0 h.Threads with
  | inr q=>rfl
  | inl u =>
    simp only
    rw [zFR hd hs,Option.bind_some]
    by_cases h2:zCn h.Domains h.Snaps≠0
    · rw [if_pos h2,jJ h2];rfl
    · rw [if_neg h2]
      have h2:zCn h.Domains h.Snaps=0:=by omega
      rw [h2]
      show Option.bind (jV 281474976710656 h 281474976710656 0) _=_
      rw [zA7 (l:=h.Threads) (fun n i=>jV 281474976710656 h n i) (doF h.Domains) hl]
      · rw [Option.bind_some];first | (unfold pV;split<;>simp_all) | (unfold uz;split<;>simp_all) | (split<;>simp_all)
      · intro n i hi
        show uU _ _ _ _=_
        unfold uU
        rw [y1 (by omega),cond_false]
      · intro n i x r hx hi
        show uU _ _ _ _=_
        unfold uU
        rw [y7 (by omega),cond_true,wK hx,Option.bind_some,uM (by omega)]
        unfold x3 doF
        rw [zKU hd,Option.bind_some,Option.bind_some]
        by_cases h3:pV (idP x.Domain) h.Domains≥0
        · rw [if_pos h3,y7 h3];rfl
        · rw [if_neg h3,y1 h3];rfl
end Go.Ab
