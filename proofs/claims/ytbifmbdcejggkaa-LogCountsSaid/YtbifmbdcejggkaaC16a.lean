/- What the functions about a log's head compute. No conditions but the bounds on lengths that the theorems name. -/
import Derived.Test.YtbifmbdcejggkaaP16xD
import Derived.Test.YtbifmbdcejggkaaB16e
namespace Go.Ab
open Go
set_option linter.unusedVariables false

/-- A loop that ends at the first that fails. -/
theorem zAm {α β:Type} {l:List α} (L:Nat→Int→Option (Unit⊕β)) (f:Nat→α→Option β) (hl:l.length≤100000)
    (h0:∀ n i,l.length≤i→L (n+1) (i:Nat)=some (.inl ()))
    (h1:∀ n i x r,l.drop i=x::r→i<l.length→L (n+1) (i:Nat)=match f i x with | none=>L n ((i+1:Nat):Int) | some b=>some (.inr b)):L 281474976710656 0=some (xV f 0 l):=by
  have key:∀ (n i:Nat),(l.drop i).length<n→L n (i:Int)=some (xV f i (l.drop i)):=by
    intro n
    induction n with
    | zero=>intro i h;omega
    | succ n ih =>
      intro i hn
      rcases hd:l.drop i with _ | ⟨x,r⟩
      · rw [h0 n i (v5 hd)];rfl
      · rw [h1 n i x r hd (uR hd)]
        rw [hd] at hn
        simp only [List.length_cons] at hn
        simp only [xV]
        cases hf:f i x with
        | none=>simp only;rw [ih (i+1) (by rw [wM hd];omega),wM hd]
        | some b=>rfl
  have:=key 281474976710656 0 (by simp;omega)
  simpa using this

/-- The place of the first that a condition holds of. -/
def nO {α:Type} (p:α→Bool) (l:List α):Int:=match xV (fun i x=>bif p x then some ((i:Nat):Int) else none) 0 l with | .inl _ => -1 | .inr q=>q
def idP (id:Int) (d:zL):Bool:=d.Id==id
theorem zMd {d:List zL} {id:Int} (hl:d.length≤100000):xG 281474976710656 d id=some (nO (idP id) d):=by
  unfold xG
  rw [zAm (l:=d) (fun n i=>xB 281474976710656 d id n i) (fun i x=>bif idP id x then some ((i:Nat):Int) else none) hl]
  · rw [Option.bind_some];first | (unfold nO;split<;>simp_all) | (unfold uz;split<;>simp_all) | (split<;>simp_all)
  · intro n i hi
    show yQ _ _ _ _ _=_
    unfold yQ
    rw [yU (by omega),cond_false]
  · intro n i x r hd hi
    show yQ _ _ _ _ _=_
    unfold yQ
    rw [y5 (by omega),cond_true,xL hd,Option.bind_some,w6 (by omega)]
    unfold zAe idP
    rw [Option.bind_some]
    cases (x.Id==id)<;>rfl
theorem zLB {d:List zL} {t:zP} (hl:d.length≤100000):xA 281474976710656 d t=some (nO (idP t.Domain) d):=by
  unfold xA
  rw [zAm (l:=d) (fun n i=>y7 281474976710656 d t n i) (fun i x=>bif idP t.Domain x then some ((i:Nat):Int) else none) hl]
  · rw [Option.bind_some];first | (unfold nO;split<;>simp_all) | (unfold uz;split<;>simp_all) | (split<;>simp_all)
  · intro n i hi
    show yO _ _ _ _ _=_
    unfold yO
    rw [yU (by omega),cond_false]
  · intro n i x r hd hi
    show yO _ _ _ _ _=_
    unfold yO
    rw [y5 (by omega),cond_true,xL hd,Option.bind_some,w6 (by omega)]
    unfold zA6 idP
    rw [Option.bind_some]
    cases (x.Id==t.Domain)<;>rfl
theorem zAW {d:List zL} {id:Int} (hl:d.length≤100000):jU 281474976710656 d id=some (nO (idP id) d):=by
  unfold jU;rw [zMd hl];rfl
def zD2 (x:zL):Prop:=x.Id<0∨x.Id≥8∨x.Ppm<0∨x.Ppm>10000
instance decDomBad {x:zL}:Decidable (zD2 x):=inferInstanceAs (Decidable (_∨_))
def zKo (d:List zL) (i:Nat) (x:zL):Option Int:=if zD2 x then some 2 else if nO (idP x.Id) (d.take i)≥0 then some 4 else none
theorem zEM {d:List zL} (hl:d.length≤100000):kU 281474976710656 d=some (match xV (zKo d) 0 d with | .inl _=>0 | .inr q=>q):=by
  unfold kU
  rw [zAm (l:=d) (fun n i=>qV 281474976710656 d n i) (zKo d) hl]
  · rw [Option.bind_some];first | (unfold nO;split<;>simp_all) | (unfold uz;split<;>simp_all) | (split<;>simp_all)
  · intro n i hi
    show vY _ _ _ _=_
    unfold vY
    rw [yU (by omega),cond_false]
  · intro n i x r hd hi
    show vY _ _ _ _=_
    unfold vY
    rw [y5 (by omega),cond_true,xL hd,Option.bind_some,w6 (by omega),jN (by omega),zMF,zAW (by rw [List.length_take];omega)]
    unfold zKo
    by_cases h:zD2 x
    · rw [if_pos h,zEo (by simpa [zD2] using h) rfl]
    · rw [if_neg h,zGa (by unfold zD2 at h;simp;omega) rfl,Option.bind_some,Option.bind_some]
      by_cases h2:nO (idP x.Id) (d.take i)≥0
      · rw [if_pos h2,y5 h2];rfl
      · rw [if_neg h2,yU h2];rfl

def zBz (n:Int):Bool:=decide (n≥0)&&decide (n≤1000000000000)
def zF2 (d:List zL) (x:x9):Int :=
  if nO (idP x.A) d<0∨nO (idP x.B) d<0 then 5 else if x.A=x.B then 1 else
  if (zBz x.AtA&&(zBz x.AtB.Lo&&zBz x.AtB.Hi))=false∨x.AtB.Lo>x.AtB.Hi then 2 else 0
theorem zHf {d:List zL} {x:x9} (hl:d.length≤100000):zAF 281474976710656 d x=some (zF2 d x):=by
  unfold zAF zF2 jD
  rw [zAW hl,Option.bind_some]
  simp only [zAW hl,Option.bind_some]
  rw [show (decide (x.AtA≥(0:Int))&&decide (x.AtA≤(1000000000000:Int)))=zBz x.AtA from rfl,show (decide (x.AtB.Lo≥(0:Int))&&decide (x.AtB.Lo≤(1000000000000:Int)))=zBz x.AtB.Lo from rfl,
    show (decide (x.AtB.Hi≥(0:Int))&&decide (x.AtB.Hi≤(1000000000000:Int)))=zBz x.AtB.Hi from rfl]
  generalize nO (idP x.A) d=p
  generalize nO (idP x.B) d=q
  generalize zBz x.AtA=r1
  generalize zBz x.AtB.Lo=r2
  generalize zBz x.AtB.Hi=r3
  by_cases h1:p<0
  · rw [y5 h1];simp [h1]
  · rw [yU h1]
    by_cases h2:q<0
    · rw [y5 h2];simp [h1,h2]
    · rw [yU h2]
      simp only [cond_false,Option.bind_some,h1,h2,or_self,if_false]
      by_cases h3:x.A=x.B
      · rw [v6 h3,if_pos h3];rfl
      · rw [t9 h3,if_neg h3]
        by_cases h4:x.AtB.Lo>x.AtB.Hi
        · rw [y5 h4];cases r1<;>cases r2<;>cases r3<;>simp [h4]
        · rw [yU h4];cases r1<;>cases r2<;>cases r3<;>simp [h4]
def snF (d:List zL) (_:Nat) (x:x9):Option Int:=if zF2 d x≠0 then some (zF2 d x) else none
def uz (o:Unit⊕Int):Int:=match o with | .inl _=>0 | .inr q=>q
def zFR (d:List zL):Int:=uz (xV (zKo d) 0 d)
def zCS (d:List zL) (l:List x9):Int :=
  if d.length=0 then 8 else if d.length>8∨l.length>200 then 7 else if d[0]?≠some ⟨0,0⟩ then 10 else if zFR d≠0 then zFR d else uz (xV (snF d) 0 l)
theorem zGf {d:List zL} {l:List x9} (hl:d.length≤100000) (hm:l.length≤100000):nY 281474976710656 d l=some (zCS d l):=by
  unfold nY zCS
  by_cases h0:d.length=0
  · rw [if_pos h0,v6 (by omega)];rfl
  rw [if_neg h0,t9 (by omega),cond_false]
  by_cases h1:d.length>8∨l.length>200
  · rw [if_pos h1,zEo (by simp;omega) rfl]
  rw [if_neg h1,zGa (by simp;omega) rfl,show xW d (0:Int)=d[0]? from zEU d 0]
  cases hd:d[0]? with
  | none=>rw [List.getElem?_eq_none_iff] at hd;omega
  | some x =>
    rw [Option.bind_some]
    by_cases h2:x=⟨0,0⟩
    · rw [if_neg (by simp [h2]),zGa (by simp [h2]) rfl,zEM hl,Option.bind_some]
      show (bif (zFR d != 0) then some (zFR d) else _)=_
      by_cases h3:zFR d≠0
      · rw [if_pos h3,qA h3];rfl
      · rw [if_neg h3,t8 (by omega),cond_false,zAm (l:=l) (fun n i=>kE 281474976710656 d l n i) (snF d) hm]
        · rw [Option.bind_some];first | (unfold nO;split<;>simp_all) | (unfold uz;split<;>simp_all) | (split<;>simp_all)
        · intro n i hi
          show uD _ _ _ _ _=_
          unfold uD
          rw [yU (by omega),cond_false]
        · intro n i x r hd hi
          show uD _ _ _ _ _=_
          unfold uD
          rw [y5 (by omega),cond_true,xL hd,Option.bind_some,w6 (by omega),zHf hl,Option.bind_some]
          unfold snF
          by_cases h:zF2 d x≠0
          · rw [if_pos h,qA h];rfl
          · rw [if_neg h,t8 (by omega)];rfl
    · rw [if_pos (by simpa using h2),zEo (by simpa using h2) rfl]
def thF (l:List zP) (i:Nat) (t:zP):Option Int:=if zCE t≠0 then some (zCE t) else if t.Id∈(l.take i).map (·.Id) then some 4 else none
def doF (d:List zL) (_:Nat) (t:zP):Option Int:=if nO (idP t.Domain) d≥0 then none else some 5
def zAd (h:zR):Int :=
  if h.Threads.length=0 then 8 else if h.Threads.length>64 then 7 else
  match xV (thF h.Threads) 0 h.Threads with
  | .inr q=>q
  | .inl _=>if zCS h.Domains h.Snaps≠0 then zCS h.Domains h.Snaps else uz (xV (doF h.Domains) 0 h.Threads)

theorem zGx {h:zR} (hl:h.Threads.length≤100000):∀ (n i:Nat) (row:List (Int×Bool)),zKf row ((h.Threads.take i).map (·.Id))→(h.Threads.drop i).length<n →
    j9 281474976710656 h n (i:Nat) row=some (xV (thF h.Threads) i (h.Threads.drop i)):=by
  intro n
  induction n with
  | zero=>intro i row _ h;omega
  | succ n ih =>
    intro i row hs hn
    show qK _ _ _ _ _=_
    unfold qK
    rcases hd:h.Threads.drop i with _ | ⟨x,r⟩
    · have:=v5 hd
      rw [yU (by omega),cond_false];rfl
    · have hi:=uR hd
      rw [hd] at hn
      simp only [List.length_cons] at hn
      rw [y5 (by omega),cond_true,xL hd,Option.bind_some,zDK,Option.bind_some,w6 (by omega)]
      simp only [xV,thF]
      by_cases h1:zCE x≠0
      · rw [if_pos h1,qA h1];rfl
      · rw [if_neg h1,t8 (by omega),cond_false,hs.2]
        by_cases h2:x.Id∈(h.Threads.take i).map (·.Id)
        · rw [if_pos h2,y5 h2];rfl
        · have hlen:=hs.1
          simp only [List.length_map,List.length_take] at hlen
          rw [if_neg h2,yU h2,cond_false,jN (by omega),Option.bind_some,ih (i+1) _ ?_ (by rw [wM hd];omega),wM hd]
          rw [vT hd,List.map_append]
          exact zMs hs x.Id
theorem zH8 {h:zR} (hl:h.Threads.length≤100000) (hd:h.Domains.length≤100000) (hs:h.Snaps.length≤100000):zBd 281474976710656 h=some (zAd h):=by
  unfold zBd zAd
  by_cases h0:h.Threads.length=0
  · rw [if_pos h0,v6 (by omega)];rfl
  rw [if_neg h0,t9 (by omega),cond_false]
  by_cases h1:h.Threads.length>64
  · rw [if_pos h1,y5 (by omega)];rfl
  rw [if_neg h1,yU (by omega),cond_false,show j9 281474976710656 h 281474976710656 (0:Int) []=_ from zGx hl 281474976710656 0 [] (by simpa using zML) (by simp;omega),Option.bind_some,List.drop_zero]
  cases xV (thF h.Threads) 0 h.Threads with
  | inr q=>rfl
  | inl u =>
    simp only
    rw [zGf hd hs,Option.bind_some]
    by_cases h2:zCS h.Domains h.Snaps≠0
    · rw [if_pos h2,qA h2];rfl
    · rw [if_neg h2]
      have h2:zCS h.Domains h.Snaps=0:=by omega
      rw [h2]
      show Option.bind (kG 281474976710656 h 281474976710656 0) _=_
      rw [zAm (l:=h.Threads) (fun n i=>kG 281474976710656 h n i) (doF h.Domains) hl]
      · rw [Option.bind_some];first | (unfold nO;split<;>simp_all) | (unfold uz;split<;>simp_all) | (split<;>simp_all)
      · intro n i hi
        show uT _ _ _ _=_
        unfold uT
        rw [yU (by omega),cond_false]
      · intro n i x r hx hi
        show uT _ _ _ _=_
        unfold uT
        rw [y5 (by omega),cond_true,xL hx,Option.bind_some,w6 (by omega)]
        unfold xU doF
        rw [zLB hd,Option.bind_some,Option.bind_some]
        by_cases h3:nO (idP x.Domain) h.Domains≥0
        · rw [if_pos h3,y5 h3];rfl
        · rw [if_neg h3,yU h3];rfl
end Go.Ab
