/- Plain laws of the functions w8 this seat's, laid anew from another seat's text. No conditions but those that the theorems name. -/
import Derived.Test.YtoeengmnmhhpgaaGreatP15zxD
import Derived.Test.YtoeengmnmhhpgaaGreatB15za
import Derived.Test.YtoeengmnmhhpgaaGreatB15zb
import Derived.Test.YtoeengmnmhhpgaaGreatB15zc
import Derived.Test.YtoeengmnmhhpgaaGreatB15zd
import Derived.Test.YtoeengmnmhhpgaaGreatB15zt
namespace Go.Ab
open Go
set_option linter.unusedVariables false
/-- A loop that ends at the first that fails. -/
theorem j2 {α β:Type} {l:List α} (L:Nat→Int→Option (Unit⊕β)) (f:Nat→α→Option β) (hl:l.length≤100000)
    (h0:∀ n i,l.length≤i→L (n+1) (i:Nat)=some (.inl ()))
    (h1:∀ n i x r,l.drop i=x::r→i<l.length→L (n+1) (i:Nat)=match f i x with | none=>L n ((i+1:Nat):Int) | some b=>some (.inr b)):L 281474976710656 0=some (vS f 0 l):=by
  have key:∀ (n i:Nat),(l.drop i).length<n→L n (i:Int)=some (vS f i (l.drop i)):=by
    intro n
    induction n with
    | zero=>intro i h;omega
    | succ n ih =>
      intro i hn
      rcases hd:l.drop i with _ | ⟨x,r⟩
      · rw [h0 n i (dG hd)];rfl
      · rw [h1 n i x r hd (a9 hd)]
        rw [hd] at hn
        simp only [List.length_cons] at hn
        simp only [vS]
        cases hf:f i x with
        | none=>simp only;rw [ih (i+1) (by rw [kT hd];omega),kT hd]
        | some b=>rfl
  have:=key 281474976710656 0 (by simp;omega)
  simpa using this

/-- The place of the first that a condition holds of. -/
def vT {α:Type} (p:α→Bool) (l:List α):Int:=match vS (fun i x=>bif p x then some ((i:Nat):Int) else none) 0 l with | .inl _ => -1 | .inr q=>q
theorem KK {α:Type} (p:α→Bool):∀ (l:List α) (i:Nat),(vS (fun i x=>bif p x then some ((i:Nat):Int) else none) i l=.inl ()∧∀ x∈l,p x=false) ∨
    ∃ (j:Nat) (x:α),vS (fun i x=>bif p x then some ((i:Nat):Int) else none) i l=.inr ((i+j:Nat):Int)∧l[j]?=some x∧p x=true∧∀ k y,k<j→l[k]?=some y→p y=false
  | [],i=>.inl ⟨rfl,by simp⟩
  | a::r,i=>by
    simp only [vS]
    cases hp:p a
    · simp only [cond_false]
      rcases KK p r (i+1) with ⟨h1,h2⟩ | ⟨j,x,h1,h2,h3,h4⟩
      · exact .inl ⟨h1,fun x hx=>by rcases List.mem_cons.1 hx with rfl | hx;exact hp;exact h2 x hx⟩
      · refine .inr ⟨j+1,x,by rw [h1];congr 1;omega,by simpa using h2,h3,fun k y hk hy=>?_⟩
        cases k with
        | zero=>simp at hy;subst hy;exact hp
        | succ k=>exact h4 k y (by omega) (by simpa using hy)
    · simp only [cond_true]
      exact .inr ⟨0,a,by simp,rfl,hp,fun k y hk=>by omega⟩
theorem EI {α:Type} (p:α→Bool) (l:List α):(vT p l = -1∧∀ x∈l,p x=false)∨∃ (j:Nat) (x:α),vT p l=(j:Int)∧l[j]?=some x∧p x=true∧∀ k y,k<j→l[k]?=some y→p y=false:=by
  unfold vT
  rcases KK p l 0 with ⟨h1,h2⟩ | ⟨j,x,h1,h2,h3,h4⟩
  · rw [h1];exact .inl ⟨rfl,h2⟩
  · rw [h1];exact .inr ⟨j,x,by simp,h2,h3,h4⟩
theorem V6 {α:Type} (p:α→Bool) (l:List α):vT p l≥0↔∃ x∈l,p x=true:=by
  rcases EI p l with ⟨h1,h2⟩ | ⟨j,x,h1,h2,h3,_⟩
  · rw [h1]
    exact ⟨fun h=>by omega,fun ⟨x,hx,hp⟩=>by rw [h2 x hx] at hp;cases hp⟩
  · rw [h1]
    exact ⟨fun _=>⟨x,List.mem_of_getElem? h2,h3⟩,fun _=>by omega⟩
theorem OR {α:Type} (p:α→Bool) (l:List α) {i:Nat} {x:α} (hi:l[i]?=some x) (hp:p x=true):vT p l<i↔vT p (l.take i)≥0:=by
  rw [V6]
  rcases EI p l with ⟨h1,h2⟩ | ⟨j,y,h1,h2,h3,h4⟩
  · rw [h2 x (List.mem_of_getElem? hi)] at hp;cases hp
  · rw [h1]
    constructor
    · intro h
      exact ⟨y,List.mem_of_getElem? (i:=j) (by rw [List.getElem?_take,if_pos (by omega)];exact h2),h3⟩
    · rintro ⟨z,hz,hpz⟩
      obtain ⟨k,hk⟩:=List.mem_iff_getElem?.1 hz
      rw [List.getElem?_take] at hk
      split at hk
      · rename_i hki
        rcases Nat.lt_or_ge k j with h | h
        · rw [h4 k z h hk] at hpz;cases hpz
        · omega
      · cases hk

def idP (id:Int) (d:yQ):Bool:=d.Id==id
theorem UP {d:List yQ} {id:Int} (hl:d.length≤100000):gF 281474976710656 d id=some (vT (idP id) d):=by
  unfold gF
  rw [j2 (l:=d) (fun n i=>dV 281474976710656 d id n i) (fun i x=>bif idP id x then some ((i:Nat):Int) else none) hl]
  · rw [zbs];first | (unfold vT;split<;>simp_all) | (unfold uz;split<;>simp_all) | (split<;>simp_all)
  · intro n i hi
    show bM _ _ _ _ _=_
    unfold bM
    rw [wV (by omega),cond_false]
  · intro n i x r hd hi
    show bM _ _ _ _ _=_
    unfold bM
    rw [wM (by omega),cond_true,qF hd,zbs,qV (by omega)]
    unfold oB idP
    rw [zbs]
    cases (x.Id==id)<;>rfl
theorem UQ {d:List yQ} {t:y6} (hl:d.length≤100000):gT 281474976710656 d t=some (vT (idP t.Domain) d):=by
  unfold gT
  rw [j2 (l:=d) (fun n i=>fT 281474976710656 d t n i) (fun i x=>bif idP t.Domain x then some ((i:Nat):Int) else none) hl]
  · rw [zbs];first | (unfold vT;split<;>simp_all) | (unfold uz;split<;>simp_all) | (split<;>simp_all)
  · intro n i hi
    show aN _ _ _ _ _=_
    unfold aN
    rw [wV (by omega),cond_false]
  · intro n i x r hd hi
    show aN _ _ _ _ _=_
    unfold aN
    rw [wM (by omega),cond_true,qF hd,zbs,qV (by omega)]
    unfold mG idP
    rw [zbs]
    cases (x.Id==t.Domain)<;>rfl
theorem D3 {d:List yQ} {id:Int} (hl:d.length≤100000):aJ 281474976710656 d id=some (vT (idP id) d):=by
  unfold aJ;rw [UP hl];rfl
theorem oT {d:List yQ} {id:Int} (hl:d.length≤100000):nC 281474976710656 d id=some (vT (idP id) d):=by
  unfold nC
  rw [j2 (l:=d) (fun n i=>fB 281474976710656 d id n i) (fun i x=>bif idP id x then some ((i:Nat):Int) else none) hl]
  · rw [zbs];first | (unfold vT;split<;>simp_all) | (unfold uz;split<;>simp_all) | (split<;>simp_all)
  · intro n i hi
    show aM _ _ _ _ _=_
    unfold aM
    rw [wV (by omega),cond_false]
  · intro n i x r hd hi
    show aM _ _ _ _ _=_
    unfold aM
    rw [wM (by omega),cond_true,qF hd,zbs,qV (by omega)]
    unfold idP
    cases (x.Id==id)<;>rfl

def pT (x:yQ):Prop:=x.Id<0∨x.Id≥8∨x.Ppm<0∨x.Ppm>10000
instance decDomBad {x:yQ}:Decidable (pT x):=inferInstanceAs (Decidable (_∨_))
def kA (d:List yQ) (i:Nat) (x:yQ):Option Int:=if pT x then some 2 else if vT (idP x.Id) (d.take i)≥0 then some 4 else none
theorem S8 {d:List yQ} (hl:d.length≤100000):dO 281474976710656 d=some (match vS (kA d) 0 d with | .inl _=>0 | .inr q=>q):=by
  unfold dO
  rw [j2 (l:=d) (fun n i=>fR 281474976710656 d n i) (kA d) hl]
  · rw [zbs];first | (unfold vT;split<;>simp_all) | (unfold uz;split<;>simp_all) | (split<;>simp_all)
  · intro n i hi
    show aO _ _ _ _=_
    unfold aO
    rw [wV (by omega),cond_false]
  · intro n i x r hd hi
    show aO _ _ _ _=_
    unfold aO
    rw [wM (by omega),cond_true,qF hd,zbs,qV (by omega),t8 (by omega),SY,D3 (by rw [List.length_take];omega)]
    unfold kA
    by_cases h:pT x
    · rw [if_pos h,lR (by simpa [pT] using h) rfl]
    · rw [if_neg h,lO (by unfold pT at h;simp;omega) rfl,zbs,zbs]
      by_cases h2:vT (idP x.Id) (d.take i)≥0
      · rw [if_pos h2,wM h2];rfl
      · rw [if_neg h2,wV h2];rfl

def qN (n:Int):Bool:=decide (n≥0)&&decide (n≤1000000000000)
def nJ (d:List yQ) (x:y2):Int :=
  if vT (idP x.A) d<0∨vT (idP x.B) d<0 then 5 else if x.A=x.B then 1 else
  if (qN x.AtA&&(qN x.AtB.Lo&&qN x.AtB.Hi))=false∨x.AtB.Lo>x.AtB.Hi then 2 else 0
theorem QU {d:List yQ} {x:y2} (hl:d.length≤100000):g6 281474976710656 d x=some (nJ d x):=by
  unfold g6 nJ dD
  rw [D3 hl,zbs]
  simp only [D3 hl,zbs]
  rw [show (decide (x.AtA≥(0:Int))&&decide (x.AtA≤(1000000000000:Int)))=qN x.AtA from rfl,show (decide (x.AtB.Lo≥(0:Int))&&decide (x.AtB.Lo≤(1000000000000:Int)))=qN x.AtB.Lo from rfl,
    show (decide (x.AtB.Hi≥(0:Int))&&decide (x.AtB.Hi≤(1000000000000:Int)))=qN x.AtB.Hi from rfl]
  generalize vT (idP x.A) d=p
  generalize vT (idP x.B) d=q
  generalize qN x.AtA=r1
  generalize qN x.AtB.Lo=r2
  generalize qN x.AtB.Hi=r3
  by_cases h1:p<0
  · rw [wM h1];simp [h1]
  · rw [wV h1]
    by_cases h2:q<0
    · rw [wM h2];simp [h1,h2]
    · rw [wV h2]
      simp only [cond_false,zbs,h1,h2,or_self,if_false]
      by_cases h3:x.A=x.B
      · rw [nK h3,if_pos h3];rfl
      · rw [aE h3,if_neg h3]
        by_cases h4:x.AtB.Lo>x.AtB.Hi
        · rw [wM h4];cases r1<;>cases r2<;>cases r3<;>simp [h4]
        · rw [wV h4];cases r1<;>cases r2<;>cases r3<;>simp [h4]
theorem OU {d:List yQ} {x:y2} (hl:d.length≤100000):gQ 281474976710656 d x=some (nJ d x):=by
  unfold gQ nJ dC
  rw [oT hl,oT hl]
  simp only [zbs]
  rw [show (decide (x.AtA≥(0:Int))&&decide (x.AtA≤(1000000000000:Int)))=qN x.AtA from rfl,show (decide (x.AtB.Lo≥(0:Int))&&decide (x.AtB.Lo≤(1000000000000:Int)))=qN x.AtB.Lo from rfl,
    show (decide (x.AtB.Hi≥(0:Int))&&decide (x.AtB.Hi≤(1000000000000:Int)))=qN x.AtB.Hi from rfl]
  generalize vT (idP x.A) d=p
  generalize vT (idP x.B) d=q
  generalize qN x.AtA=r1
  generalize qN x.AtB.Lo=r2
  generalize qN x.AtB.Hi=r3
  by_cases h1:p<0
  · rw [wM h1];simp [h1]
  · rw [wV h1]
    by_cases h2:q<0
    · rw [wM h2];simp [h1,h2]
    · rw [wV h2]
      simp only [cond_false,zbs,h1,h2,or_self,if_false]
      by_cases h3:x.A=x.B
      · rw [nK h3,if_pos h3];rfl
      · rw [aE h3,if_neg h3]
        by_cases h4:x.AtB.Lo>x.AtB.Hi
        · rw [wM h4];cases r1<;>cases r2<;>cases r3<;>simp [h4]
        · rw [wV h4];cases r1<;>cases r2<;>cases r3<;>simp [h4]

def snF (d:List yQ) (_:Nat) (x:y2):Option Int:=if nJ d x≠0 then some (nJ d x) else none
def uz (o:Unit⊕Int):Int:=match o with | .inl _=>0 | .inr q=>q
def cA (d:List yQ):Int:=uz (vS (kA d) 0 d)
def qL (d:List yQ) (l:List y2):Int :=
  if d.length=0 then 8 else if d.length>8∨l.length>200 then 7 else if d[0]?≠some ⟨0,0⟩ then 10 else if cA d≠0 then cA d else uz (vS (snF d) 0 l)
theorem RC {d:List yQ} {l:List y2} (hl:d.length≤100000) (hm:l.length≤100000):bD 281474976710656 d l=some (qL d l):=by
  unfold bD qL
  by_cases h0:d.length=0
  · rw [if_pos h0,nK (by omega)];rfl
  rw [if_neg h0,aE (by omega),cond_false]
  by_cases h1:d.length>8∨l.length>200
  · rw [if_pos h1,lR (by simp;omega) rfl]
  rw [if_neg h1,lO (by simp;omega) rfl,show xA d (0:Int)=d[0]? from dY d 0]
  cases hd:d[0]? with
  | none=>rw [List.getElem?_eq_none_iff] at hd;omega
  | some x =>
    rw [zbs]
    by_cases h2:x=⟨0,0⟩
    · rw [if_neg (by simp [h2]),lO (by simp [h2]) rfl,S8 hl,zbs]
      show (bif (cA d != 0) then some (cA d) else _)=_
      by_cases h3:cA d≠0
      · rw [if_pos h3,pD h3];rfl
      · rw [if_neg h3,n6 (by omega),cond_false,j2 (l:=l) (fun n i=>d4 281474976710656 d l n i) (snF d) hm]
        · rw [zbs];first | (unfold vT;split<;>simp_all) | (unfold uz;split<;>simp_all) | (split<;>simp_all)
        · intro n i hi
          show bK _ _ _ _ _=_
          unfold bK
          rw [wV (by omega),cond_false]
        · intro n i x r hd hi
          show bK _ _ _ _ _=_
          unfold bK
          rw [wM (by omega),cond_true,qF hd,zbs,qV (by omega),QU hl,zbs]
          unfold snF
          by_cases h:nJ d x≠0
          · rw [if_pos h,pD h];rfl
          · rw [if_neg h,n6 (by omega)];rfl
    · rw [if_pos (by simpa using h2),lR (by simpa using h2) rfl]
theorem LC {d:List yQ} {l:List y2} (hl:d.length≤100000) (hm:l.length≤100000):cJ 281474976710656 d l=some (qL d l):=by
  unfold cJ qL
  by_cases h0:d.length=0
  · rw [if_pos h0,nK (by omega)];rfl
  rw [if_neg h0,aE (by omega),cond_false]
  by_cases h1:d.length>8∨l.length>200
  · rw [if_pos h1,lR (by simp;omega) rfl]
  rw [if_neg h1,lO (by simp;omega) rfl,show xA d (0:Int)=d[0]? from dY d 0]
  cases hd:d[0]? with
  | none=>rw [List.getElem?_eq_none_iff] at hd;omega
  | some x =>
    simp only [zbs]
    by_cases h2:x=⟨0,0⟩
    · rw [if_neg (by simp [h2])]
      subst h2
      simp only [bne_self_eq_false,cond_false,zbs]
      rw [j2 (l:=d) (fun n i=>fZ 281474976710656 d n i) (kA d) hl]
      · rw [zbs]
        unfold cA
        cases hq:vS (kA d) 0 d with
        | inr q =>
          have hq0:q≠0:=by
            have:∀ (i:Nat) (m:List yQ) q,vS (kA d) i m=.inr q→q≠0:=by
              intro i m
              induction m generalizing i with
              | nil=>intro q h;cases h
              | cons a r ih =>
                intro q h
                simp only [vS] at h
                cases hf:kA d i a with
                | none=>rw [hf] at h;exact ih _ _ h
                | some b =>
                  rw [hf] at h;injection h with h;subst h
                  unfold kA at hf
                  split at hf
                  · injection hf with hf;omega
                  · split at hf
                    · injection hf with hf;omega
                    · cases hf
            exact this _ _ _ hq
          simp [uz,hq0]
        | inl u =>
          simp only [uz,ne_eq,not_true_eq_false,if_false]
          rw [j2 (l:=l) (fun n i=>f8 281474976710656 d l n i) (snF d) hm]
          · rw [zbs];first | (unfold vT;split<;>simp_all) | (unfold uz;split<;>simp_all) | (split<;>simp_all)
          · intro n i hi
            show n4 _ _ _ _ _=_
            unfold n4
            rw [wV (by omega),cond_false]
          · intro n i x r hd hi
            show n4 _ _ _ _ _=_
            unfold n4
            rw [wM (by omega),cond_true,qF hd,zbs,qV (by omega),OU hl,zbs]
            unfold snF
            by_cases h:nJ d x≠0
            · rw [if_pos h,pD h];rfl
            · rw [if_neg h,n6 (by omega)];rfl
      · intro n i hi
        show aB _ _ _ _=_
        unfold aB
        rw [wV (by omega),cond_false]
      · intro n i x r hd hi
        show aB _ _ _ _=_
        unfold aB
        rw [wM (by omega),cond_true,qF hd,qV (by omega)]
        simp only [zbs,oT hl]
        unfold kA
        have hb:(bif decide (x.Id<0) then some true else bif decide (x.Id≥8) then some true else bif decide (x.Ppm<0) then some true else some (decide (x.Ppm>10000)))=some (decide (pT x)):=by
          unfold pT
          by_cases k1:x.Id<0
          · simp [k1]
          · by_cases k2:x.Id≥8
            · simp [k1,k2]
            · by_cases k3:x.Ppm<0
              · simp [k1,k2,k3]
              · simp [k1,k2,k3]
        rw [hb,zbs]
        by_cases h:pT x
        · rw [if_pos h,wM h];rfl
        · rw [if_neg h,wV h,cond_false]
          have:=OR (idP x.Id) d (MA hd) (by simp [idP])
          by_cases h2:vT (idP x.Id) (d.take i)≥0
          · rw [if_pos h2,wM (this.2 h2)];rfl
          · rw [if_neg h2,wV (fun h=>h2 (this.1 h))];rfl
    · have hx:(bif (x.Id != 0) then some true else some (x.Ppm != 0))=some true:=by
        by_cases k1:x.Id=0
        · by_cases k2:x.Ppm=0
          · exact absurd (by cases x;simp_all) h2
          · rw [n6 k1,pD k2];rfl
        · rw [pD k1];rfl
      rw [if_pos (by simpa using h2),hx,zbs];rfl

theorem W2 {d:List yQ} {l:List y2} (h:qL d l=0):qL d []=0:=by
  unfold qL at *
  split at h
  · omega
  rename_i h0
  split at h
  · omega
  rename_i h1
  split at h
  · omega
  rename_i h2
  split at h
  · rename_i h3;exact absurd h h3
  rename_i h3
  rw [if_neg h0,if_neg (by simp only [List.length_nil];omega),if_neg h2,if_neg h3];rfl
theorem RL {d:List yQ} {id:Int} (hl:d.length≤100000) (hc:qL d []=0):∃ q,fY 281474976710656 d id=some (q,decide (vT (idP id) d≥0)):=by
  unfold fY
  rw [oT hl,zbs,LC hl (by simp),zbs,n6 hc,cond_false,zbs]
  rcases EI (idP id) d with ⟨h1,_⟩ | ⟨j,x,h1,h2,_⟩
  · rw [h1];exact ⟨0,rfl⟩
  · rw [h1,wV (by omega),cond_false,dY,h2]
    exact ⟨x.Ppm,by rw [wM (by omega)];rfl⟩

def thF (l:List y6) (i:Nat) (t:y6):Option Int:=if nG t≠0 then some (nG t) else if t.Id∈(l.take i).map (·.Id) then some 4 else none
def doF (d:List yQ) (_:Nat) (t:y6):Option Int:=if vT (idP t.Domain) d≥0 then none else some 5
def rW (h:z6):Int :=
  if h.Threads.length=0 then 8 else if h.Threads.length>64 then 7 else
  match vS (thF h.Threads) 0 h.Threads with
  | .inr q=>q
  | .inl _=>if qL h.Domains h.Snaps≠0 then qL h.Domains h.Snaps else uz (vS (doF h.Domains) 0 h.Threads)

theorem UF {h:z6} (hl:h.Threads.length≤100000):∀ (n i:Nat) (row:List (Int×Bool)),rO row ((h.Threads.take i).map (·.Id))→(h.Threads.drop i).length<n →
    b7 281474976710656 h n (i:Nat) row=some (vS (thF h.Threads) i (h.Threads.drop i)):=by
  intro n
  induction n with
  | zero=>intro i row _ h;omega
  | succ n ih =>
    intro i row hs hn
    show iE _ _ _ _ _=_
    unfold iE
    rcases hd:h.Threads.drop i with _ | ⟨x,r⟩
    · have:=dG hd
      rw [wV (by omega),cond_false];rfl
    · have hi:=a9 hd
      rw [hd] at hn
      simp only [List.length_cons] at hn
      rw [wM (by omega),cond_true,qF hd,zbs,VE,zbs,qV (by omega)]
      simp only [vS,thF]
      by_cases h1:nG x≠0
      · rw [if_pos h1,pD h1];rfl
      · rw [if_neg h1,n6 (by omega),cond_false,hs.2]
        by_cases h2:x.Id∈(h.Threads.take i).map (·.Id)
        · rw [if_pos h2,wM h2];rfl
        · have hlen:=hs.1
          simp only [List.length_map,List.length_take] at hlen
          rw [if_neg h2,wV h2,cond_false,t8 (by omega),zbs,ih (i+1) _ ?_ (by rw [kT hd];omega),kT hd]
          rw [H0 hd,List.map_append]
          exact QL hs x.Id
theorem RK {h:z6} (hl:h.Threads.length≤100000) (hd:h.Domains.length≤100000) (hs:h.Snaps.length≤100000):aV 281474976710656 h=some (rW h):=by
  unfold aV rW
  by_cases h0:h.Threads.length=0
  · rw [if_pos h0,nK (by omega)];rfl
  rw [if_neg h0,aE (by omega),cond_false]
  by_cases h1:h.Threads.length>64
  · rw [if_pos h1,wM (by omega)];rfl
  rw [if_neg h1,wV (by omega),cond_false,show b7 281474976710656 h 281474976710656 (0:Int) []=_ from UF hl 281474976710656 0 [] (by simpa using OK) (by simp;omega),zbs,List.drop_zero]
  cases vS (thF h.Threads) 0 h.Threads with
  | inr q=>rfl
  | inl u =>
    simp only
    rw [RC hd hs,zbs]
    by_cases h2:qL h.Domains h.Snaps≠0
    · rw [if_pos h2,pD h2];rfl
    · rw [if_neg h2]
      have h2:qL h.Domains h.Snaps=0:=by omega
      rw [h2]
      show Option.bind (dF 281474976710656 h 281474976710656 0) _=_
      rw [j2 (l:=h.Threads) (fun n i=>dF 281474976710656 h n i) (doF h.Domains) hl]
      · rw [zbs];first | (unfold vT;split<;>simp_all) | (unfold uz;split<;>simp_all) | (split<;>simp_all)
      · intro n i hi
        show bJ _ _ _ _=_
        unfold bJ
        rw [wV (by omega),cond_false]
      · intro n i x r hx hi
        show bJ _ _ _ _=_
        unfold bJ
        rw [wM (by omega),cond_true,qF hx,zbs,qV (by omega)]
        unfold oZ doF
        rw [UQ hd,zbs,zbs]
        by_cases h3:vT (idP x.Domain) h.Domains≥0
        · rw [if_pos h3,wM h3];rfl
        · rw [if_neg h3,wV h3];rfl
theorem V7 {h:z6} {i:Nat} {x:y6} {r:List y6} (hl:h.Threads.length≤100000) (hd:h.Threads.drop i=x::r) :
    cC 281474976710656 h (i:Nat) 281474976710656 0=some (if x.Id∈(h.Threads.take i).map (·.Id) then .inr 4 else .inl ()):=by
  have hi:=a9 hd
  rw [j2 (l:=h.Threads.take i) (fun n k=>cC 281474976710656 h (i:Nat) n k) (fun _ y=>if y.Id=x.Id then some 4 else none) (by rw [List.length_take];omega)]
  · congr 1
    split
    · rename_i hm
      obtain ⟨y,hy,hyx⟩:=List.mem_map.1 hm
      have:∀ (m:List y6) (k:Nat),y∈m→vS (fun (_:Nat) (y:y6)=>if y.Id=x.Id then some (4:Int) else none) k m=.inr 4:=by
        intro m
        induction m with
        | nil=>intro k h;cases h
        | cons a m ih =>
          intro k h
          simp only [vS]
          by_cases ha:a.Id=x.Id
          · rw [if_pos ha]
          · rw [if_neg ha]
            rcases List.mem_cons.1 h with rfl | h
            · exact absurd hyx ha
            · exact ih _ h
      exact this _ _ hy
    · rename_i hm
      refine XC fun j y hj=>?_
      rw [if_neg]
      intro he
      exact hm (List.mem_map.2 ⟨y,List.mem_of_getElem? hj,he⟩)
  · intro n k hk
    rw [List.length_take] at hk
    show aY _ _ _ _ _=_
    unfold aY
    rw [wV (by omega),cond_false]
  · intro n k y r2 hk hlt
    rw [List.length_take] at hlt
    show aY _ _ _ _ _=_
    unfold aY
    have hy:h.Threads[k]?=some y:=by
      have:=MA hk
      rw [List.getElem?_take] at this
      split at this
      · exact this
      · cases this
    rw [wM (by omega),cond_true,dY,hy,zbs,qF hd,zbs,qV (by omega)]
    by_cases he:y.Id=x.Id
    · rw [nK he,if_pos he];rfl
    · rw [aE he,if_neg he];rfl
theorem OH {h:z6} (hl:h.Threads.length≤100000) (hd:h.Domains.length≤100000) (hs:h.Snaps.length≤100000):fW 281474976710656 h=some (rW h):=by
  unfold fW rW
  by_cases h0:h.Threads.length=0
  · rw [if_pos h0,nK (by omega)];rfl
  rw [if_neg h0,aE (by omega),cond_false]
  by_cases h1:h.Threads.length>64
  · rw [if_pos h1,wM (by omega)];rfl
  rw [if_neg h1,wV (by omega),cond_false,j2 (l:=h.Threads) (fun n i=>d7 281474976710656 h n i) (thF h.Threads) hl]
  · rw [zbs]
    cases vS (thF h.Threads) 0 h.Threads with
    | inr q=>rfl
    | inl u =>
      simp only
      rw [LC hd hs,zbs]
      by_cases h2:qL h.Domains h.Snaps≠0
      · rw [if_pos h2,pD h2];rfl
      · rw [if_neg h2]
        have h2:qL h.Domains h.Snaps=0:=by omega
        rw [h2]
        show Option.bind (cZ 281474976710656 h 281474976710656 0) _=_
        rw [j2 (l:=h.Threads) (fun n i=>cZ 281474976710656 h n i) (doF h.Domains) hl]
        · rw [zbs];first | (unfold vT;split<;>simp_all) | (unfold uz;split<;>simp_all) | (split<;>simp_all)
        · intro n i hi
          show aC _ _ _ _=_
          unfold aC
          rw [wV (by omega),cond_false]
        · intro n i x r hx hi
          show aC _ _ _ _=_
          unfold aC doF
          obtain ⟨q,hq⟩:=RL (id:=x.Domain) hd (W2 h2)
          rw [wM (by omega),cond_true,qF hx,zbs,qV (by omega),hq,zbs]
          by_cases h3:vT (idP x.Domain) h.Domains≥0
          · rw [if_pos h3,wM h3];rfl
          · rw [if_neg h3,wV h3];rfl
  · intro n i hi
    show aX _ _ _ _=_
    unfold aX
    rw [wV (by omega),cond_false]
  · intro n i x r hx hi
    show aX _ _ _ _=_
    unfold aX thF
    rw [wM (by omega),cond_true,qF hx,zbs,qV (by omega),Q4,zbs]
    by_cases h2:nG x≠0
    · rw [if_pos h2,pD h2];rfl
    · rw [if_neg h2,n6 (by omega),cond_false,V7 hl hx,zbs]
      by_cases h3:x.Id∈(h.Threads.take i).map (·.Id)
      · rw [if_pos h3,if_pos h3]
      · rw [if_neg h3,if_neg h3]
end Go.Ab
