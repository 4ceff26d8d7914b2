/- Plain laws of the functions w8 this seat's, laid anew from another seat's text. No conditions but those that the theorems name. -/
import Derived.Test.YtoeengmnmhhpgaaGreatP15zxD
import Derived.Test.YtoeengmnmhhpgaaGreatA35
import Derived.Test.YtoeengmnmhhpgaaGreatC15y
namespace Go.Ab
open Go
set_option linter.unusedVariables false
def t6:List Int:=[95,46,58,47,60,62,36,42,126,45]
def jY (c:Int):Bool:=decide (97≤c∧c≤122)||decide (65≤c∧c≤90)||decide (48≤c∧c≤57)||t6.contains c
def kZ {α:Type} [DecidableEq α] (s:α):Nat→List α→Int
  | _,[] => -1
  | i,x::r=>if x=s then (i:Int) else kZ s (i+1) r
theorem QM {α:Type} [DecidableEq α] (s:α):∀ (l:List α) (i:Nat),(kZ s i l = -1∧s∉l)∨∃ j,l[j]?=some s∧kZ s i l=((i+j:Nat):Int):=by
  intro l
  induction l with
  | nil=>intro i;exact .inl ⟨rfl,by simp⟩
  | cons x r ih =>
    intro i
    unfold kZ
    by_cases h:x=s
    · exact .inr ⟨0,by simp [h],by simp [h]⟩
    · rw [if_neg h]
      rcases ih (i+1) with ⟨h1,h2⟩ | ⟨j,h1,h2⟩
      · exact .inl ⟨h1,by simp [h2,Ne.symm h]⟩
      · exact .inr ⟨j+1,by simpa using h1,by rw [h2];omega⟩
def qY (s:List Int):Int:=if s=[]∨40<s.length then 3 else if s.all jY then 0 else 3

/-- A loop that goes through a list and stops at the first that is bad. -/
theorem H8 {α R:Type} {l:List α} (L:Nat→Int→Option (Unit⊕R)) (f:Nat→α→Option R)
    (h0:∀ n i,l.length≤i→L (n+1) (i:Nat)=some (.inl ()))
    (h1:∀ n i x r,l.drop i=x::r→i<l.length→(∀ b,f i x=some b→L (n+1) (i:Nat)=some (.inr b))∧(f i x=none→L (n+1) (i:Nat)=L n ((i+1:Nat):Int)))
    {n:Nat} (hn:l.length<n):L n 0=some (vS f 0 l):=by
  have:=TP (l:=l) (σ:=Unit) (fun n i _=>L n i) (fun i r _=>vS f i r) (fun _ _=>True) (fun n i _ hi _=>h0 n i hi) ?_ (n:=n) (s:=()) trivial hn
  · exact this
  · intro n i _ x r hd hlt _ ih
    obtain ⟨k1,k2⟩:=h1 n i x r hd hlt
    simp only [vS]
    cases hf:f i x with
    | none=>rw [k2 hf];exact ih () trivial
    | some b=>rw [k1 b hf]
theorem RV {α:Type} (p:α→Bool):∀ (l:List α) (i:Nat),vS (fun _ x=>if p x then some true else none) i l=if l.any p then .inr true else .inl ():=by
  intro l
  induction l with
  | nil=>intro i;rfl
  | cons x r ih =>
    intro i
    simp only [vS]
    by_cases hp:p x=true
    · have ea:(x::r).any p=true:=by simp [hp]
      rw [if_pos hp,if_pos ea]
    · have ea:(x::r).any p=r.any p:=by simp [hp]
      rw [if_neg hp,ih (i+1),ea]
theorem SG {c:Int}:nS 281474976710656 c 281474976710656 0=some (if t6.contains c then .inr true else .inl ()):=by
  have:=H8 (l:=t6) (nS 281474976710656 c) (fun _ x=>if x==c then some true else none) ?_ ?_ (n:=281474976710656) (by show 10<281474976710656;omega)
  · rw [this,RV (fun x=>x==c)]
    have e:t6.any (fun x=>x==c)=t6.contains c:=by
      rw [List.contains_eq_any_beq];congr 1;funext x;exact BEq.comm
    rw [e]
  · intro n i hi
    show aG 281474976710656 c _ _=_
    unfold aG
    change t6.length≤i at hi
    have h10:t6.length=10:=rfl
    rw [wV (by rw [show ([95,46,58,47,60,62,36,42,126,45]:List Int)=t6 from rfl];omega),cond_false]
  · intro n i x r hd hlt
    have h10:t6.length=10:=rfl
    have e:nS 281474976710656 c (n+1) (i:Nat)=(bif (x==c) then some (.inr true) else nS 281474976710656 c n ((i+1:Nat):Int)):=by
      show aG 281474976710656 c _ _=_
      unfold aG
      rw [show ([95,46,58,47,60,62,36,42,126,45]:List Int)=t6 from rfl,wM (by omega),cond_true,qF hd,zbs,qV (by omega)]
    rw [e]
    constructor
    · intro b hb
      by_cases hx:(x==c)=true
      · rw [if_pos hx] at hb;injection hb with hb;subst hb;rw [hx];rfl
      · rw [if_neg hx] at hb;cases hb
    · intro hb
      by_cases hx:(x==c)=true
      · rw [if_pos hx] at hb;cases hb
      · rw [Bool.not_eq_true] at hx;rw [hx];rfl
theorem VC (c:Int):∀ l:List Int, -1≤tD l c∧decide (tD l c≥0)=l.contains c:=by
  intro l
  induction l with
  | nil=>simp [tD]
  | cons b l ih =>
    unfold tD
    rw [List.contains_cons]
    by_cases h:b=c
    · rw [if_pos h];subst h;simp
    · rw [if_neg h]
      have hb:(c==b)=false:=by simpa using Ne.symm h
      rw [hb,Bool.false_or]
      by_cases h2:tD l c = -1
      · rw [if_pos h2]
        have:=ih.2;rw [h2] at this
        exact ⟨by omega,this⟩
      · rw [if_neg h2]
        refine ⟨by omega,?_⟩
        rw [← ih.2]
        have:=ih.1
        rw [wM (by omega),wM (by omega)]
theorem U5 {c:Int}:decide (tD t6 c≥0)=t6.contains c:=(VC c t6).2
theorem VT {c:Int}:gK c=some (jY c):=by
  unfold gK j5 l9
  have h:=U5 (c:=c)
  unfold t6 at h
  unfold jY t6
  simp only [zbs,h]
  by_cases c1:c≥97<;>by_cases c2:c≤122<;>by_cases c3:c≥65<;>by_cases c4:c≤90<;>by_cases c5:c≥48<;>by_cases c6:c≤57<;>simp [c1,c2,c3,c4,c5,c6]<;>omega
theorem VS {c:Int}:iY 281474976710656 c=some (jY c):=by
  unfold iY
  rw [SG]
  unfold jY
  by_cases hs:t6.contains c=true
  · rw [if_pos hs]
    simp only [hs,Bool.or_true,zbs]
    cases (bif decide (c≥(97:Int)) then (decide (c≤(122:Int))||(bif decide (c≥(65:Int)) then (decide (c≤(90:Int))||(decide (c≥(48:Int))&&decide (c≤(57:Int)))) else (decide (c≥(48:Int))&&decide (c≤(57:Int))))) else (bif decide (c≥(65:Int)) then (decide (c≤(90:Int))||(decide (c≥(48:Int))&&decide (c≤(57:Int)))) else (decide (c≥(48:Int))&&decide (c≤(57:Int)))))<;>rfl
  · rw [if_neg hs]
    rw [Bool.not_eq_true] at hs
    simp only [hs,Bool.or_false,zbs]
    by_cases c1:c≥97<;>by_cases c2:c≤122<;>by_cases c3:c≥65<;>by_cases c4:c≤90<;>by_cases c5:c≥48<;>by_cases c6:c≤57<;>simp [c1,c2,c3,c4,c5,c6]<;>omega
theorem TB {α R:Type} (p:α→Bool) (v:R):∀ (l:List α) (i:Nat),vS (fun _ x=>if p x=false then some v else none) i l=if l.all p=true then .inl () else .inr v:=by
  intro l
  induction l with
  | nil=>intro i;rfl
  | cons x r ih =>
    intro i
    simp only [vS]
    by_cases hp:p x=false
    · have ea:¬(x::r).all p=true:=by simp [hp]
      rw [if_pos hp,if_neg ea]
    · have ea:(x::r).all p=r.all p:=by simp at hp;simp [hp]
      rw [if_neg hp,ih (i+1),ea]
theorem JT {l:List Int} (L:Nat→Int→Option (Unit⊕Int)) (hl:l.length≤40)
    (e:∀ n i,L (n+1) (i:Nat)=bif decide (((i:Nat):Int)<((l.length:Nat):Int)) then (xA l (i:Nat)).bind fun c=>(bif !(jY c) then some (.inr (3:Int)) else L n (zI ((i:Nat)+(1:Int)))) else some (.inl ())) :
    L 281474976710656 0=some (if l.all jY=true then .inl () else .inr 3):=by
  have:=H8 (l:=l) L (fun _ x=>if jY x=false then some 3 else none) ?_ ?_ (n:=281474976710656) (by omega)
  · rw [this,TB]
  · intro n i hi
    rw [e,wV (by omega),cond_false]
  · intro n i x r hd hlt
    rw [e,wM (by omega),cond_true,qF hd,zbs,qV (by omega)]
    cases jY x<;>simp
theorem TJ {l:List Int}:pN 281474976710656 l=some (qY l):=by
  unfold pN qY
  by_cases h:l=[]∨40<l.length
  · have:((l==([]:List Int))||decide ((((l).length:Nat):Int)>(40:Int)))=true:=by
      rcases h with h | h
      · rw [h];rfl
      · rw [wM (p:=((l.length:Nat):Int)>40) (by omega),Bool.or_true]
    rw [this,cond_true,if_pos h]
  · have:((l==([]:List Int))||decide ((((l).length:Nat):Int)>(40:Int)))=false:=by
      have hb:(l==([]:List Int))=false:=by
        cases l with
        | nil=>exact absurd (.inl rfl) h
        | cons a r=>rfl
      rw [hb,wV (by omega)];rfl
    rw [this,cond_false,if_neg h,JT (l:=l) (gL 281474976710656 l) (by omega) (fun n i=>by
      show gZ 281474976710656 l _ _=_
      unfold gZ
      simp only [VT,zbs]),zbs]
    by_cases ha:l.all jY=true
    · rw [if_pos ha,if_pos ha]
    · rw [if_neg ha,if_neg ha]
theorem UL {l:List Int}:dH 281474976710656 l=some (qY l):=by
  unfold dH qY
  by_cases h:l=[]∨40<l.length
  · have:(decide ((((l).length:Nat):Int)<(1:Int))||decide ((((l).length:Nat):Int)>(40:Int)))=true:=by
      rcases h with h | h
      · rw [h];rfl
      · rw [wM (p:=((l.length:Nat):Int)>40) (by omega),Bool.or_true]
    rw [this,cond_true,if_pos h]
  · have hp:0<l.length:=List.length_pos_iff.2 (fun hc=>h (.inl hc))
    have:(decide ((((l).length:Nat):Int)<(1:Int))||decide ((((l).length:Nat):Int)>(40:Int)))=false:=by
      rw [wV (by omega),wV (by omega)];rfl
    rw [this,cond_false,if_neg h,JT (l:=l) (g5 281474976710656 l) (by omega) (fun n i=>by
      show dZ 281474976710656 l _ _=_
      unfold dZ
      simp only [VS,zbs]),zbs]
    by_cases ha:l.all jY=true
    · rw [if_pos ha,if_pos ha]
    · rw [if_neg ha,if_neg ha]
/-- A stack's check. -/
def AN (l:List (List Int)):Int:=if 32<l.length then 7 else if l.all (fun s=>decide (qY s=0)) then 0 else 3
def kI (names:List (List Int)) (s:List Int):Int×List (List Int)×Int :=
  if qY s≠0 then (0,names,qY s) else if kZ s 0 names ≠ -1 then (kZ s 0 names,names,0) else if 1000≤names.length then (0,names,6) else ((names.length:Int),names++[s],0)
/-- PutStack: what the loop does. -/
def cI (names0:List (List Int)) (stacks0:List zX):List (List Int)→Int→List (List Int)→List zX→Int×List (List Int)×List zX×Int
  | [],at_,n,s=>(at_,n,s,0)
  | x::r,at_,n,s =>
    if (kI n x).2.2≠0 then (0,names0,stacks0,(kI n x).2.2) else
    if kZ (⟨at_,(kI n x).1⟩:zX) 0 s ≠ -1 then cI names0 stacks0 r (kZ (⟨at_,(kI n x).1⟩:zX) 0 s) (kI n x).2.1 s else
    if 1000≤s.length then (0,names0,stacks0,6) else cI names0 stacks0 r (s.length:Int) (kI n x).2.1 (s++[⟨at_,(kI n x).1⟩])
def V3 (names:List (List Int)) (stacks:List zX) (l:List (List Int)):Int×List (List Int)×List zX×Int :=
  if AN l≠0 then (0,names,stacks,AN l) else cI names stacks l (-1) names stacks
def n8 (seen:List (List Int)):List (List Int)→Int
  | []=>0
  | x::r=>if qY x≠0 then 3 else if x∈seen then 4 else n8 (seen++[x]) r
def dOf (ds:List Int) (i:Int):Int:=if i = -1 then 0 else (ds[i.toNat]?).getD 0
def DI (st:List zX) (ds:List Int):Prop:=∀ (j:Nat) (d:Int),ds[j]?=some d→∃ p,st[j]?=some p ∧ -1≤p.c0∧p.c0<j∧d=1+dOf ds p.c0∧1≤d∧d≤32
theorem L6 {ds:List Int} {d c:Int} (h:c<ds.length) (h0 : -1≤c):dOf (ds++[d]) c=dOf ds c:=by
  unfold dOf
  split
  · rfl
  · rw [List.getElem?_append_left (by omega)]
theorem DI.range {st:List zX} {ds:List Int} (h:DI st ds) (c:Int):0≤dOf ds c∧dOf ds c≤32:=by
  unfold dOf
  split
  · omega
  · cases hd:ds[c.toNat]? with
    | none=>simp
    | some d=>obtain ⟨p,_,_,_,_,h1,h2⟩:=h _ _ hd;simp;omega
theorem DI.push {st:List zX} {ds:List Int} {p:zX} (h:DI st ds) (hp:st[ds.length]?=some p) (h0 : -1≤p.c0) (h1:p.c0<ds.length) (h2:1+dOf ds p.c0≤32):DI st (ds++[1+dOf ds p.c0]):=by
  intro j d hj
  rcases Nat.lt_or_ge j ds.length with hlt | hge
  · rw [List.getElem?_append_left hlt] at hj
    obtain ⟨q,h3,h4,h5,h6,h7⟩:=h j d hj
    exact ⟨q,h3,h4,h5,by rw [L6 (by omega) h4];exact h6,h7⟩
  · have hj':j=ds.length:=by
      have:=(List.getElem?_eq_some_iff.1 hj).1
      simp at this;omega
    subst hj'
    simp at hj
    subst hj
    have:=h.range p.c0
    exact ⟨p,hp,h0,by omega,by rw [L6 h1 h0],by omega,h2⟩
theorem DI.nil {st:List zX}:DI st []:=fun j d h=>by simp at h
def jI (nn:Nat) (ds:List Int) (seen:List zX):List zX→Int
  | []=>0
  | p::r=>if p.c0 < -1∨p.c0≥seen.length∨p.c1<0∨p.c1≥nn then 2 else if p∈seen then 4 else if 1+dOf ds p.c0>32 then 7 else jI nn (ds++[1+dOf ds p.c0]) (seen++[p]) r
def mX (names:List (List Int)) (l:List zX):Int:=if 1000<names.length∨1000<l.length then 7 else if n8 [] names≠0 then n8 [] names else jI names.length [] [] l
def dsF (l:List zX):List Int:=l.foldl (fun ds p=>ds++[1+dOf ds p.c0]) []
theorem T6:∀ (l:List zX) (ds:List Int),(l.foldl (fun ds p=>ds++[1+dOf ds p.c0]) ds).length=ds.length+l.length:=by
  intro l
  induction l with
  | nil=>intro ds;rfl
  | cons p r ih=>intro ds;rw [List.foldl_cons,ih];simp;omega
theorem i3 (l:List zX):(dsF l).length=l.length:=by simp [dsF,T6]
theorem M0 (l:List zX) (p:zX):dsF (l++[p])=dsF l++[1+dOf (dsF l) p.c0]:=by simp [dsF]
theorem rG:∀ (l seen:List (List Int)),n8 seen l=0↔(∀ x∈l,qY x=0∧x∉seen)∧l.Nodup:=by
  intro l
  induction l with
  | nil=>intro seen;simp [n8]
  | cons x r ih =>
    intro seen
    simp only [n8]
    by_cases h:qY x≠0
    · rw [if_pos h];simp [h]
    rw [if_neg h]
    by_cases h2:x∈seen
    · rw [if_pos h2];simp [h2]
    rw [if_neg h2,ih]
    simp only [List.mem_cons,List.nodup_cons,forall_eq_or_imp,List.mem_append,List.not_mem_nil,or_false,not_or]
    constructor
    · rintro ⟨h3,h4⟩
      exact ⟨⟨⟨by omega,h2⟩,fun y hy=>⟨(h3 y hy).1,(h3 y hy).2.1⟩⟩,fun hx=>(h3 x hx).2.2 rfl,h4⟩
    · rintro ⟨⟨_,h3⟩,h4,h5⟩
      exact ⟨fun y hy=>⟨(h3 y hy).1,(h3 y hy).2,fun e=>h4 (e ▸ hy)⟩,h5⟩
structure AZ (nn k:Nat) (ds:List Int) (seen:List zX) (p:zX):Prop where
  lo : -1≤p.c0
  hi:p.c0<k
  lo1:0≤p.c1
  hi1:p.c1<nn
  new:p∉seen
  deep:1+dOf ds p.c0≤32
theorem GL {nn:Nat}:∀ (r:List zX) (ds:List Int) (seen:List zX) (p:zX),jI nn ds seen (r++[p])=0↔jI nn ds seen r=0∧AZ nn (seen++r).length (r.foldl (fun ds p=>ds++[1+dOf ds p.c0]) ds) (seen++r) p:=by
  intro r
  induction r with
  | nil =>
    intro ds seen p
    simp only [List.nil_append,jI,List.append_nil,List.foldl_nil,true_and]
    constructor
    · intro h
      split at h
      · cases h
      split at h
      · cases h
      split at h
      · cases h
      exact ⟨by omega,by omega,by omega,by omega,by assumption,by omega⟩
    · rintro ⟨h1,h2,h3,h4,h5,h6⟩
      rw [if_neg (by omega),if_neg h5,if_neg (by omega)]
  | cons q r ih =>
    intro ds seen p
    simp only [List.cons_append,jI,List.foldl_cons]
    split
    · simp
    split
    · simp
    split
    · simp
    rw [ih];simp
theorem RM {nn mm:Nat} (h:nn≤mm):∀ (r:List zX) (ds:List Int) (seen:List zX),jI nn ds seen r=0→jI mm ds seen r=0:=by
  intro r
  induction r with
  | nil=>intro ds seen _;rfl
  | cons q r ih =>
    intro ds seen hz
    simp only [jI] at hz ⊢
    split at hz
    · cases hz
    rename_i h1
    rw [if_neg (by omega)]
    split at hz
    · cases hz
    rename_i h2
    rw [if_neg h2]
    split at hz
    · cases hz
    rename_i h3
    rw [if_neg h3]
    exact ih _ _ hz
structure u6 (n:List (List Int)) (s:List zX):Prop where
  n1:n.length≤1000
  s1:s.length≤1000
  names:n8 [] n=0
  st:jI n.length [] [] s=0
theorem u6.nodup {n:List (List Int)} {s:List zX} (h:u6 n s):n.Nodup:=((rG _ _).1 h.names).2
theorem u6.valid {n:List (List Int)} {s:List zX} (h:u6 n s) {x:List Int} (hx:x∈n):qY x=0:=(((rG _ _).1 h.names).1 x hx).1
theorem u6.name {n:List (List Int)} {s:List zX} (h:u6 n s) {x:List Int} (hx:qY x=0) (hn:x∉n) (hl:n.length<1000):u6 (n++[x]) s:=by
  refine ⟨by simp;omega,h.s1,?_,RM (by simp) _ _ _ h.st⟩
  rw [rG]
  have h2:=(rG _ _).1 h.names
  refine ⟨fun y hy=>⟨?_,by simp⟩,?_⟩
  · rcases List.mem_append.1 hy with hy | hy
    · exact h.valid hy
    · simp at hy;rw [hy];exact hx
  · rw [List.nodup_append]
    exact ⟨h.nodup,by simp,fun a ha b hb=>by simp at hb;rw [hb];exact fun e=>hn (e ▸ ha)⟩
theorem u6.push {n:List (List Int)} {s:List zX} {p:zX} (h:u6 n s) (hp:AZ n.length s.length (dsF s) s p) (hl:s.length<1000):u6 n (s++[p]) :=
  ⟨h.n1,by simp;omega,h.names,by rw [GL];exact ⟨h.st,by rw [List.nil_append];exact hp⟩⟩
/-- All pairs of a good table, one after the other. -/
theorem NN {nn:Nat} (s:List zX) (h:jI nn [] [] s=0):∀ (i:Nat),i<s.length→∃ p,s[i]?=some p∧AZ nn i (dsF (s.take i)) (s.take i) p:=by
  intro i hi
  have e:s=s.take i++(s[i]::s.drop (i+1)):=by simp
  have:∀ (m:Nat) (r:List zX),r.length=m→jI nn [] [] (s.take i++s[i]::r)=0→jI nn [] [] (s.take i++[s[i]])=0:=by
    intro m
    induction m with
    | zero=>intro r hr h;rw [List.length_eq_zero_iff.1 hr] at h;exact h
    | succ m ih =>
      intro r hr h
      rcases List.eq_nil_or_concat r with h0 | ⟨r',y,h0⟩
      · rw [h0] at hr;simp at hr
      · rw [h0] at h hr
        simp at hr
        rw [show s.take i++s[i]::r'.concat y=(s.take i++s[i]::r')++[y] by simp] at h
        exact ih r' hr ((GL _ _ _ _).1 h).1
  have h2:=(GL _ _ _ _).1 (this _ _ rfl (by rw [← e];exact h))
  refine ⟨s[i],List.getElem?_eq_getElem hi,?_⟩
  have h3:=h2.2
  simp only [List.nil_append,List.length_take,Nat.min_eq_left (Nat.le_of_lt hi)] at h3
  exact h3
theorem D8 (s:List zX) (i:Nat):dsF (s.take i)=(dsF s).take i:=by
  induction i with
  | zero=>rfl
  | succ i ih =>
    rcases hd:s.drop i with _ | ⟨x,r⟩
    · have:=dG hd
      rw [List.take_of_length_le (by omega),List.take_of_length_le (by rw [i3];omega)]
    · have e:s=s.take i++([x]++r):=by rw [List.singleton_append,← hd,List.take_append_drop]
      have hlt:=a9 hd
      have e2:∃ t,dsF s=dsF (s.take i++[x])++t:=by
        have hg:∀ (r:List zX) (ds:List Int),∃ t,r.foldl (fun ds p=>ds++[1+dOf ds p.c0]) ds=ds++t:=by
          intro r
          induction r with
          | nil=>intro ds;exact ⟨[],by simp⟩
          | cons y r ih2=>intro ds;obtain ⟨t,ht⟩:=ih2 (ds++[1+dOf ds y.c0]);exact ⟨_,by rw [List.foldl_cons,ht,List.append_assoc]⟩
        have:dsF s=r.foldl (fun ds p=>ds++[1+dOf ds p.c0]) (dsF (s.take i++[x])):=by
          have h3:dsF (s.take i++[x]++r)=r.foldl (fun ds p=>ds++[1+dOf ds p.c0]) (dsF (s.take i++[x])):=by unfold dsF;rw [List.foldl_append]
          rwa [List.append_assoc,← e] at h3
        rw [this];exact hg _ _
      obtain ⟨t,ht⟩:=e2
      rw [H0 hd,ht,List.take_append_of_le_length (by simp [i3];omega)]
      exact (List.take_of_length_le (by simp [i3];omega)).symm
theorem HG {ds:List Int} {i:Nat} {c:Int} (h:c<i) (h0 : -1≤c):dOf (ds.take i) c=dOf ds c:=by
  unfold dOf
  split
  · rfl
  · rw [List.getElem?_take_of_lt (by omega)]
theorem u6.pair {n:List (List Int)} {s:List zX} (h:u6 n s) {i:Nat} {p:zX} (hp:s[i]?=some p) :
    -1≤p.c0∧p.c0<i∧0≤p.c1∧p.c1<n.length∧dOf (dsF s) (i:Int)=1+dOf (dsF s) p.c0∧dOf (dsF s) (i:Int)≤32∧p∉s.take i:=by
  have hi:i<s.length:=(List.getElem?_eq_some_iff.1 hp).1
  obtain ⟨q,hq,h1,h2,h3,h4,h5,h6⟩:=NN s h.st i hi
  rw [hp] at hq;injection hq with hq;subst hq
  rw [D8,HG h2 h1] at h6
  have e:dOf (dsF s) (i:Int)=1+dOf (dsF s) p.c0:=by
    have e1:dsF (s.take (i+1))=dsF (s.take i)++[1+dOf (dsF (s.take i)) p.c0]:=by
      rw [List.take_add_one,hp];exact M0 _ _
    have e2:(dsF s)[i]?=some (1+dOf (dsF s) p.c0):=by
      have:((dsF s).take (i+1))[i]?=(dsF s)[i]?:=List.getElem?_take_of_lt (by omega)
      rw [← this,← D8,e1,D8,HG h2 h1]
      have hl:((dsF s).take i).length=i:=by rw [List.length_take,i3];omega
      rw [List.getElem?_append_right (by omega),hl];simp
    unfold dOf
    rw [if_neg (by omega),Int.toNat_natCast,e2];rfl
  exact ⟨h1,h2,h3,h4,e,by omega,h5⟩
theorem u6.snodup {n:List (List Int)} {s:List zX} (h:u6 n s) {i j:Nat} {p:zX} (hi:s[i]?=some p) (hj:s[j]?=some p):i=j:=by
  rcases Nat.lt_trichotomy i j with hlt | he | hlt
  · exact absurd (List.mem_of_getElem? (show (s.take j)[i]?=some p by rw [List.getElem?_take_of_lt hlt];exact hi)) (h.pair hj).2.2.2.2.2.2
  · exact he
  · exact absurd (List.mem_of_getElem? (show (s.take i)[j]?=some p by rw [List.getElem?_take_of_lt hlt];exact hj)) (h.pair hi).2.2.2.2.2.2
theorem u6.depth0 {n:List (List Int)} {s:List zX} (h:u6 n s) {c:Int} (h0 : -1≤c) (h1:c<s.length):0≤dOf (dsF s) c∧dOf (dsF s) c≤32∧(dOf (dsF s) c=0↔c = -1):=by
  have key:∀ (m:Nat) (c:Int),c+1<m → -1≤c→c<s.length→0≤dOf (dsF s) c∧dOf (dsF s) c≤32∧(dOf (dsF s) c=0↔c = -1):=by
    intro m
    induction m with
    | zero=>intro c h1 h2;omega
    | succ m ih =>
      intro c h1 h2 h3
      by_cases hc:c = -1
      · subst hc;simp [dOf]
      · obtain ⟨i,rfl⟩:=Int.eq_ofNat_of_zero_le (show 0≤c by omega)
        have hi:i<s.length:=by omega
        obtain ⟨k1,k2,k3,k4,k5,k6,k7⟩:=h.pair (List.getElem?_eq_getElem hi)
        have:=ih (s[i]).c0 (by omega) k1 (by omega)
        omega
  exact key (c.toNat+3) c (by omega) h0 h1

/-- The names from a stack's last frame back to its first. -/
def kK (n:List (List Int)) (s:List zX):Nat→Int→List (List Int)
  | 0,_=>[]
  | k+1,i=>if i<0 then [] else match s[i.toNat]? with
    | none=>[]
    | some p=>(n[p.c1.toNat]?).getD []::kK n s k p.c0
def TG (n:List (List Int)) (s:List zX) (i:Int):List (List Int)×Int :=
  if mX n s≠0 then ([],1) else if i < -1∨i≥s.length then ([],2) else ((kK n s 32 i).reverse,0)
theorem D9 {α:Type} {l m:List α} (h:l <+: m) {i:Nat} {x:α} (hx:l[i]?=some x):m[i]?=some x:=by
  obtain ⟨t,rfl⟩:=h
  rw [List.getElem?_append_left (List.getElem?_eq_some_iff.1 hx).1];exact hx
def Has (n:List (List Int)) (s:List zX):Int→List (List Int)→Int→Prop
  | at_,[],i=>i=at_
  | at_,x::r,i=>∃ a b:Nat,n[a]?=some x∧s[b]?=some ⟨at_,(a:Int)⟩∧Has n s (b:Int) r i
theorem Has.mono {n n':List (List Int)} {s s':List zX} (hn:n <+: n') (hs:s <+: s'):∀ {l:List (List Int)} {at_ i:Int},Has n s at_ l i→Has n' s' at_ l i:=by
  intro l
  induction l with
  | nil=>intro at_ i h;exact h
  | cons x r ih =>
    rintro at_ i ⟨a,b,h1,h2,h3⟩
    exact ⟨a,b,D9 hn h1,D9 hs h2,ih h3⟩
theorem HI {α:Type} [DecidableEq α] {l:List α} {x:α} (hu:∀ i j:Nat,l[i]?=some x→l[j]?=some x→i=j) {a:Nat} (h:l[a]?=some x):kZ x 0 l=(a:Int):=by
  rcases QM x l 0 with ⟨_,h2⟩ | ⟨j,h1,h2⟩
  · exact absurd (List.mem_of_getElem? h) h2
  · rw [h2,Nat.zero_add,hu _ _ h1 h]
theorem S4 {α:Type} {l:List α} (h:l.Nodup) {x:α}:∀ i j:Nat,l[i]?=some x→l[j]?=some x→i=j:=by
  intro i j hi hj
  obtain ⟨h1,h2⟩:=List.getElem?_eq_some_iff.1 hi
  obtain ⟨h3,h4⟩:=List.getElem?_eq_some_iff.1 hj
  exact (List.getElem_inj h).1 (h2.trans h4.symm)
theorem MP {n0:List (List Int)} {s0:List zX} {n:List (List Int)} {s:List zX} (h:u6 n s):∀ (l:List (List Int)) (at_ i:Int),Has n s at_ l i→cI n0 s0 l at_ n s=(i,n,s,0):=by
  intro l
  induction l with
  | nil=>intro at_ i hi;simp only [Has] at hi;simp only [cI,hi]
  | cons x r ih =>
    rintro at_ i ⟨a,b,h1,h2,h3⟩
    have e:kI n x=((a:Int),n,0):=by
      have hv:=h.valid (List.mem_of_getElem? h1)
      unfold kI
      rw [if_neg (by omega),HI (S4 h.nodup) h1,if_pos (by omega)]
    simp only [cI]
    rw [e]
    simp only
    rw [if_neg (by decide),HI (fun i j hi hj=>h.snodup hi hj) h2,if_pos (by omega)]
    exact ih _ _ h3
theorem Has.fn {n:List (List Int)} {s:List zX} (h:u6 n s):∀ {l:List (List Int)} {at_ i j:Int},Has n s at_ l i→Has n s at_ l j→i=j:=by
  intro l at_ i j h1 h2
  have e1:=MP (n0:=[]) (s0:=[]) h l at_ i h1
  have e2:=MP (n0:=[]) (s0:=[]) h l at_ j h2
  rw [e1] at e2
  exact (Prod.mk.inj e2).1
theorem Has.path {n:List (List Int)} {s:List zX}:∀ {l:List (List Int)} {at_ i:Int} {k:Nat},Has n s at_ l i→kK n s (k+l.length) i=l.reverse++kK n s k at_:=by
  intro l
  induction l with
  | nil=>intro at_ i k h;simp only [Has] at h;simp [h]
  | cons x r ih =>
    rintro at_ i k ⟨a,b,h1,h2,h3⟩
    have:=ih (k:=k+1) h3
    rw [show k+(x::r).length=k+1+r.length by simp only [List.length_cons];omega,this]
    simp only [kK]
    rw [if_neg (by omega),Int.toNat_natCast,h2]
    simp [h1]
theorem VD (n:List (List Int)) (s:List zX) (k:Nat):kK n s k (-1)=[]:=by
  cases k<;>simp [kK]
theorem Has.list {n:List (List Int)} {s:List zX} {l:List (List Int)} {i:Int} (h:Has n s (-1) l i) (hl:l.length≤32):(kK n s 32 i).reverse=l:=by
  have:=Has.path (k:=32 - l.length) h
  rw [Nat.sub_add_cancel hl,VD,List.append_nil] at this
  rw [this,List.reverse_reverse]
theorem Has.names {n:List (List Int)} {s:List zX}:∀ {l:List (List Int)} {at_ i:Int},Has n s at_ l i→∀ x∈l,x∈n:=by
  intro l
  induction l with
  | nil=>intro at_ i _ x hx;cases hx
  | cons y r ih =>
    rintro at_ i ⟨a,b,h1,h2,h3⟩ x hx
    rcases List.mem_cons.1 hx with rfl | hx
    · exact List.mem_of_getElem? h1
    · exact ih h3 x hx
end Go.Ab
