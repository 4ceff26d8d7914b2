/- Producers: what the functions compute. -/
import Derived.Test.YtdpgdpjoemdkjaaB10g
import Derived.Test.YtdpgdpjoemdkjaaB10j
import Derived.Test.YtdpgdpjoemdkjaaB10k
namespace Go.Ab
open Go
set_option linter.unusedVariables false
theorem zPC {n:List (List Int)} {s:List zO} {b:List Int}:(uZ n s b).1.Stack.length≤32:=by
 unfold uZ
 split
 ·simp [ev0]
 split
 ·simp [ev0]
 split
 ·simp [ev0]
 split
 ·simp [ev0]
 split
 ·simp [ev0]
 ·exact zOd
theorem zRn {r:zW} (h:wO r):∀ b∈(y7 r).1,zAx b:=by
 intro b hb
 by_cases hz:(y7 r).2=0
 ·obtain ⟨_,g,he,_⟩:=j9 hz
  exact (zHz (nF h.1) he).2 b hb
 ·unfold y7 at hz hb
  split at hb
  ·cases hb
  rename_i h1
  split at hb
  ·cases hb
  rename_i h2
  rw [if_neg h1,if_neg h2] at hz
  simp only at hz hb
  split at hb
  ·cases hb
  ·rename_i h3
   rw [if_neg h3] at hz
   exact absurd rfl hz
def j6 (n:List (List Int)) (s:List zO):List (List Int)→List zL×Bool
 | []=>([],true)
 | b::r=>if (uZ n s b).2.2≠0∨(uZ n s b).2.1≠(b.length:Int) then ([],false) else if (j6 n s r).2=true then ((uZ n s b).1::(j6 n s r).1,true) else ([],false)
def evO (row:List zL) (q:List zL×Bool):List zL⊕(List zL×Bool):=if q.2=true then .inl (row++q.1) else .inr ([],false)
theorem zIt (n:List (List Int)) (s:List zO) (l:List (List Int)) (h:(j6 n s l).2≠true):j6 n s l=([],false):=by
 cases l with
 | nil=>exact absurd rfl h
 | cons b r =>
  unfold j6 at h ⊢
  split
  ·rfl
  split
  ·rename_i h1 h2;rw [if_neg h1,if_pos h2] at h;exact absurd rfl h
  ·rfl
theorem zMC (n:List (List Int)) (s:List zO):∀ l:List (List Int),(j6 n s l).1.length≤l.length∧∀ e∈(j6 n s l).1,e.Stack.length≤32:=by
 intro l
 induction l with
 | nil=>simp [j6]
 | cons b r ih =>
  unfold j6
  split
  ·simp
  split
  ·refine ⟨by simp;exact ih.1,fun e he=>?_⟩
   rcases List.mem_cons.1 he with rfl | he
   ·exact zPC
   ·exact ih.2 e he
  ·simp
theorem zQT {n:List (List Int)} {s:List zO}:∀ l:List (List Int),(∀ b∈l,zAx b)→∀ e∈(j6 n s l).1,evS e=0:=by
 intro l
 induction l with
 | nil=>intro _ e he;cases he
 | cons b r ih =>
  intro hb e he
  unfold j6 at he
  split at he
  ·cases he
  rename_i h1
  split at he
  ·rcases List.mem_cons.1 he with rfl | he
   ·obtain ⟨_,L,hc,_⟩:=zMK (hb b (by simp)).2 (show (uZ n s b).2.2=0 by omega)
    exact hc.1
   ·exact ih (fun x hx=>hb x (by simp [hx])) e he
  ·cases he
theorem zGd {p:zK} {q:List (List Int)×zW} (hb:∀ b∈q.1,zAx b) (hl:q.1.length≤100000):∀ (n i:Nat) (row:List zL),(q.1.drop i).length<n→row.length≤i →
  kI 200000 p q n (i:Nat) row=some (evO row (j6 p.Names p.Stacks (q.1.drop i))):=by
 intro n
 induction n with
 | zero=>intro i row h;omega
 | succ n ih =>
  intro i row hn hr
  show tS _ _ _ _ _ _=_
  unfold tS
  rcases hd:q.1.drop i with _ | ⟨x,r⟩
  ·have:=qK hd
   rw [yF (by omega),cond_false];simp [evO,j6]
  have hlt:=jJ hd
  have hx:=hb x (zEJ hd)
  rw [hd] at hn
  simp only [List.length_cons] at hn
  have hx1:=hx.1
  rw [yR (by omega),cond_true,xZ hd,zbs,zHM hx.2 (by omega),zbs]
  unfold j6
  by_cases hc:(uZ p.Names p.Stacks x).2.2≠0∨(uZ p.Names p.Stacks x).2.1≠(x.length:Int)
  ·rw [show ((uZ p.Names p.Stacks x).2.2 != 0||(uZ p.Names p.Stacks x).2.1 != (x.length:Int))=true by simpa using hc,cond_true,if_pos hc];rfl
  rw [show ((uZ p.Names p.Stacks x).2.2 != 0||(uZ p.Names p.Stacks x).2.1 != (x.length:Int))=false by simpa using hc,cond_false,if_neg hc,xA (by simp;omega),zbs,vK (by omega),ih (i+1) _ (by rw [w8 hd];omega) (by simp;omega),w8 hd]
  unfold evO
  by_cases h2:(j6 p.Names p.Stacks r).2=true
  ·rw [if_pos h2,if_pos h2,if_pos rfl];simp
  ·rw [if_neg h2,if_neg h2,if_neg (by simp)]
theorem zJl {p:zK} {q:List (List Int)×zW} (hb:∀ b∈q.1,zAx b) (hl:q.1.length≤100000):∀ (n i:Nat) (row:List zL),(q.1.drop i).length<n→row.length≤i →
  zAH 200000 p q n (i:Nat) row=some (evO row (j6 p.Names p.Stacks (q.1.drop i))):=by
 intro n
 induction n with
 | zero=>intro i row h;omega
 | succ n ih =>
  intro i row hn hr
  show kA _ _ _ _ _ _=_
  unfold kA
  rcases hd:q.1.drop i with _ | ⟨x,r⟩
  ·have:=qK hd
   rw [yF (by omega),cond_false];simp [evO,j6]
  have hlt:=jJ hd
  have hx:=hb x (zEJ hd)
  rw [hd] at hn
  simp only [List.length_cons] at hn
  have hx1:=hx.1
  rw [yR (by omega),cond_true,xZ hd,zbs,zKy hx.2 (by omega),zbs]
  have ec:(bif ((uZ p.Names p.Stacks x).2.2 != 0) then some true else (some x).bind fun x_2=>some ((uZ p.Names p.Stacks x).2.1 != (((x_2).length:Nat):Int)):Option Bool)=some ((uZ p.Names p.Stacks x).2.2 != 0||(uZ p.Names p.Stacks x).2.1 != (x.length:Int)):=by
   cases ((uZ p.Names p.Stacks x).2.2 != 0)<;>rfl
  rw [ec,zbs]
  unfold j6
  by_cases hc:(uZ p.Names p.Stacks x).2.2≠0∨(uZ p.Names p.Stacks x).2.1≠(x.length:Int)
  ·rw [show ((uZ p.Names p.Stacks x).2.2 != 0||(uZ p.Names p.Stacks x).2.1 != (x.length:Int))=true by simpa using hc,cond_true,if_pos hc];rfl
  rw [show ((uZ p.Names p.Stacks x).2.2 != 0||(uZ p.Names p.Stacks x).2.1 != (x.length:Int))=false by simpa using hc,cond_false,if_neg hc,xA (by simp;omega),zbs,vK (by omega),ih (i+1) _ (by rw [w8 hd];omega) (by simp;omega),w8 hd]
  unfold evO
  by_cases h2:(j6 p.Names p.Stacks r).2=true
  ·rw [if_pos h2,if_pos h2,if_pos rfl];simp
  ·rw [if_neg h2,if_neg h2,if_neg (by simp)]
theorem zPN {r:zW}:(uR r).1=(y7 r).1∨(uR r).1=[]:=by
 unfold uR;split
 ·exact .inr rfl
 ·exact .inl rfl
theorem zEP {r:zW} (h:wO r):(∀ b∈(uR r).1,zAx b)∧(uR r).1.length≤65536:=by
 rcases zPN (r:=r) with e | e
 ·rw [e];exact ⟨zRn h,zFf h.1⟩
 ·rw [e];exact ⟨fun b hb=>(by cases hb),by simp⟩
def evP (p:zK):List zL×Bool:=j6 p.Names p.Stacks (uR p.Ring).1
theorem zNW {X:Option (List zL⊕(List zL×Bool))} {q:List zL×Bool} (h:X=some (evO [] q)) (hq:q.2≠true→q=([],false)):(X.bind fun o_1=>(match o_1 with
 | (.inl q_1)=>some (q_1,true)
 | (.inr q_2)=>some q_2))=some q:=by
 rw [h,zbs]
 unfold evO
 by_cases h2:q.2=true
 ·rw [if_pos h2];simp only [List.nil_append];rw [← h2]
 ·rw [if_neg h2];simp only;rw [hq h2]
theorem zGH {p:zK} (h:wO p.Ring):nK 200000 p=some (evP p):=by
 unfold nK
 have ht:=zEP h
 rw [zGC h,zbs]
 exact zNW (by unfold evP;simpa using zGd (p:=p) (q:=uR p.Ring) ht.1 (by omega) 200000 0 [] (by simp;omega) (by simp)) (zIt _ _ _)
theorem zGk {p:zK} (h:wO p.Ring):zBy 200000 p=some (evP p):=by
 unfold zBy
 have ht:=zEP h
 rw [zFq h,zbs]
 exact zNW (by unfold evP;simpa using zJl (p:=p) (q:=uR p.Ring) ht.1 (by omega) 200000 0 [] (by simp;omega) (by simp)) (zIt _ _ _)
theorem zJ7 {p:zK} (h:wO p.Ring):(evP p).1.length≤65536∧(∀ e∈(evP p).1,e.Stack.length≤32)∧∀ e∈(evP p).1,evS e=0:=by
 have h1:=zMC p.Names p.Stacks (uR p.Ring).1
 have h2:=zEP h
 exact ⟨by unfold evP;omega,h1.2,zQT _ h2.1⟩
def srt:Int→List zL→Bool
 | _,[]=>true
 | a,e::r=>decide (e.At≥a)&&srt e.At r
def u7:Int→List zL→Int
 | a,[]=>a
 | _,e::r=>u7 e.At r
theorem zMg:∀ {l:List zL} {a:Int},srt a l=true→a≤u7 a l:=by
 intro l
 induction l with
 | nil=>intro a _;exact Int.le_refl a
 | cons e r ih =>
  intro a h
  unfold srt at h
  rw [Bool.and_eq_true,decide_eq_true_eq] at h
  have:=ih h.2
  unfold u7;omega
theorem zLl {q:List zL×Bool} (hl:q.1.length≤100000):∀ (n i:Nat) (ok:Bool) (last:Int),(q.1.drop i).length<n→qB 200000 q n ok last (i:Nat)=some (ok&&srt last (q.1.drop i),u7 last (q.1.drop i)):=by
 intro n
 induction n with
 | zero=>intro i ok last h;omega
 | succ n ih =>
  intro i ok last hn
  show tH _ _ _ _ _ _=_
  unfold tH
  rcases hd:q.1.drop i with _ | ⟨x,r⟩
  ·have:=qK hd
   rw [yF (by omega),cond_false];simp [srt,u7]
  have hlt:=jJ hd
  rw [hd] at hn
  simp only [List.length_cons] at hn
  rw [yR (by omega),cond_true,xZ hd,zbs,vK (by omega),ih (i+1) _ _ (by rw [w8 hd];omega),w8 hd]
  simp only [srt,u7,Bool.and_assoc]
def nD (p:zK):Prop:=p.Sent<0∨p.Sent>p.Ring.First∨p.Last<0∨p.Last>1000000000000
instance decRngBad {p:zK}:Decidable (nD p):=inferInstanceAs (Decidable (_∨_))
theorem zLX {p:zK}:(decide (p.Sent<(0:Int))||(decide (p.Sent>p.Ring.First)||(decide (p.Last<(0:Int))||decide (p.Last>(1000000000000:Int)))))=decide (nD p):=by
 by_cases h:nD p
 ·rw [yR h];unfold nD at h;simpa using h
 ·rw [yF h];unfold nD at h;simp;omega
def pI (p:zK):Prop:=(evP p).2=false∨srt 0 (evP p).1=false∨u7 0 (evP p).1>p.Last
instance decFormBad {p:zK}:Decidable (pI p):=inferInstanceAs (Decidable (_∨_))
def vO (p:zK):List zL×Int :=
 if nW p.Thread≠0 then ([],nW p.Thread) else if uA p.Names p.Stacks≠0 then ([],uA p.Names p.Stacks) else if (y7 p.Ring).2≠0 then ([],(y7 p.Ring).2) else
 if nD p then ([],2) else if pI p then ([],10) else ((evP p).1,0)
theorem zDc {p:zK} (h:wO p.Ring):j5 200000 p=some (vO p):=by
 unfold j5 vO
 rw [zGv,zbs]
 by_cases h1:nW p.Thread≠0
 ·rw [xQ h1,if_pos h1];rfl
 rw [xE (by omega),cond_false,if_neg h1,zA5,zbs]
 by_cases h2:uA p.Names p.Stacks≠0
 ·rw [xQ h2,if_pos h2];rfl
 rw [xE (by omega),cond_false,if_neg h2,zKK h,zbs]
 by_cases h3:(y7 p.Ring).2≠0
 ·rw [xQ h3,if_pos h3];rfl
 rw [xE (by omega),cond_false,if_neg h3,zLX]
 by_cases h4:nD p
 ·rw [yR h4,if_pos h4];rfl
 have hl:=zJ7 h
 rw [yF h4,cond_false,if_neg h4,zGH h,zbs,show qB 200000 (evP p) 200000 (evP p).2 0 0=_ from zLl (by omega) 200000 0 _ 0 (by simp;omega),zbs,List.drop_zero]
 simp only
 have ec:(!((evP p).2&&srt 0 (evP p).1)||decide (u7 0 (evP p).1>p.Last))=decide (pI p):=by
  by_cases h5:pI p
  ·rw [yR h5];unfold pI at h5
   rcases h5 with e | e | e
   ·rw [e];rfl
   ·rw [e];simp
   ·rw [yR e];simp
  ·rw [yF h5];unfold pI at h5
   have e1:(evP p).2=true:=by cases hx:(evP p).2<;>simp_all
   have e2:srt 0 (evP p).1=true:=by cases hx:srt 0 (evP p).1<;>simp_all
   rw [e1,e2,yF (by omega)];rfl
 rw [ec]
 by_cases h5:pI p
 ·rw [yR h5,if_pos h5];rfl
 ·rw [yF h5,if_neg h5];rfl
theorem zBJ {p:zK} (h:wO p.Ring):jZ 200000 p=some (vO p).2:=by
 unfold jZ
 rw [zDc h,zbs]
def okR (m:Int):Option Int→List zL→Bool
 | _,[]=>true
 | pr,e::r=>decide (e.At≤m)&&((pr.all fun a=>decide (a≤e.At))&&okR m (some e.At) r)
theorem zQL {m:Int}:∀ {l:List zL} {a:Int},a≤m→okR m (some a) l=(srt a l&&decide (u7 a l≤m)):=by
 intro l
 induction l with
 | nil=>intro a h;simp [okR,srt,u7,h]
 | cons e r ih =>
  intro a h
  unfold okR srt u7
  by_cases h1:e.At≤m
  ·rw [ih h1,yR h1];simp only [Option.all_some,Bool.true_and,Bool.and_assoc,ge_iff_le]
  ·rw [yF h1,Bool.false_and]
   cases hs:srt e.At r
   ·simp
   ·have:=zMg hs
    rw [yF (p:=u7 e.At r≤m) (by omega)];simp
theorem zQs {m:Int} (hm:0≤m) {l:List zL} (h:∀ e∈l,0≤e.At):okR m none l=(srt 0 l&&decide (u7 0 l≤m)):=by
 cases l with
 | nil=>simp [okR,srt,u7,hm]
 | cons e r =>
  unfold okR srt u7
  have h0:=h e (by simp)
  by_cases h1:e.At≤m
  ·rw [zQL h1,yR h1,yR (p:=e.At≥0) h0];simp only [Option.all_none,Bool.true_and]
  ·rw [yF h1,Bool.false_and]
   cases hs:srt e.At r
   ·simp
   ·have:=zMg hs
    rw [yF (p:=u7 e.At r≤m) (by omega)];simp
theorem zJM {p:zK} {q:List zL×Bool} (hl:q.1.length≤100000):∀ (n i:Nat),(q.1.drop i).length<n→n6 200000 p q n (i:Nat)=some (bif okR p.Last (if i=0 then none else (q.1[i - 1]?).map (·.At)) (q.1.drop i) then .inl () else .inr 10):=by
 intro n
 induction n with
 | zero=>intro i h;omega
 | succ n ih =>
  intro i hn
  show pD _ _ _ _ _=_
  unfold pD
  rcases hd:q.1.drop i with _ | ⟨x,r⟩
  ·have:=qK hd
   rw [yF (by omega),cond_false];rfl
  have hlt:=jJ hd
  rw [hd] at hn
  simp only [List.length_cons] at hn
  rw [yR (by omega),cond_true,xZ hd,zbs]
  unfold okR
  have hi:=ih (i+1) (by rw [w8 hd];omega)
  rw [if_neg (show ¬ i+1=0 by omega),w8 hd,Nat.add_sub_cancel,zIf hd] at hi
  by_cases h1:x.At>p.Last
  ·rw [yR h1,cond_true,zbs,cond_true,yF (p:=x.At≤p.Last) (by omega),Bool.false_and,cond_false]
  rw [yF h1,cond_false,yR (p:=x.At≤p.Last) (by omega),Bool.true_and]
  by_cases h0:i=0
  ·rw [yF (p:=(i:Int)>0) (by omega),cond_false,zbs,cond_false,vK (by omega),hi,if_pos h0];rfl
  ·rw [yR (p:=(i:Int)>0) (by omega),cond_true,zbs,zPA (by omega) (by omega),if_neg h0]
   have hm:i - 1<q.1.length:=by omega
   rw [List.getElem?_eq_getElem hm,zbs,zbs]
   simp only [Option.map_some,Option.all_some]
   by_cases h2:x.At<(q.1[i - 1]).At
   ·rw [yR h2,cond_true,yF (p:=(q.1[i - 1]).At≤x.At) (by omega),Bool.false_and,cond_false]
   ·rw [yF h2,cond_false,yR (p:=(q.1[i - 1]).At≤x.At) (by omega),Bool.true_and,vK (by omega),hi];rfl
theorem zCQ {p:zK} (h:wO p.Ring):zAn 200000 p=some (vO p).2:=by
 unfold zAn vO
 rw [zKJ,zbs]
 by_cases h1:nW p.Thread≠0
 ·rw [zCm h1,cond_false,zbs,zCm h1,cond_false,zbs,xQ h1,if_pos h1];rfl
 rw [kL (show nW p.Thread=0 by omega),cond_true,if_neg h1,zCT,zbs,zbs]
 show ((bif uA p.Names p.Stacks==0 then _ else some (uA p.Names p.Stacks)).bind _)=_
 by_cases h2:uA p.Names p.Stacks≠0
 ·rw [zCm h2,cond_false,zbs,xQ h2,if_pos h2];rfl
 rw [kL (show uA p.Names p.Stacks=0 by omega),cond_true,if_neg h2,zC5 h,zbs,zbs]
 by_cases h3:(y7 p.Ring).2≠0
 ·rw [xQ h3,if_pos h3];rfl
 rw [xE (by omega),cond_false,if_neg h3,zLX]
 by_cases h4:nD p
 ·rw [yR h4,if_pos h4];rfl
 have hl:=zJ7 h
 rw [yF h4,cond_false,if_neg h4,zGk h,zbs]
 by_cases h6:(evP p).2=true
 ·rw [h6,Bool.not_true,cond_false,show n6 200000 p (evP p) 200000 0=_ from zJM (by omega) 200000 0 (by simp;omega),zbs,if_pos rfl,List.drop_zero]
  have h0:0≤p.Last:=by unfold nD at h4;omega
  rw [zQs h0 (fun e he=>by have:=zDf (hl.2.2 e he);omega)]
  by_cases h5:pI p
  ·rw [if_pos h5]
   unfold pI at h5
   have:(srt 0 (evP p).1&&decide (u7 0 (evP p).1≤p.Last))=false:=by
    rcases h5 with e | e | e
    ·rw [h6] at e;cases e
    ·rw [e];rfl
    ·rw [yF (by omega),Bool.and_false]
   rw [this,cond_false]
  ·rw [if_neg h5]
   unfold pI at h5
   have e2:srt 0 (evP p).1=true:=by cases hx:srt 0 (evP p).1<;>simp_all
   rw [e2,yR (by omega),Bool.and_self,cond_true]
 ·have h7:(evP p).2=false:=by cases hx:(evP p).2<;>simp_all
  rw [h7,Bool.not_false,cond_true,if_pos (show pI p from .inl h7)]
def zGL (id first lost:Int) (l:List zL):List z5:=if l.length=0 then [] else [⟨id,first,lost,l⟩]
theorem zN4 {a b:Int} (h:a≤b):wS a b=a:=by unfold wS;rw [if_neg (by omega)]
theorem zOl {p:zK} {l:List zL} {a b:Int} (hl:l.length≤1000) (h0:0≤a) (h1:a≤1000000000000000):tV 200000 p 200000 l a b []=some (zGL p.Thread.Id a b l):=by
 unfold zGL
 obtain ⟨g,hg⟩:∃ g,200000=g+2:=⟨199998,rfl⟩
 have stop:∀ K n a b row,tV K p (n+1) [] a b row=some row:=fun K n a b row=>by
  show vZ _ _ _ _ _ _ _=_
  unfold vZ
  rw [yF (by simp),cond_false]
 suffices h:∀ K,tV K p (g+2) l a b []=some (if l.length=0 then [] else [⟨p.Thread.Id,a,b,l⟩]) by rw [← hg] at h;exact h _
 intro K
 by_cases hz:l.length=0
 ·rw [List.length_eq_zero_iff.1 hz];exact stop K (g+1) a b []
 ·rw [if_neg hz]
  show vZ _ _ _ _ _ _ _=_
  unfold vZ
  rw [yR (by omega),cond_true,zN4 (show (l.length:Int)≤1000 by omega),xA (by omega),zbs,xA (by simp),zbs,zbs,zG0,Int.toNat_natCast,List.drop_length,show sub l 0 (l.length:Int)=l by simp [sub]]
  exact stop K g _ _ _
theorem zNz {p:zK} {q:List zL×Bool} (hl:q.1.length≤1000) (h0:0≤p.Ring.First) (h1:p.Ring.First≤1000000000000000) (h2:0≤p.Sent):nV 200000 p q 200000 0 []=some (zGL p.Thread.Id p.Ring.First (zI (p.Ring.First - p.Sent)) q.1):=by
 unfold zGL
 obtain ⟨g,hg⟩:∃ g,200000=g+2:=⟨199998,rfl⟩
 suffices h:∀ K,nV K p q (g+2) 0 []=some (if q.1.length=0 then [] else [⟨p.Thread.Id,p.Ring.First,zI (p.Ring.First - p.Sent),q.1⟩]) by rw [← hg] at h;exact h _
 intro K
 show tU _ _ _ _ _ _=_
 unfold tU
 by_cases hz:q.1.length=0
 ·rw [if_pos hz,yF (by omega),cond_false]
 ·rw [if_neg hz,yR (by omega),cond_true,kL rfl,cond_true,zbs,show zI ((0:Int)+1000)=1000 from rfl,zN4 (show (q.1.length:Int)≤1000 by omega),xA (by omega),zbs,xA (by simp),zbs,zbs,Int.add_zero,w64 (x:=p.Ring.First) (by omega) (by omega),show sub q.1 0 (q.1.length:Int)=q.1 by simp [sub]]
  show tU _ _ _ _ _ _=_
  unfold tU
  rw [yF (by omega),cond_false];rfl
def zDy (p:zK):List z5×zK :=
 if (vO p).2≠0 then ([],p) else (zGL p.Thread.Id p.Ring.First (zI (p.Ring.First - p.Sent)) (vO p).1,⟨p.Thread,p.Names,p.Stacks,(uR p.Ring).2,p.Last,(uR p.Ring).2.Next⟩)
theorem zAs {p:zK} (h:(vO p).2=0):nW p.Thread=0∧vW p.Names p.Stacks∧(y7 p.Ring).2=0∧¬ nD p∧(evP p).2=true∧srt 0 (evP p).1=true∧u7 0 (evP p).1≤p.Last∧(vO p).1=(evP p).1:=by
 unfold vO at h ⊢
 split at h
 ·rename_i h1;exact absurd h h1
 rename_i h1
 split at h
 ·rename_i h2;exact absurd h h2
 rename_i h2
 split at h
 ·rename_i h3;exact absurd h h3
 rename_i h3
 split at h
 ·cases h
 rename_i h4
 split at h
 ·cases h
 rename_i h5
 rw [if_neg h1,if_neg h2,if_neg h3,if_neg h4,if_neg h5]
 unfold pI at h5
 refine ⟨by omega,zCq.1 (by omega),by omega,h4,?_,?_,by omega,rfl⟩
 ·cases hx:(evP p).2<;>simp_all
 ·cases hx:srt 0 (evP p).1<;>simp_all
theorem zN3 {p:zK} (h1:nW p.Thread=0) (h2:vW p.Names p.Stacks) (h3:(y7 p.Ring).2=0) (h4:¬ nD p) (h5:(evP p).2=true) (h6:srt 0 (evP p).1=true) (h7:u7 0 (evP p).1≤p.Last):vO p=((evP p).1,0):=by
 unfold vO
 have:=zCq.2 h2
 rw [if_neg (by omega),if_neg (by omega),if_neg (by omega),if_neg h4,if_neg]
 unfold pI
 rw [h5,h6];simp;omega
theorem zPe {r:zW} (h:wO r) (hz:(y7 r).2=0):(y7 r).1.length≤r.Data.length:=by
 obtain ⟨_,g,he,_⟩:=j9 hz
 have hb:=nF h.1
 have:=zMh (vL r).length (vL r) hb (by
  unfold qU at he
  split at he
  ·rename_i hx;exact hx
  ·exact absurd (congrArg Prod.snd he) (by simp))
 have h2:(y7 r).1=(recs (vL r).length (vL r)).1:=by
  unfold qU at he
  split at he
  ·rw [he]
  ·exact absurd (congrArg Prod.snd he) (by simp)
 rw [nM] at this h2
 have h3:=zEr g
 rw [h2];omega
theorem zKd {p:zK} (h:wO p.Ring) (hz:(vO p).2=0):(vO p).1.length≤p.Ring.Data.length:=by
 obtain ⟨_,_,h3,_,_,_,_,h8⟩:=zAs hz
 have h1:=(zMC p.Names p.Stacks (uR p.Ring).1).1
 have h2:=zPe h h3
 have h4:(uR p.Ring).1=(y7 p.Ring).1:=by unfold uR;rw [if_neg (by omega)]
 rw [h4] at h1
 rw [h8];unfold evP;rw [h4];omega
theorem zDX {p:zK} (hz:(vO p).2=0):0≤p.Sent∧p.Sent≤p.Ring.First∧p.Ring.First≤p.Ring.Next∧p.Ring.Next≤1000000000000000∧0≤p.Last∧p.Last≤1000000000000:=by
 obtain ⟨_,_,h3,h4,_⟩:=zAs hz
 have g:=zHX (j9 h3).2.1
 unfold nD at h4
 unfold j4 at g
 omega
theorem zHh {p:zK} (h:wO p.Ring) (hd:p.Ring.Data.length≤1000):j2 200000 p=some (zDy p):=by
 unfold j2 zDy
 rw [zDc h,zbs]
 by_cases hz:(vO p).2≠0
 ·rw [xQ hz,if_pos hz];rfl
 have hf:=zDX (show (vO p).2=0 by omega)
 have hc:=zKd h (show (vO p).2=0 by omega)
 rw [xE (by omega),cond_false,if_neg hz,zOl (by omega) (by omega) (by omega),zbs,zGC h,zbs]
theorem zMR {p:zK} (h:wO p.Ring) (hd:p.Ring.Data.length≤1000):zDP 200000 p=some (zDy p):=by
 unfold zDP zDy
 rw [zCQ h,zbs]
 by_cases hz:(vO p).2≠0
 ·rw [xQ hz,if_pos hz];rfl
 have hf:=zDX (show (vO p).2=0 by omega)
 have hc:=zKd h (show (vO p).2=0 by omega)
 have he:=(zAs (show (vO p).2=0 by omega)).2.2.2.2.2.2.2
 rw [he] at hc
 rw [xE (by omega),cond_false,if_neg hz,zGk h,zbs,zNz (by omega) (by omega) (by omega) (by omega),zbs,zFq h,zbs,he]
def zK7 (p:zK):Int:=if (vO p).2≠0 then 0 else zI (p.Ring.First - p.Sent)
theorem zIg {p:zK} (h:wO p.Ring):p8 200000 p=some (zK7 p):=by
 unfold p8 zK7
 rw [zBJ h,zbs]
 by_cases hz:(vO p).2≠0
 ·rw [xQ hz,if_pos hz];rfl
 ·rw [xE (by omega),if_neg hz];rfl
theorem zNo {p:zK} (h:wO p.Ring):zEB 200000 p=some (zK7 p):=by
 unfold zEB zK7
 rw [zCQ h,zbs]
 by_cases hz:(vO p).2≠0
 ·rw [xQ hz,if_pos hz];rfl
 ·rw [xE (by omega),if_neg hz];rfl
def pr0:zK:=⟨⟨0,[],0⟩,[],[],⟨0,[],0,0,0,0⟩,0,0⟩
def zBE (p:zK) (e:zL):zK×Int :=
 if (vO p).2≠0 then (pr0,(vO p).2) else if evS e≠0 then (pr0,evS e) else if e.At<p.Last then (pr0,11) else
 if (vA p.Names p.Stacks e).2.2.2≠0 then (pr0,(vA p.Names p.Stacks e).2.2.2) else if (qX p.Ring (vA p.Names p.Stacks e).1).2.2≠0 then (pr0,(qX p.Ring (vA p.Names p.Stacks e).1).2.2) else
 (⟨p.Thread,(vA p.Names p.Stacks e).2.1,(vA p.Names p.Stacks e).2.2.1,(qX p.Ring (vA p.Names p.Stacks e).1).1,e.At,p.Sent⟩,0)
theorem zJu {n:List (List Int)} {s:List zO} {e:zL} (h:(vA n s e).2.2.2=0):(vA n s e).1.length≤50∧∀ x∈(vA n s e).1,x4 x:=by
 rcases zFU (n:=n) (s:=s) (e:=e) with ⟨h1,_⟩ | ⟨_,g,g2,_,_,L,hL,hc⟩
 ·exact absurd h h1
 ·have:=zQC g2 hc
  rw [hL];exact ⟨this.2.2,this.1⟩
theorem zHl {p:zK} {e:zL} (h:wO p.Ring):tJ 200000 p e=some (zBE p e):=by
 unfold tJ zBE
 rw [zBJ h,zbs]
 by_cases h1:(vO p).2≠0
 ·rw [xQ h1,if_pos h1];rfl
 have hg:=(zAs (show (vO p).2=0 by omega)).2.1
 have hn:=hg.n1
 have hs:=hg.s1
 rw [xE (by omega),cond_false,if_neg h1,zDr,zbs]
 by_cases h2:evS e≠0
 ·rw [xQ h2,if_pos h2];rfl
 rw [xE (by omega),cond_false,if_neg h2]
 by_cases h3:e.At<p.Last
 ·rw [yR h3,if_pos h3];rfl
 rw [yF h3,cond_false,if_neg h3,zHW (by omega) (by omega),zbs]
 by_cases h4:(vA p.Names p.Stacks e).2.2.2≠0
 ·rw [xQ h4,if_pos h4];rfl
 have hl:=zJu (show (vA p.Names p.Stacks e).2.2.2=0 by omega)
 rw [xE (by omega),cond_false,if_neg h4,zNv h (by omega),zbs]
 by_cases h5:(qX p.Ring (vA p.Names p.Stacks e).1).2.2≠0
 ·rw [xQ h5,if_pos h5];rfl
 ·rw [xE (by omega),if_neg h5];rfl
theorem zLo {p:zK} {e:zL} (h:wO p.Ring):zDO 200000 p e=some (zBE p e):=by
 unfold zDO zBE
 rw [zCQ h,zbs]
 by_cases h1:(vO p).2≠0
 ·rw [zCm h1,cond_false,zbs,zCm h1,Bool.false_and,cond_false,zbs,xQ h1,if_pos h1];rfl
 have hg:=(zAs (show (vO p).2=0 by omega)).2.1
 have hn:=hg.n1
 have hs:=hg.s1
 rw [kL (show (vO p).2=0 by omega),cond_true,if_neg h1,zEE,zbs,zbs]
 by_cases h2:evS e≠0
 ·rw [zCm h2,Bool.false_and,cond_false,zbs,xQ h2,if_pos h2];rfl
 rw [kL (show evS e=0 by omega),Bool.true_and,if_neg h2]
 by_cases h3:e.At<p.Last
 ·rw [yR h3,if_pos h3];rfl
 rw [yF h3,cond_false,zbs,xE (show evS e=0 by omega),cond_false,if_neg h3,zK0 (by omega) (by omega),zbs]
 by_cases h4:(vA p.Names p.Stacks e).2.2.2≠0
 ·rw [xQ h4,if_pos h4];rfl
 have hl:=zJu (show (vA p.Names p.Stacks e).2.2.2=0 by omega)
 rw [xE (by omega),cond_false,if_neg h4,zOa h (by omega),zbs]
 by_cases h5:(qX p.Ring (vA p.Names p.Stacks e).1).2.2≠0
 ·rw [xQ h5,if_pos h5];rfl
 ·rw [xE (by omega),if_neg h5];rfl
structure PB (p:zK):Prop where
 ring:wO p.Ring
 names:p.Names.length≤100000
 stacks:p.Stacks.length≤100000
theorem zGq {p:zK} (h:PB p):zDw 200000 p p=some true:=by
 unfold zDw
 have ht:=zEP h.ring
 rw [yR rfl,Bool.not_true,cond_false,zJy h.names,zbs,Bool.not_true,cond_false,zIx h.stacks,zbs,Bool.not_true,cond_false,xE rfl,xE rfl,cond_false,zbs,cond_false,xE rfl,xE rfl,xE rfl,xE rfl,xE rfl,xE rfl]
 simp only [Bool.or_self,cond_false]
 rw [zFq h.ring,zbs,zbs,xE rfl,cond_false]
 rw [zAu (l:=(uR p.Ring).1) (zCk 200000 (uR p.Ring) (uR p.Ring)) (fun _ _=>none) (fun n i hi=>by
  show qN _ _ _ _ _=_
  unfold qN
  rw [yF (by omega),cond_false]) (fun n i x r hd hlt=>by
  refine ⟨fun b hb=>(by cases hb),fun _=>?_⟩
  show qN _ _ _ _ _=_
  unfold qN
  rw [yR (by omega),cond_true,xZ hd,zbs,zbs,BEq.rfl,Bool.not_true,cond_false,vK (by omega)]) (by omega),zBj (fun _ _ _=>rfl),zbs]
theorem zIo {l:List zL} (hl:l.length≤100000) (hs:∀ e∈l,e.Stack.length≤100000):zCc 200000 l l=some true:=by
 unfold zCc
 rw [xE rfl,cond_false,zAu (l:=l) (n7 200000 l l) (fun _ _=>none) (fun n i hi=>by
  show uU _ _ _ _ _=_
  unfold uU
  rw [yF (by omega),cond_false]) (fun n i x r hd hlt=>by
  refine ⟨fun b hb=>(by cases hb),fun _=>?_⟩
  show uU _ _ _ _ _=_
  unfold uU
  rw [yR (by omega),cond_true,xZ hd,zbs,zbs,zNC (hs x (zEJ hd)),zbs,yR rfl,Bool.not_true,cond_false,vK (by omega)]) (by omega),zBj (fun _ _ _=>rfl),zbs]
theorem zGc {l:List z5} (hl:l.length≤100000) (hp:∀ p∈l,p.Events.length≤100000∧∀ e∈p.Events,e.Stack.length≤100000):nB 200000 l l=some true:=by
 unfold nB
 rw [xE rfl,cond_false,zAu (l:=l) (kB 200000 l l) (fun _ _=>none) (fun n i hi=>by
  show vS _ _ _ _ _=_
  unfold vS
  rw [yF (by omega),cond_false]) (fun n i x r hd hlt=>by
  refine ⟨fun b hb=>(by cases hb),fun _=>?_⟩
  have hx:=hp x (zEJ hd)
  show vS _ _ _ _ _=_
  unfold vS
  rw [yR (by omega),cond_true,xZ hd]
  simp only [zbs]
  rw [xE rfl,xE rfl,xE rfl]
  simp only [cond_false]
  rw [zIo hx.1 hx.2]
  simp only [zbs,Bool.not_true,cond_false]
  rw [vK (by omega)]) (by omega),zBj (fun _ _ _=>rfl),zbs]
theorem zQ3 {id a b:Int} {l:List zL} (hl:l.length≤100000) (hs:∀ e∈l,e.Stack.length≤100000):(zGL id a b l).length≤100000∧∀ p∈zGL id a b l,p.Events.length≤100000∧∀ e∈p.Events,e.Stack.length≤100000:=by
 unfold zGL
 split
 ·exact ⟨by simp,fun p hp=>by cases hp⟩
 ·refine ⟨by simp,fun p hp=>?_⟩
  simp at hp;subst hp;exact ⟨hl,hs⟩
theorem zRL {p:zK} (h:wO p.Ring):(zDy p).1.length≤100000∧∀ q∈(zDy p).1,q.Events.length≤100000∧∀ e∈q.Events,e.Stack.length≤100000:=by
 unfold zDy
 by_cases hz:(vO p).2≠0
 ·rw [if_pos hz];exact ⟨by simp,fun q hq=>by cases hq⟩
 ·rw [if_neg hz]
  have he:=(zAs (show (vO p).2=0 by omega)).2.2.2.2.2.2.2
  have hl:=zJ7 h
  simp only
  rw [he]
  exact zQ3 (by omega) (fun e hm=>by have:=hl.2.1 e hm;omega)
theorem zRi:zDV 200000=some true:=by kernel_rfl
end Go.Ab
