/- Producers: what the functions compute. -/
import Derived.Test.YtdpgdpjoemdkjaaB10g
import Derived.Test.YtdpgdpjoemdkjaaB10j
import Derived.Test.YtdpgdpjoemdkjaaB10k
namespace Go.Ab
open Go
set_option linter.unusedVariables false
theorem zPk {n:List (List Int)} {s:List zN} {b:List Int}:(tW n s b).1.Stack.length≤32:=by
 unfold tW
 split
 ·simp [ev0]
 split
 ·simp [ev0]
 split
 ·simp [ev0]
 split
 ·simp [ev0]
 split
 ·simp [ev0]
 ·exact zOI
theorem zRk {r:zO} (h:vA r):∀ b∈(xB r).1,zAP b:=by
 intro b hb
 by_cases hz:(xB r).2=0
 ·obtain ⟨_,g,he,_⟩:=kY hz
  exact (zHQ (zAe h.1) he).2 b hb
 ·unfold xB at hz hb
  split at hb
  ·cases hb
  rename_i h1
  split at hb
  ·cases hb
  rename_i h2
  rw [if_neg h1,if_neg h2] at hz
  simp only at hz hb
  split at hb
  ·cases hb
  ·rename_i h3
   rw [if_neg h3] at hz
   exact absurd rfl hz
def kO (n:List (List Int)) (s:List zN):List (List Int)→List zL×Bool
 | []=>([],true)
 | b::r=>if (tW n s b).2.2≠0∨(tW n s b).2.1≠(b.length:Int) then ([],false) else if (kO n s r).2=true then ((tW n s b).1::(kO n s r).1,true) else ([],false)
def evO (row:List zL) (q:List zL×Bool):List zL⊕(List zL×Bool):=if q.2=true then .inl (row++q.1) else .inr ([],false)
theorem zJE (n:List (List Int)) (s:List zN) (l:List (List Int)) (h:(kO n s l).2≠true):kO n s l=([],false):=by
 cases l with
 | nil=>exact absurd rfl h
 | cons b r =>
  unfold kO at h ⊢
  split
  ·rfl
  split
  ·rename_i h1 h2;rw [if_neg h1,if_pos h2] at h;exact absurd rfl h
  ·rfl
theorem zMN (n:List (List Int)) (s:List zN):∀ l:List (List Int),(kO n s l).1.length≤l.length∧∀ e∈(kO n s l).1,e.Stack.length≤32:=by
 intro l
 induction l with
 | nil=>simp [kO]
 | cons b r ih =>
  unfold kO
  split
  ·simp
  split
  ·refine ⟨by simp;exact ih.1,fun e he=>?_⟩
   rcases List.mem_cons.1 he with rfl | he
   ·exact zPk
   ·exact ih.2 e he
  ·simp
theorem zRu {n:List (List Int)} {s:List zN}:∀ l:List (List Int),(∀ b∈l,zAP b)→∀ e∈(kO n s l).1,evS e=0:=by
 intro l
 induction l with
 | nil=>intro _ e he;cases he
 | cons b r ih =>
  intro hb e he
  unfold kO at he
  split at he
  ·cases he
  rename_i h1
  split at he
  ·rcases List.mem_cons.1 he with rfl | he
   ·obtain ⟨_,L,hc,_⟩:=zME (hb b (by simp)).2 (show (tW n s b).2.2=0 by omega)
    exact hc.1
   ·exact ih (fun x hx=>hb x (by simp [hx])) e he
  ·cases he
theorem zFS {p:zG} {q:List (List Int)×zO} (hb:∀ b∈q.1,zAP b) (hl:q.1.length≤100000):∀ (n i:Nat) (row:List zL),(q.1.drop i).length<n→row.length≤i →
  pG 200000 p q n (i:Nat) row=some (evO row (kO p.Names p.Stacks (q.1.drop i))):=by
 intro n
 induction n with
 | zero=>intro i row h;omega
 | succ n ih =>
  intro i row hn hr
  show qI _ _ _ _ _ _=_
  unfold qI
  rcases hd:q.1.drop i with _ | ⟨x,r⟩
  ·have:=qR hd
   rw [yI (by omega),cond_false];simp [evO,kO]
  have hlt:=jN hd
  have hx:=hb x (zES hd)
  rw [hd] at hn
  simp only [List.length_cons] at hn
  have hx1:=hx.1
  rw [yW (by omega),cond_true,x3 hd,zbs,zIi hx.2 (by omega),zbs]
  unfold kO
  by_cases hc:(tW p.Names p.Stacks x).2.2≠0∨(tW p.Names p.Stacks x).2.1≠(x.length:Int)
  ·rw [show ((tW p.Names p.Stacks x).2.2 != 0||(tW p.Names p.Stacks x).2.1 != (x.length:Int))=true by simpa using hc,cond_true,if_pos hc];rfl
  rw [show ((tW p.Names p.Stacks x).2.2 != 0||(tW p.Names p.Stacks x).2.1 != (x.length:Int))=false by simpa using hc,cond_false,if_neg hc,xE (by simp;omega),zbs,vS (by omega),ih (i+1) _ (by rw [wN hd];omega) (by simp;omega),wN hd]
  unfold evO
  by_cases h2:(kO p.Names p.Stacks r).2=true
  ·rw [if_pos h2,if_pos h2,if_pos rfl];simp
  ·rw [if_neg h2,if_neg h2,if_neg (by simp)]
theorem zIL {p:zG} {q:List (List Int)×zO} (hb:∀ b∈q.1,zAP b) (hl:q.1.length≤100000):∀ (n i:Nat) (row:List zL),(q.1.drop i).length<n→row.length≤i →
  zA4 200000 p q n (i:Nat) row=some (evO row (kO p.Names p.Stacks (q.1.drop i))):=by
 intro n
 induction n with
 | zero=>intro i row h;omega
 | succ n ih =>
  intro i row hn hr
  show pB _ _ _ _ _ _=_
  unfold pB
  rcases hd:q.1.drop i with _ | ⟨x,r⟩
  ·have:=qR hd
   rw [yI (by omega),cond_false];simp [evO,kO]
  have hlt:=jN hd
  have hx:=hb x (zES hd)
  rw [hd] at hn
  simp only [List.length_cons] at hn
  have hx1:=hx.1
  rw [yW (by omega),cond_true,x3 hd,zbs,zLi hx.2 (by omega),zbs]
  have ec:(bif ((tW p.Names p.Stacks x).2.2 != 0) then some true else (some x).bind fun x_2=>some ((tW p.Names p.Stacks x).2.1 != (((x_2).length:Nat):Int)):Option Bool)=some ((tW p.Names p.Stacks x).2.2 != 0||(tW p.Names p.Stacks x).2.1 != (x.length:Int)):=by
   cases ((tW p.Names p.Stacks x).2.2 != 0)<;>rfl
  rw [ec,zbs]
  unfold kO
  by_cases hc:(tW p.Names p.Stacks x).2.2≠0∨(tW p.Names p.Stacks x).2.1≠(x.length:Int)
  ·rw [show ((tW p.Names p.Stacks x).2.2 != 0||(tW p.Names p.Stacks x).2.1 != (x.length:Int))=true by simpa using hc,cond_true,if_pos hc];rfl
  rw [show ((tW p.Names p.Stacks x).2.2 != 0||(tW p.Names p.Stacks x).2.1 != (x.length:Int))=false by simpa using hc,cond_false,if_neg hc,xE (by simp;omega),zbs,vS (by omega),ih (i+1) _ (by rw [wN hd];omega) (by simp;omega),wN hd]
  unfold evO
  by_cases h2:(kO p.Names p.Stacks r).2=true
  ·rw [if_pos h2,if_pos h2,if_pos rfl];simp
  ·rw [if_neg h2,if_neg h2,if_neg (by simp)]
theorem zP7 {r:zO}:(tL r).1=(xB r).1∨(tL r).1=[]:=by
 unfold tL;split
 ·exact .inr rfl
 ·exact .inl rfl
theorem zET {r:zO} (h:vA r):(∀ b∈(tL r).1,zAP b)∧(tL r).1.length≤65536:=by
 rcases zP7 (r:=r) with e | e
 ·rw [e];exact ⟨zRk h,zFh h.1⟩
 ·rw [e];exact ⟨fun b hb=>(by cases hb),by simp⟩
def evP (p:zG):List zL×Bool:=kO p.Names p.Stacks (tL p.Ring).1
theorem zN1 {X:Option (List zL⊕(List zL×Bool))} {q:List zL×Bool} (h:X=some (evO [] q)) (hq:q.2≠true→q=([],false)):(X.bind fun o_1=>(match o_1 with
 | (.inl q_1)=>some (q_1,true)
 | (.inr q_2)=>some q_2))=some q:=by
 rw [h,zbs]
 unfold evO
 by_cases h2:q.2=true
 ·rw [if_pos h2];simp only [List.nil_append];rw [← h2]
 ·rw [if_neg h2];simp only;rw [hq h2]
theorem zG3 {p:zG} (h:vA p.Ring):zAb 200000 p=some (evP p):=by
 unfold zAb
 have ht:=zET h
 rw [zG6 h,zbs]
 exact zN1 (by unfold evP;simpa using zFS (p:=p) (q:=tL p.Ring) ht.1 (by omega) 200000 0 [] (by simp;omega) (by simp)) (zJE _ _ _)
theorem zGD {p:zG} (h:vA p.Ring):zBN 200000 p=some (evP p):=by
 unfold zBN
 have ht:=zET h
 rw [zFp h,zbs]
 exact zN1 (by unfold evP;simpa using zIL (p:=p) (q:=tL p.Ring) ht.1 (by omega) 200000 0 [] (by simp;omega) (by simp)) (zJE _ _ _)
theorem zJN {p:zG} (h:vA p.Ring):(evP p).1.length≤65536∧(∀ e∈(evP p).1,e.Stack.length≤32)∧∀ e∈(evP p).1,evS e=0:=by
 have h1:=zMN p.Names p.Stacks (tL p.Ring).1
 have h2:=zET h
 exact ⟨by unfold evP;omega,h1.2,zRu _ h2.1⟩
def srt:Int→List zL→Bool
 | _,[]=>true
 | a,e::r=>decide (e.At≥a)&&srt e.At r
def tV:Int→List zL→Int
 | a,[]=>a
 | _,e::r=>tV e.At r
theorem zLX:∀ {l:List zL} {a:Int},srt a l=true→a≤tV a l:=by
 intro l
 induction l with
 | nil=>intro a _;exact Int.le_refl a
 | cons e r ih =>
  intro a h
  unfold srt at h
  rw [Bool.and_eq_true,decide_eq_true_eq] at h
  have:=ih h.2
  unfold tV;omega
theorem zMd {q:List zL×Bool} (hl:q.1.length≤100000):∀ (n i:Nat) (ok:Bool) (last:Int),(q.1.drop i).length<n→qX 200000 q n ok last (i:Nat)=some (ok&&srt last (q.1.drop i),tV last (q.1.drop i)):=by
 intro n
 induction n with
 | zero=>intro i ok last h;omega
 | succ n ih =>
  intro i ok last hn
  show t6 _ _ _ _ _ _=_
  unfold t6
  rcases hd:q.1.drop i with _ | ⟨x,r⟩
  ·have:=qR hd
   rw [yI (by omega),cond_false];simp [srt,tV]
  have hlt:=jN hd
  rw [hd] at hn
  simp only [List.length_cons] at hn
  rw [yW (by omega),cond_true,x3 hd,zbs,vS (by omega),ih (i+1) _ _ (by rw [wN hd];omega),wN hd]
  simp only [srt,tV,Bool.and_assoc]
def nI (p:zG):Prop:=p.Sent<0∨p.Sent>p.Ring.First∨p.Last<0∨p.Last>1000000000000
instance decRngBad {p:zG}:Decidable (nI p):=inferInstanceAs (Decidable (_∨_))
theorem zMx {p:zG}:(decide (p.Sent<(0:Int))||(decide (p.Sent>p.Ring.First)||(decide (p.Last<(0:Int))||decide (p.Last>(1000000000000:Int)))))=decide (nI p):=by
 by_cases h:nI p
 ·rw [yW h];unfold nI at h;simpa using h
 ·rw [yI h];unfold nI at h;simp;omega
def nG (p:zG):Prop:=(evP p).2=false∨srt 0 (evP p).1=false∨tV 0 (evP p).1>p.Last
instance decFormBad {p:zG}:Decidable (nG p):=inferInstanceAs (Decidable (_∨_))
def uB (p:zG):List zL×Int :=
 if jT p.Thread≠0 then ([],jT p.Thread) else if uW p.Names p.Stacks≠0 then ([],uW p.Names p.Stacks) else if (xB p.Ring).2≠0 then ([],(xB p.Ring).2) else
 if nI p then ([],2) else if nG p then ([],10) else ((evP p).1,0)
theorem zDe {p:zG} (h:vA p.Ring):kV 200000 p=some (uB p):=by
 unfold kV uB
 rw [zD6,zbs]
 by_cases h1:jT p.Thread≠0
 ·rw [xW h1,if_pos h1];rfl
 rw [xD (by omega),cond_false,if_neg h1,zBo,zbs]
 by_cases h2:uW p.Names p.Stacks≠0
 ·rw [xW h2,if_pos h2];rfl
 rw [xD (by omega),cond_false,if_neg h2,zKS h,zbs]
 by_cases h3:(xB p.Ring).2≠0
 ·rw [xW h3,if_pos h3];rfl
 rw [xD (by omega),cond_false,if_neg h3,zMx]
 by_cases h4:nI p
 ·rw [yW h4,if_pos h4];rfl
 have hl:=zJN h
 rw [yI h4,cond_false,if_neg h4,zG3 h,zbs,show qX 200000 (evP p) 200000 (evP p).2 0 0=_ from zMd (by omega) 200000 0 _ 0 (by simp;omega),zbs,List.drop_zero]
 simp only
 have ec:(!((evP p).2&&srt 0 (evP p).1)||decide (tV 0 (evP p).1>p.Last))=decide (nG p):=by
  by_cases h5:nG p
  ·rw [yW h5];unfold nG at h5
   rcases h5 with e | e | e
   ·rw [e];rfl
   ·rw [e];simp
   ·rw [yW e];simp
  ·rw [yI h5];unfold nG at h5
   have e1:(evP p).2=true:=by cases hx:(evP p).2<;>simp_all
   have e2:srt 0 (evP p).1=true:=by cases hx:srt 0 (evP p).1<;>simp_all
   rw [e1,e2,yI (by omega)];rfl
 rw [ec]
 by_cases h5:nG p
 ·rw [yW h5,if_pos h5];rfl
 ·rw [yI h5,if_neg h5];rfl
theorem zCg {p:zG} (h:vA p.Ring):jM 200000 p=some (uB p).2:=by
 unfold jM
 rw [zDe h,zbs]
def okR (m:Int):Option Int→List zL→Bool
 | _,[]=>true
 | pr,e::r=>decide (e.At≤m)&&((pr.all fun a=>decide (a≤e.At))&&okR m (some e.At) r)
theorem zQy {m:Int}:∀ {l:List zL} {a:Int},a≤m→okR m (some a) l=(srt a l&&decide (tV a l≤m)):=by
 intro l
 induction l with
 | nil=>intro a h;simp [okR,srt,tV,h]
 | cons e r ih =>
  intro a h
  unfold okR srt tV
  by_cases h1:e.At≤m
  ·rw [ih h1,yW h1];simp only [Option.all_some,Bool.true_and,Bool.and_assoc,ge_iff_le]
  ·rw [yI h1,Bool.false_and]
   cases hs:srt e.At r
   ·simp
   ·have:=zLX hs
    rw [yI (p:=tV e.At r≤m) (by omega)];simp
theorem zQY {m:Int} (hm:0≤m) {l:List zL} (h:∀ e∈l,0≤e.At):okR m none l=(srt 0 l&&decide (tV 0 l≤m)):=by
 cases l with
 | nil=>simp [okR,srt,tV,hm]
 | cons e r =>
  unfold okR srt tV
  have h0:=h e (by simp)
  by_cases h1:e.At≤m
  ·rw [zQy h1,yW h1,yW (p:=e.At≥0) h0];simp only [Option.all_none,Bool.true_and]
  ·rw [yI h1,Bool.false_and]
   cases hs:srt e.At r
   ·simp
   ·have:=zLX hs
    rw [yI (p:=tV e.At r≤m) (by omega)];simp
theorem zJL {p:zG} {q:List zL×Bool} (hl:q.1.length≤100000):∀ (n i:Nat),(q.1.drop i).length<n→zAy 200000 p q n (i:Nat)=some (bif okR p.Last (if i=0 then none else (q.1[i - 1]?).map (·.At)) (q.1.drop i) then .inl () else .inr 10):=by
 intro n
 induction n with
 | zero=>intro i h;omega
 | succ n ih =>
  intro i hn
  show p7 _ _ _ _ _=_
  unfold p7
  rcases hd:q.1.drop i with _ | ⟨x,r⟩
  ·have:=qR hd
   rw [yI (by omega),cond_false];rfl
  have hlt:=jN hd
  rw [hd] at hn
  simp only [List.length_cons] at hn
  rw [yW (by omega),cond_true,x3 hd,zbs]
  unfold okR
  have hi:=ih (i+1) (by rw [wN hd];omega)
  rw [if_neg (show ¬ i+1=0 by omega),wN hd,Nat.add_sub_cancel,zH2 hd] at hi
  by_cases h1:x.At>p.Last
  ·rw [yW h1,cond_true,zbs,cond_true,yI (p:=x.At≤p.Last) (by omega),Bool.false_and,cond_false]
  rw [yI h1,cond_false,yW (p:=x.At≤p.Last) (by omega),Bool.true_and]
  by_cases h0:i=0
  ·rw [yI (p:=(i:Int)>0) (by omega),cond_false,zbs,cond_false,vS (by omega),hi,if_pos h0];rfl
  ·rw [yW (p:=(i:Int)>0) (by omega),cond_true,zbs,zPz (by omega) (by omega),if_neg h0]
   have hm:i - 1<q.1.length:=by omega
   rw [List.getElem?_eq_getElem hm,zbs,zbs]
   simp only [Option.map_some,Option.all_some]
   by_cases h2:x.At<(q.1[i - 1]).At
   ·rw [yW h2,cond_true,yI (p:=(q.1[i - 1]).At≤x.At) (by omega),Bool.false_and,cond_false]
   ·rw [yI h2,cond_false,yW (p:=(q.1[i - 1]).At≤x.At) (by omega),Bool.true_and,vS (by omega),hi];rfl
theorem zER {p:zG} (h:vA p.Ring):zBt 200000 p=some (uB p).2:=by
 unfold zBt uB
 rw [zGG,zbs]
 by_cases h1:jT p.Thread≠0
 ·rw [zBU h1,cond_false,zbs,zBU h1,cond_false,zbs,xW h1,if_pos h1];rfl
 rw [kZ (show jT p.Thread=0 by omega),cond_true,if_neg h1,zCY,zbs,zbs]
 show ((bif uW p.Names p.Stacks==0 then _ else some (uW p.Names p.Stacks)).bind _)=_
 by_cases h2:uW p.Names p.Stacks≠0
 ·rw [zBU h2,cond_false,zbs,xW h2,if_pos h2];rfl
 rw [kZ (show uW p.Names p.Stacks=0 by omega),cond_true,if_neg h2,zC6 h,zbs,zbs]
 by_cases h3:(xB p.Ring).2≠0
 ·rw [xW h3,if_pos h3];rfl
 rw [xD (by omega),cond_false,if_neg h3,zMx]
 by_cases h4:nI p
 ·rw [yW h4,if_pos h4];rfl
 have hl:=zJN h
 rw [yI h4,cond_false,if_neg h4,zGD h,zbs]
 by_cases h6:(evP p).2=true
 ·rw [h6,Bool.not_true,cond_false,show zAy 200000 p (evP p) 200000 0=_ from zJL (by omega) 200000 0 (by simp;omega),zbs,if_pos rfl,List.drop_zero]
  have h0:0≤p.Last:=by unfold nI at h4;omega
  rw [zQY h0 (fun e he=>by have:=zDj (hl.2.2 e he);omega)]
  by_cases h5:nG p
  ·rw [if_pos h5]
   unfold nG at h5
   have:(srt 0 (evP p).1&&decide (tV 0 (evP p).1≤p.Last))=false:=by
    rcases h5 with e | e | e
    ·rw [h6] at e;cases e
    ·rw [e];rfl
    ·rw [yI (by omega),Bool.and_false]
   rw [this,cond_false]
  ·rw [if_neg h5]
   unfold nG at h5
   have e2:srt 0 (evP p).1=true:=by cases hx:srt 0 (evP p).1<;>simp_all
   rw [e2,yW (by omega),Bool.and_self,cond_true]
 ·have h7:(evP p).2=false:=by cases hx:(evP p).2<;>simp_all
  rw [h7,Bool.not_false,cond_true,if_pos (show nG p from .inl h7)]
def zGQ (id first lost:Int) (l:List zL):List z9:=if l.length=0 then [] else [⟨id,first,lost,l⟩]
theorem zN2 {a b:Int} (h:a≤b):vE a b=a:=by unfold vE;rw [if_neg (by omega)]
theorem zOz {p:zG} {l:List zL} {a b:Int} (hl:l.length≤1000) (h0:0≤a) (h1:a≤1000000000000000):qU 200000 p 200000 l a b []=some (zGQ p.Thread.Id a b l):=by
 unfold zGQ
 obtain ⟨g,hg⟩:∃ g,200000=g+2:=⟨199998,rfl⟩
 have stop:∀ K n a b row,qU K p (n+1) [] a b row=some row:=fun K n a b row=>by
  show uO _ _ _ _ _ _ _=_
  unfold uO
  rw [yI (by simp),cond_false]
 suffices h:∀ K,qU K p (g+2) l a b []=some (if l.length=0 then [] else [⟨p.Thread.Id,a,b,l⟩]) by rw [← hg] at h;exact h _
 intro K
 by_cases hz:l.length=0
 ·rw [List.length_eq_zero_iff.1 hz];exact stop K (g+1) a b []
 ·rw [if_neg hz]
  show uO _ _ _ _ _ _ _=_
  unfold uO
  rw [yW (by omega),cond_true,zN2 (show (l.length:Int)≤1000 by omega),xE (by omega),zbs,xE (by simp),zbs,zbs,zHf,Int.toNat_natCast,List.drop_length,show sub l 0 (l.length:Int)=l by simp [sub]]
  exact stop K g _ _ _
theorem zNE {p:zG} {q:List zL×Bool} (hl:q.1.length≤1000) (h0:0≤p.Ring.First) (h1:p.Ring.First≤1000000000000000) (h2:0≤p.Sent):zAz 200000 p q 200000 0 []=some (zGQ p.Thread.Id p.Ring.First (zJ (p.Ring.First - p.Sent)) q.1):=by
 unfold zGQ
 obtain ⟨g,hg⟩:∃ g,200000=g+2:=⟨199998,rfl⟩
 suffices h:∀ K,zAz K p q (g+2) 0 []=some (if q.1.length=0 then [] else [⟨p.Thread.Id,p.Ring.First,zJ (p.Ring.First - p.Sent),q.1⟩]) by rw [← hg] at h;exact h _
 intro K
 show qK _ _ _ _ _ _=_
 unfold qK
 by_cases hz:q.1.length=0
 ·rw [if_pos hz,yI (by omega),cond_false]
 ·rw [if_neg hz,yW (by omega),cond_true,kZ rfl,cond_true,zbs,show zJ ((0:Int)+1000)=1000 from rfl,zN2 (show (q.1.length:Int)≤1000 by omega),xE (by omega),zbs,xE (by simp),zbs,zbs,Int.add_zero,w64 (x:=p.Ring.First) (by omega) (by omega),show sub q.1 0 (q.1.length:Int)=q.1 by simp [sub]]
  show qK _ _ _ _ _ _=_
  unfold qK
  rw [yI (by omega),cond_false];rfl
def zDB (p:zG):List z9×zG :=
 if (uB p).2≠0 then ([],p) else (zGQ p.Thread.Id p.Ring.First (zJ (p.Ring.First - p.Sent)) (uB p).1,⟨p.Thread,p.Names,p.Stacks,(tL p.Ring).2,p.Last,(tL p.Ring).2.Next⟩)
theorem zAI {p:zG} (h:(uB p).2=0):jT p.Thread=0∧uM p.Names p.Stacks∧(xB p.Ring).2=0∧¬ nI p∧(evP p).2=true∧srt 0 (evP p).1=true∧tV 0 (evP p).1≤p.Last∧(uB p).1=(evP p).1:=by
 unfold uB at h ⊢
 split at h
 ·rename_i h1;exact absurd h h1
 rename_i h1
 split at h
 ·rename_i h2;exact absurd h h2
 rename_i h2
 split at h
 ·rename_i h3;exact absurd h h3
 rename_i h3
 split at h
 ·cases h
 rename_i h4
 split at h
 ·cases h
 rename_i h5
 rw [if_neg h1,if_neg h2,if_neg h3,if_neg h4,if_neg h5]
 unfold nG at h5
 refine ⟨by omega,zCC.1 (by omega),by omega,h4,?_,?_,by omega,rfl⟩
 ·cases hx:(evP p).2<;>simp_all
 ·cases hx:srt 0 (evP p).1<;>simp_all
theorem zJR {p:zG} (h1:jT p.Thread=0) (h2:uM p.Names p.Stacks) (h3:(xB p.Ring).2=0) (h4:¬ nI p) (h5:(evP p).2=true) (h6:srt 0 (evP p).1=true) (h7:tV 0 (evP p).1≤p.Last):uB p=((evP p).1,0):=by
 unfold uB
 have:=zCC.2 h2
 rw [if_neg (by omega),if_neg (by omega),if_neg (by omega),if_neg h4,if_neg]
 unfold nG
 rw [h5,h6];simp;omega
theorem zPY {r:zO} (h:vA r) (hz:(xB r).2=0):(xB r).1.length≤r.Data.length:=by
 obtain ⟨_,g,he,_⟩:=kY hz
 have hb:=zAe h.1
 have:=zLZ (uA r).length (uA r) hb (by
  unfold jQ at he
  split at he
  ·rename_i hx;exact hx
  ·exact absurd (congrArg Prod.snd he) (by simp))
 have h2:(xB r).1=(recs (uA r).length (uA r)).1:=by
  unfold jQ at he
  split at he
  ·rw [he]
  ·exact absurd (congrArg Prod.snd he) (by simp)
 rw [zAg] at this h2
 have h3:=zEw g
 rw [h2];omega
theorem zKK {p:zG} (h:vA p.Ring) (hz:(uB p).2=0):(uB p).1.length≤p.Ring.Data.length:=by
 obtain ⟨_,_,h3,_,_,_,_,h8⟩:=zAI hz
 have h1:=(zMN p.Names p.Stacks (tL p.Ring).1).1
 have h2:=zPY h h3
 have h4:(tL p.Ring).1=(xB p.Ring).1:=by unfold tL;rw [if_neg (by omega)]
 rw [h4] at h1
 rw [h8];unfold evP;rw [h4];omega
theorem zDO {p:zG} (hz:(uB p).2=0):0≤p.Sent∧p.Sent≤p.Ring.First∧p.Ring.First≤p.Ring.Next∧p.Ring.Next≤1000000000000000∧0≤p.Last∧p.Last≤1000000000000:=by
 obtain ⟨_,_,h3,h4,_⟩:=zAI hz
 have g:=zIo (kY h3).2.1
 unfold nI at h4
 unfold j0 at g
 omega
theorem zHA {p:zG} (h:vA p.Ring) (hd:p.Ring.Data.length≤1000):kQ 200000 p=some (zDB p):=by
 unfold kQ zDB
 rw [zDe h,zbs]
 by_cases hz:(uB p).2≠0
 ·rw [xW hz,if_pos hz];rfl
 have hf:=zDO (show (uB p).2=0 by omega)
 have hc:=zKK h (show (uB p).2=0 by omega)
 rw [xD (by omega),cond_false,if_neg hz,zOz (by omega) (by omega) (by omega),zbs,zG6 h,zbs]
theorem zLw {p:zG} (h:vA p.Ring) (hd:p.Ring.Data.length≤1000):zDZ 200000 p=some (zDB p):=by
 unfold zDZ zDB
 rw [zER h,zbs]
 by_cases hz:(uB p).2≠0
 ·rw [xW hz,if_pos hz];rfl
 have hf:=zDO (show (uB p).2=0 by omega)
 have hc:=zKK h (show (uB p).2=0 by omega)
 have he:=(zAI (show (uB p).2=0 by omega)).2.2.2.2.2.2.2
 rw [he] at hc
 rw [xD (by omega),cond_false,if_neg hz,zGD h,zbs,zNE (by omega) (by omega) (by omega) (by omega),zbs,zFp h,zbs,he]
def zLm (p:zG):Int:=if (uB p).2≠0 then 0 else zJ (p.Ring.First - p.Sent)
theorem zId {p:zG} (h:vA p.Ring):nX 200000 p=some (zLm p):=by
 unfold nX zLm
 rw [zCg h,zbs]
 by_cases hz:(uB p).2≠0
 ·rw [xW hz,if_pos hz];rfl
 ·rw [xD (by omega),if_neg hz];rfl
theorem zNy {p:zG} (h:vA p.Ring):zE5 200000 p=some (zLm p):=by
 unfold zE5 zLm
 rw [zER h,zbs]
 by_cases hz:(uB p).2≠0
 ·rw [xW hz,if_pos hz];rfl
 ·rw [xD (by omega),if_neg hz];rfl
def pr0:zG:=⟨⟨0,[],0⟩,[],[],⟨0,[],0,0,0,0⟩,0,0⟩
def zBC (p:zG) (e:zL):zG×Int :=
 if (uB p).2≠0 then (pr0,(uB p).2) else if evS e≠0 then (pr0,evS e) else if e.At<p.Last then (pr0,11) else
 if (vU p.Names p.Stacks e).2.2.2≠0 then (pr0,(vU p.Names p.Stacks e).2.2.2) else if (jV p.Ring (vU p.Names p.Stacks e).1).2.2≠0 then (pr0,(jV p.Ring (vU p.Names p.Stacks e).1).2.2) else
 (⟨p.Thread,(vU p.Names p.Stacks e).2.1,(vU p.Names p.Stacks e).2.2.1,(jV p.Ring (vU p.Names p.Stacks e).1).1,e.At,p.Sent⟩,0)
theorem zKl {n:List (List Int)} {s:List zN} {e:zL} (h:(vU n s e).2.2.2=0):(vU n s e).1.length≤50∧∀ x∈(vU n s e).1,x7 x:=by
 rcases zGd (n:=n) (s:=s) (e:=e) with ⟨h1,_⟩ | ⟨_,g,g2,_,_,L,hL,hc⟩
 ·exact absurd h h1
 ·have:=zQn g2 hc
  rw [hL];exact ⟨this.2.2,this.1⟩
theorem zHx {p:zG} {e:zL} (h:vA p.Ring):qB 200000 p e=some (zBC p e):=by
 unfold qB zBC
 rw [zCg h,zbs]
 by_cases h1:(uB p).2≠0
 ·rw [xW h1,if_pos h1];rfl
 have hg:=(zAI (show (uB p).2=0 by omega)).2.1
 have hn:=hg.n1
 have hs:=hg.s1
 rw [xD (by omega),cond_false,if_neg h1,zDD,zbs]
 by_cases h2:evS e≠0
 ·rw [xW h2,if_pos h2];rfl
 rw [xD (by omega),cond_false,if_neg h2]
 by_cases h3:e.At<p.Last
 ·rw [yW h3,if_pos h3];rfl
 rw [yI h3,cond_false,if_neg h3,zH7 (by omega) (by omega),zbs]
 by_cases h4:(vU p.Names p.Stacks e).2.2.2≠0
 ·rw [xW h4,if_pos h4];rfl
 have hl:=zKl (show (vU p.Names p.Stacks e).2.2.2=0 by omega)
 rw [xD (by omega),cond_false,if_neg h4,zNL h (by omega),zbs]
 by_cases h5:(jV p.Ring (vU p.Names p.Stacks e).1).2.2≠0
 ·rw [xW h5,if_pos h5];rfl
 ·rw [xD (by omega),if_neg h5];rfl
theorem zMu {p:zG} {e:zL} (h:vA p.Ring):zD2 200000 p e=some (zBC p e):=by
 unfold zD2 zBC
 rw [zER h,zbs]
 by_cases h1:(uB p).2≠0
 ·rw [zBU h1,cond_false,zbs,zBU h1,Bool.false_and,cond_false,zbs,xW h1,if_pos h1];rfl
 have hg:=(zAI (show (uB p).2=0 by omega)).2.1
 have hn:=hg.n1
 have hs:=hg.s1
 rw [kZ (show (uB p).2=0 by omega),cond_true,if_neg h1,zEX,zbs,zbs]
 by_cases h2:evS e≠0
 ·rw [zBU h2,Bool.false_and,cond_false,zbs,xW h2,if_pos h2];rfl
 rw [kZ (show evS e=0 by omega),Bool.true_and,if_neg h2]
 by_cases h3:e.At<p.Last
 ·rw [yW h3,if_pos h3];rfl
 rw [yI h3,cond_false,zbs,xD (show evS e=0 by omega),cond_false,if_neg h3,zKY (by omega) (by omega),zbs]
 by_cases h4:(vU p.Names p.Stacks e).2.2.2≠0
 ·rw [xW h4,if_pos h4];rfl
 have hl:=zKl (show (vU p.Names p.Stacks e).2.2.2=0 by omega)
 rw [xD (by omega),cond_false,if_neg h4,zOS h (by omega),zbs]
 by_cases h5:(jV p.Ring (vU p.Names p.Stacks e).1).2.2≠0
 ·rw [xW h5,if_pos h5];rfl
 ·rw [xD (by omega),if_neg h5];rfl
def zCa (t:yA) (size pol:Int):zG×Int :=
 if jT t≠0 then (pr0,jT t) else if size<16∨size>65536 then (pr0,2) else if pol≠1∧pol≠2 then (pr0,1) else (⟨t,[],[],⟨pol,List.replicate size.toNat 0,0,0,0,0⟩,0,0⟩,0)
theorem zJb {t:yA} {size pol:Int}:pC 200000 t size pol=some (zCa t size pol):=by
 unfold pC zCa zFZ
 rw [zD6,zbs]
 by_cases h1:jT t≠0
 ·rw [xW h1,if_pos h1];rfl
 rw [xD (by omega),cond_false,if_neg h1]
 by_cases h2:size<16∨size>65536
 ·rw [zKt h2,if_pos h2];rfl
 rw [zLO h2,cond_false,if_neg h2]
 by_cases h3:pol≠1∧pol≠2
 ·rw [show ((pol != (1:Int))&&(pol != (2:Int)))=true by simpa using h3,if_pos h3];rfl
 ·rw [show ((pol != (1:Int))&&(pol != (2:Int)))=false by simp;omega,cond_false,if_neg h3,xE (by omega)];rfl
theorem zOt {t:yA} {size pol:Int}:zEs 200000 t size pol=some (zCa t size pol):=by
 unfold zEs zCa zHd
 rw [zGG,zbs]
 by_cases h1:jT t≠0
 ·rw [xW h1,if_pos h1];rfl
 rw [xD (by omega),cond_false,if_neg h1]
 by_cases h2:size<16∨size>65536
 ·rw [zKt h2,if_pos h2];rfl
 rw [zLO h2,cond_false,if_neg h2]
 by_cases h3:pol≠1∧pol≠2
 ·rw [show ((pol != (1:Int))&&(pol != (2:Int)))=true by simpa using h3,if_pos h3];rfl
 ·rw [show ((pol != (1:Int))&&(pol != (2:Int)))=false by simp;omega,cond_false,if_neg h3,xE (by omega)];rfl
structure PB (p:zG):Prop where
 ring:vA p.Ring
 names:p.Names.length≤100000
 stacks:p.Stacks.length≤100000
theorem zGy {p:zG} (h:PB p):zCy 200000 p p=some true:=by
 unfold zCy
 have ht:=zET h.ring
 rw [yW rfl,Bool.not_true,cond_false,zKk h.names,zbs,Bool.not_true,cond_false,zJp h.stacks,zbs,Bool.not_true,cond_false,xD rfl,xD rfl,cond_false,zbs,cond_false,xD rfl,xD rfl,xD rfl,xD rfl,xD rfl,xD rfl]
 simp only [Bool.or_self,cond_false]
 rw [zFp h.ring,zbs,zbs,xD rfl,cond_false]
 rw [zAW (l:=(tL p.Ring).1) (zCp 200000 (tL p.Ring) (tL p.Ring)) (fun _ _=>none) (fun n i hi=>by
  show jF _ _ _ _ _=_
  unfold jF
  rw [yI (by omega),cond_false]) (fun n i x r hd hlt=>by
  refine ⟨fun b hb=>(by cases hb),fun _=>?_⟩
  show jF _ _ _ _ _=_
  unfold jF
  rw [yW (by omega),cond_true,x3 hd,zbs,zbs,BEq.rfl,Bool.not_true,cond_false,vS (by omega)]) (by omega),zBq (fun _ _ _=>rfl),zbs]
theorem zIa {l:List zL} (hl:l.length≤100000) (hs:∀ e∈l,e.Stack.length≤100000):zCi 200000 l l=some true:=by
 unfold zCi
 rw [xD rfl,cond_false,zAW (l:=l) (zAq 200000 l l) (fun _ _=>none) (fun n i hi=>by
  show tP _ _ _ _ _=_
  unfold tP
  rw [yI (by omega),cond_false]) (fun n i x r hd hlt=>by
  refine ⟨fun b hb=>(by cases hb),fun _=>?_⟩
  show tP _ _ _ _ _=_
  unfold tP
  rw [yW (by omega),cond_true,x3 hd,zbs,zbs,zNJ (hs x (zES hd)),zbs,yW rfl,Bool.not_true,cond_false,vS (by omega)]) (by omega),zBq (fun _ _ _=>rfl),zbs]
theorem zGm {l:List z9} (hl:l.length≤100000) (hp:∀ p∈l,p.Events.length≤100000∧∀ e∈p.Events,e.Stack.length≤100000):zAa 200000 l l=some true:=by
 unfold zAa
 rw [xD rfl,cond_false,zAW (l:=l) (pD 200000 l l) (fun _ _=>none) (fun n i hi=>by
  show uH _ _ _ _ _=_
  unfold uH
  rw [yI (by omega),cond_false]) (fun n i x r hd hlt=>by
  refine ⟨fun b hb=>(by cases hb),fun _=>?_⟩
  have hx:=hp x (zES hd)
  show uH _ _ _ _ _=_
  unfold uH
  rw [yW (by omega),cond_true,x3 hd]
  simp only [zbs]
  rw [xD rfl,xD rfl,xD rfl]
  simp only [cond_false]
  rw [zIa hx.1 hx.2]
  simp only [zbs,Bool.not_true,cond_false]
  rw [vS (by omega)]) (by omega),zBq (fun _ _ _=>rfl),zbs]
theorem zRL {id a b:Int} {l:List zL} (hl:l.length≤100000) (hs:∀ e∈l,e.Stack.length≤100000):(zGQ id a b l).length≤100000∧∀ p∈zGQ id a b l,p.Events.length≤100000∧∀ e∈p.Events,e.Stack.length≤100000:=by
 unfold zGQ
 split
 ·exact ⟨by simp,fun p hp=>by cases hp⟩
 ·refine ⟨by simp,fun p hp=>?_⟩
  simp at hp;subst hp;exact ⟨hl,hs⟩
theorem zRY {p:zG} (h:vA p.Ring):(zDB p).1.length≤100000∧∀ q∈(zDB p).1,q.Events.length≤100000∧∀ e∈q.Events,e.Stack.length≤100000:=by
 unfold zDB
 by_cases hz:(uB p).2≠0
 ·rw [if_pos hz];exact ⟨by simp,fun q hq=>by cases hq⟩
 ·rw [if_neg hz]
  have he:=(zAI (show (uB p).2=0 by omega)).2.2.2.2.2.2.2
  have hl:=zJN h
  simp only
  rw [he]
  exact zRL (by omega) (fun e hm=>by have:=hl.2.1 e hm;omega)
theorem zRw:zDN 200000=some true:=by kernel_rfl
end Go.Ab
