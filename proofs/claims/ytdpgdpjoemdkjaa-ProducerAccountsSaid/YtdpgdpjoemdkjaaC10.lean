/- Producers: what the functions compute. -/
import Derived.Test.YtdpgdpjoemdkjaaB10g
import Derived.Test.YtdpgdpjoemdkjaaB10j
import Derived.Test.YtdpgdpjoemdkjaaB10k
namespace Go.Ab
open Go
set_option linter.unusedVariables false
theorem zKb {n:List (List Int)} {s:List zI} {b:List Int}:(t7 n s b).1.Stack.length≤32:=by
 unfold t7
 split
 ·simp [ev0]
 split
 ·simp [ev0]
 split
 ·simp [ev0]
 split
 ·simp [ev0]
 split
 ·simp [ev0]
 ·exact zI3
theorem zMa {r:zB} (h:wG r):∀ b∈(yF r).1,pF b:=by
 intro b hb
 by_cases hz:(yF r).2=0
 ·obtain ⟨_,g,he,_⟩:=jO hz
  exact (zDp (pX h.1) he).2 b hb
 ·unfold yF at hz hb
  split at hb
  ·cases hb
  rename_i h1
  split at hb
  ·cases hb
  rename_i h2
  rw [if_neg h1,if_neg h2] at hz
  simp only at hz hb
  split at hb
  ·cases hb
  ·rename_i h3
   rw [if_neg h3] at hz
   exact absurd rfl hz
def t3 (n:List (List Int)) (s:List zI):List (List Int)→List zE×Bool
 | []=>([],true)
 | b::r=>if (t7 n s b).2.2≠0∨(t7 n s b).2.1≠(b.length:Int) then ([],false) else if (t3 n s r).2=true then ((t7 n s b).1::(t3 n s r).1,true) else ([],false)
def evO (row:List zE) (q:List zE×Bool):List zE⊕(List zE×Bool):=if q.2=true then .inl (row++q.1) else .inr ([],false)
theorem zJt (n:List (List Int)) (s:List zI) (l:List (List Int)) (h:(t3 n s l).2≠true):t3 n s l=([],false):=by
 cases l with
 | nil=>exact absurd rfl h
 | cons b r =>
  unfold t3 at h ⊢
  split
  ·rfl
  split
  ·rename_i h1 h2;rw [if_neg h1,if_pos h2] at h;exact absurd rfl h
  ·rfl
theorem zHd (n:List (List Int)) (s:List zI):∀ l:List (List Int),(t3 n s l).1.length≤l.length∧∀ e∈(t3 n s l).1,e.Stack.length≤32:=by
 intro l
 induction l with
 | nil=>simp [t3]
 | cons b r ih =>
  unfold t3
  split
  ·simp
  split
  ·refine ⟨by simp;exact ih.1,fun e he=>?_⟩
   rcases List.mem_cons.1 he with rfl | he
   ·exact zKb
   ·exact ih.2 e he
  ·simp
theorem zL6 {n:List (List Int)} {s:List zI}:∀ l:List (List Int),(∀ b∈l,pF b)→∀ e∈(t3 n s l).1,evS e=0:=by
 intro l
 induction l with
 | nil=>intro _ e he;cases he
 | cons b r ih =>
  intro hb e he
  unfold t3 at he
  split at he
  ·cases he
  rename_i h1
  split at he
  ·rcases List.mem_cons.1 he with rfl | he
   ·obtain ⟨_,L,hc,_⟩:=zGJ (hb b (by simp)).2 (show (t7 n s b).2.2=0 by omega)
    exact hc.1
   ·exact ih (fun x hx=>hb x (by simp [hx])) e he
  ·cases he
theorem zCm {p:zA} {q:List (List Int)×zB} (hb:∀ b∈q.1,pF b) (hl:q.1.length≤100000):∀ (n i:Nat) (row:List zE),(q.1.drop i).length<n→row.length≤i →
  uV 200000 p q n (i:Nat) row=some (evO row (t3 p.Names p.Stacks (q.1.drop i))):=by
 intro n
 induction n with
 | zero=>intro i row h;omega
 | succ n ih =>
  intro i row hn hr
  show vC _ _ _ _ _ _=_
  unfold vC
  rcases hd:q.1.drop i with _ | ⟨x,r⟩
  ·have:=tY hd
   rw [z7 (by omega),cond_false];simp [evO,t3]
  have hlt:=qB hd
  have hx:=hb x (zGQ hd)
  rw [hd] at hn
  simp only [List.length_cons] at hn
  have hx1:=hx.1
  rw [yH (by omega),cond_true,wL hd,Option.bind_some,zDG hx.2 (by omega),Option.bind_some]
  unfold t3
  by_cases hc:(t7 p.Names p.Stacks x).2.2≠0∨(t7 p.Names p.Stacks x).2.1≠(x.length:Int)
  ·rw [show ((t7 p.Names p.Stacks x).2.2 != 0||(t7 p.Names p.Stacks x).2.1 != (x.length:Int))=true by simpa using hc,cond_true,if_pos hc];rfl
  rw [show ((t7 p.Names p.Stacks x).2.2 != 0||(t7 p.Names p.Stacks x).2.1 != (x.length:Int))=false by simpa using hc,cond_false,if_neg hc,yX (by simp;omega),Option.bind_some,uR (by omega),ih (i+1) _ (by rw [x8 hd];omega) (by simp;omega),x8 hd]
  unfold evO
  by_cases h2:(t3 p.Names p.Stacks r).2=true
  ·rw [if_pos h2,if_pos h2,if_pos rfl];simp
  ·rw [if_neg h2,if_neg h2,if_neg (by simp)]
theorem zKe {r:zB}:(v5 r).1=(yF r).1∨(v5 r).1=[]:=by
 unfold v5;split
 ·exact .inr rfl
 ·exact .inl rfl
theorem zDQ {r:zB} (h:wG r):(∀ b∈(v5 r).1,pF b)∧(v5 r).1.length≤65536:=by
 rcases zKe (r:=r) with e | e
 ·rw [e];exact ⟨zMa h,zCv h.1⟩
 ·rw [e];exact ⟨fun b hb=>(by cases hb),by simp⟩
def evP (p:zA):List zE×Bool:=t3 p.Names p.Stacks (v5 p.Ring).1
theorem zLN {X:Option (List zE⊕(List zE×Bool))} {q:List zE×Bool} (h:X=some (evO [] q)) (hq:q.2≠true→q=([],false)):(X.bind fun o_1=>(match o_1 with
 | (.inl q_1)=>some (q_1,true)
 | (.inr q_2)=>some q_2))=some q:=by
 rw [h,Option.bind_some]
 unfold evO
 by_cases h2:q.2=true
 ·rw [if_pos h2];simp only [List.nil_append];rw [← h2]
 ·rw [if_neg h2];simp only;rw [hq h2]
theorem zCE {p:zA} (h:wG p.Ring):qL 200000 p=some (evP p):=by
 unfold qL
 have ht:=zDQ h
 rw [zCZ h,Option.bind_some]
 exact zLN (by unfold evP;simpa using zCm (p:=p) (q:=v5 p.Ring) ht.1 (by omega) 200000 0 [] (by simp;omega) (by simp)) (zJt _ _ _)
theorem zL2 {p:zA} (h:wG p.Ring):(evP p).1.length≤65536∧(∀ e∈(evP p).1,e.Stack.length≤32)∧∀ e∈(evP p).1,evS e=0:=by
 have h1:=zHd p.Names p.Stacks (v5 p.Ring).1
 have h2:=zDQ h
 exact ⟨by unfold evP;omega,h1.2,zL6 _ h2.1⟩
def srt:Int→List zE→Bool
 | _,[]=>true
 | a,e::r=>decide (e.At≥a)&&srt e.At r
def t9:Int→List zE→Int
 | a,[]=>a
 | _,e::r=>t9 e.At r
theorem zHb {q:List zE×Bool} (hl:q.1.length≤100000):∀ (n i:Nat) (ok:Bool) (last:Int),(q.1.drop i).length<n→vM 200000 q n ok last (i:Nat)=some (ok&&srt last (q.1.drop i),t9 last (q.1.drop i)):=by
 intro n
 induction n with
 | zero=>intro i ok last h;omega
 | succ n ih =>
  intro i ok last hn
  show w7 _ _ _ _ _ _=_
  unfold w7
  rcases hd:q.1.drop i with _ | ⟨x,r⟩
  ·have:=tY hd
   rw [z7 (by omega),cond_false];simp [srt,t9]
  have hlt:=qB hd
  rw [hd] at hn
  simp only [List.length_cons] at hn
  rw [yH (by omega),cond_true,wL hd,Option.bind_some,uR (by omega),ih (i+1) _ _ (by rw [x8 hd];omega),x8 hd]
  simp only [srt,t9,Bool.and_assoc]
def jA (p:zA):Prop:=p.Sent<0∨p.Sent>p.Ring.First∨p.Last<0∨p.Last>1000000000000
instance decRngBad {p:zA}:Decidable (jA p):=inferInstanceAs (Decidable (_∨_))
theorem zK2 {p:zA}:(decide (p.Sent<(0:Int))||(decide (p.Sent>p.Ring.First)||(decide (p.Last<(0:Int))||decide (p.Last>(1000000000000:Int)))))=decide (jA p):=by
 by_cases h:jA p
 ·rw [yH h];unfold jA at h;simpa using h
 ·rw [z7 h];unfold jA at h;simp;omega
def kP (p:zA):Prop:=(evP p).2=false∨srt 0 (evP p).1=false∨t9 0 (evP p).1>p.Last
instance decFormBad {p:zA}:Decidable (kP p):=inferInstanceAs (Decidable (_∨_))
def xZ (p:zA):List zE×Int :=
 if qD p.Thread≠0 then ([],qD p.Thread) else if tI p.Names p.Stacks≠0 then ([],tI p.Names p.Stacks) else if (yF p.Ring).2≠0 then ([],(yF p.Ring).2) else
 if jA p then ([],2) else if kP p then ([],10) else ((evP p).1,0)
theorem nF {p:zA} (h:wG p.Ring):uM 200000 p=some (xZ p):=by
 unfold uM xZ
 rw [zAk,Option.bind_some]
 by_cases h1:qD p.Thread≠0
 ·rw [wA h1,if_pos h1];rfl
 rw [xS (by omega),cond_false,if_neg h1,j5,Option.bind_some]
 by_cases h2:tI p.Names p.Stacks≠0
 ·rw [wA h2,if_pos h2];rfl
 rw [xS (by omega),cond_false,if_neg h2,zF4 h,Option.bind_some]
 by_cases h3:(yF p.Ring).2≠0
 ·rw [wA h3,if_pos h3];rfl
 rw [xS (by omega),cond_false,if_neg h3,zK2]
 by_cases h4:jA p
 ·rw [yH h4,if_pos h4];rfl
 have hl:=zL2 h
 rw [z7 h4,cond_false,if_neg h4,zCE h,Option.bind_some,show vM 200000 (evP p) 200000 (evP p).2 0 0=_ from zHb (by omega) 200000 0 _ 0 (by simp;omega),Option.bind_some,List.drop_zero]
 simp only
 have ec:(!((evP p).2&&srt 0 (evP p).1)||decide (t9 0 (evP p).1>p.Last))=decide (kP p):=by
  by_cases h5:kP p
  ·rw [yH h5];unfold kP at h5
   rcases h5 with e | e | e
   ·rw [e];rfl
   ·rw [e];simp
   ·rw [yH e];simp
  ·rw [z7 h5];unfold kP at h5
   have e1:(evP p).2=true:=by cases hx:(evP p).2<;>simp_all
   have e2:srt 0 (evP p).1=true:=by cases hx:srt 0 (evP p).1<;>simp_all
   rw [e1,e2,z7 (by omega)];rfl
 rw [ec]
 by_cases h5:kP p
 ·rw [yH h5,if_pos h5];rfl
 ·rw [z7 h5,if_neg h5];rfl
theorem zAB {p:zA} (h:wG p.Ring):tV 200000 p=some (xZ p).2:=by
 unfold tV
 rw [nF h,Option.bind_some]
def zGw (id first lost:Int) (l:List zE):List zW:=if l.length=0 then [] else [⟨id,first,lost,l⟩]
theorem zLJ {a b:Int} (h:a≤b):xL a b=a:=by unfold xL;rw [if_neg (by omega)]
theorem zJh {p:zA} {l:List zE} {a b:Int} (hl:l.length≤1000) (h0:0≤a) (h1:a≤1000000000000000):vG 200000 p 200000 l a b []=some (zGw p.Thread.Id a b l):=by
 unfold zGw
 obtain ⟨g,hg⟩:∃ g,200000=g+2:=⟨199998,rfl⟩
 have stop:∀ K n a b row,vG K p (n+1) [] a b row=some row:=fun K n a b row=>by
  show xY _ _ _ _ _ _ _=_
  unfold xY
  rw [z7 (by simp),cond_false]
 suffices h:∀ K,vG K p (g+2) l a b []=some (if l.length=0 then [] else [⟨p.Thread.Id,a,b,l⟩]) by rw [← hg] at h;exact h _
 intro K
 by_cases hz:l.length=0
 ·rw [List.length_eq_zero_iff.1 hz];exact stop K (g+1) a b []
 ·rw [if_neg hz]
  show xY _ _ _ _ _ _ _=_
  unfold xY
  rw [yH (by omega),cond_true,zLJ (show (l.length:Int)≤1000 by omega),yX (by omega),Option.bind_some,yX (by simp),Option.bind_some,Option.bind_some,zC4,Int.toNat_natCast,List.drop_length,show sub l 0 (l.length:Int)=l by simp [sub]]
  exact stop K g _ _ _
def zBg (p:zA):List zW×zA :=
 if (xZ p).2≠0 then ([],p) else (zGw p.Thread.Id p.Ring.First (zH (p.Ring.First - p.Sent)) (xZ p).1,⟨p.Thread,p.Names,p.Stacks,(v5 p.Ring).2,p.Last,(v5 p.Ring).2.Next⟩)
theorem zAp {p:zA} (h:(xZ p).2=0):qD p.Thread=0∧x7 p.Names p.Stacks∧(yF p.Ring).2=0∧¬ jA p∧(evP p).2=true∧srt 0 (evP p).1=true∧t9 0 (evP p).1≤p.Last∧(xZ p).1=(evP p).1:=by
 unfold xZ at h ⊢
 split at h
 ·rename_i h1;exact absurd h h1
 rename_i h1
 split at h
 ·rename_i h2;exact absurd h h2
 rename_i h2
 split at h
 ·rename_i h3;exact absurd h h3
 rename_i h3
 split at h
 ·cases h
 rename_i h4
 split at h
 ·cases h
 rename_i h5
 rw [if_neg h1,if_neg h2,if_neg h3,if_neg h4,if_neg h5]
 unfold kP at h5
 refine ⟨by omega,nU.1 (by omega),by omega,h4,?_,?_,by omega,rfl⟩
 ·cases hx:(evP p).2<;>simp_all
 ·cases hx:srt 0 (evP p).1<;>simp_all
theorem zFf {p:zA} (h1:qD p.Thread=0) (h2:x7 p.Names p.Stacks) (h3:(yF p.Ring).2=0) (h4:¬ jA p) (h5:(evP p).2=true) (h6:srt 0 (evP p).1=true) (h7:t9 0 (evP p).1≤p.Last):xZ p=((evP p).1,0):=by
 unfold xZ
 have:=nU.2 h2
 rw [if_neg (by omega),if_neg (by omega),if_neg (by omega),if_neg h4,if_neg]
 unfold kP
 rw [h5,h6];simp;omega
theorem zJN {r:zB} (h:wG r) (hz:(yF r).2=0):(yF r).1.length≤r.Data.length:=by
 obtain ⟨_,g,he,_⟩:=jO hz
 have hb:=pX h.1
 have:=zHo (x5 r).length (x5 r) hb (by
  unfold uT at he
  split at he
  ·rename_i hx;exact hx
  ·exact absurd (congrArg Prod.snd he) (by simp))
 have h2:(yF r).1=(recs (x5 r).length (x5 r)).1:=by
  unfold uT at he
  split at he
  ·rw [he]
  ·exact absurd (congrArg Prod.snd he) (by simp)
 rw [zAb] at this h2
 have h3:=zFv g
 rw [h2];omega
theorem zJH {p:zA} (h:wG p.Ring) (hz:(xZ p).2=0):(xZ p).1.length≤p.Ring.Data.length:=by
 obtain ⟨_,_,h3,_,_,_,_,h8⟩:=zAp hz
 have h1:=(zHd p.Names p.Stacks (v5 p.Ring).1).1
 have h2:=zJN h h3
 have h4:(v5 p.Ring).1=(yF p.Ring).1:=by unfold v5;rw [if_neg (by omega)]
 rw [h4] at h1
 rw [h8];unfold evP;rw [h4];omega
theorem zAd {p:zA} (hz:(xZ p).2=0):0≤p.Sent∧p.Sent≤p.Ring.First∧p.Ring.First≤p.Ring.Next∧p.Ring.Next≤1000000000000000∧0≤p.Last∧p.Last≤1000000000000:=by
 obtain ⟨_,_,h3,h4,_⟩:=zAp hz
 have g:=zDY (jO h3).2.1
 unfold jA at h4
 unfold tG at g
 omega
theorem zAC {p:zA} (h:wG p.Ring) (hd:p.Ring.Data.length≤1000):vZ 200000 p=some (zBg p):=by
 unfold vZ zBg
 rw [nF h,Option.bind_some]
 by_cases hz:(xZ p).2≠0
 ·rw [wA hz,if_pos hz];rfl
 have hf:=zAd (show (xZ p).2=0 by omega)
 have hc:=zJH h (show (xZ p).2=0 by omega)
 rw [xS (by omega),cond_false,if_neg hz,zJh (by omega) (by omega) (by omega),Option.bind_some,zCZ h,Option.bind_some]
def zJB (p:zA):Int:=if (xZ p).2≠0 then 0 else zH (p.Ring.First - p.Sent)
theorem zDJ {p:zA} (h:wG p.Ring):tH 200000 p=some (zJB p):=by
 unfold tH zJB
 rw [zAB h,Option.bind_some]
 by_cases hz:(xZ p).2≠0
 ·rw [wA hz,if_pos hz];rfl
 ·rw [xS (by omega),if_neg hz];rfl
def pr0:zA:=⟨⟨0,[],0⟩,[],[],⟨0,[],0,0,0,0⟩,0,0⟩
def zBe (p:zA) (e:zE):zA×Int :=
 if (xZ p).2≠0 then (pr0,(xZ p).2) else if evS e≠0 then (pr0,evS e) else if e.At<p.Last then (pr0,11) else
 if (xO p.Names p.Stacks e).2.2.2≠0 then (pr0,(xO p.Names p.Stacks e).2.2.2) else if (qI p.Ring (xO p.Names p.Stacks e).1).2.2≠0 then (pr0,(qI p.Ring (xO p.Names p.Stacks e).1).2.2) else
 (⟨p.Thread,(xO p.Names p.Stacks e).2.1,(xO p.Names p.Stacks e).2.2.1,(qI p.Ring (xO p.Names p.Stacks e).1).1,e.At,p.Sent⟩,0)
theorem zIL {n:List (List Int)} {s:List zI} {e:zE} (h:(xO n s e).2.2.2=0):(xO n s e).1.length≤50∧∀ x∈(xO n s e).1,yW x:=by
 rcases zCj (n:=n) (s:=s) (e:=e) with ⟨h1,_⟩ | ⟨_,g,g2,_,_,L,hL,hc⟩
 ·exact absurd h h1
 ·have:=zKX g2 hc
  rw [hL];exact ⟨this.2.2,this.1⟩
theorem zDl {p:zA} {e:zE} (h:wG p.Ring):vA 200000 p e=some (zBe p e):=by
 unfold vA zBe
 rw [zAB h,Option.bind_some]
 by_cases h1:(xZ p).2≠0
 ·rw [wA h1,if_pos h1];rfl
 have hg:=(zAp (show (xZ p).2=0 by omega)).2.1
 have hn:=hg.n1
 have hs:=hg.s1
 rw [xS (by omega),cond_false,if_neg h1,nI,Option.bind_some]
 by_cases h2:evS e≠0
 ·rw [wA h2,if_pos h2];rfl
 rw [xS (by omega),cond_false,if_neg h2]
 by_cases h3:e.At<p.Last
 ·rw [yH h3,if_pos h3];rfl
 rw [z7 h3,cond_false,if_neg h3,zD5 (by omega) (by omega),Option.bind_some]
 by_cases h4:(xO p.Names p.Stacks e).2.2.2≠0
 ·rw [wA h4,if_pos h4];rfl
 have hl:=zIL (show (xO p.Names p.Stacks e).2.2.2=0 by omega)
 rw [xS (by omega),cond_false,if_neg h4,zIr h (by omega),Option.bind_some]
 by_cases h5:(qI p.Ring (xO p.Names p.Stacks e).1).2.2≠0
 ·rw [wA h5,if_pos h5];rfl
 ·rw [xS (by omega),if_neg h5];rfl
def zAw (t:zC) (size pol:Int):zA×Int :=
 if qD t≠0 then (pr0,qD t) else if size<16∨size>65536 then (pr0,2) else if pol≠1∧pol≠2 then (pr0,1) else (⟨t,[],[],⟨pol,List.replicate size.toNat 0,0,0,0,0⟩,0,0⟩,0)
theorem zEj {t:zC} {size pol:Int}:uS 200000 t size pol=some (zAw t size pol):=by
 unfold uS zAw zCh
 rw [zAk,Option.bind_some]
 by_cases h1:qD t≠0
 ·rw [wA h1,if_pos h1];rfl
 rw [xS (by omega),cond_false,if_neg h1]
 by_cases h2:size<16∨size>65536
 ·rw [zHt h2,if_pos h2];rfl
 rw [zJF h2,cond_false,if_neg h2]
 by_cases h3:pol≠1∧pol≠2
 ·rw [show ((pol != (1:Int))&&(pol != (2:Int)))=true by simpa using h3,if_pos h3];rfl
 ·rw [show ((pol != (1:Int))&&(pol != (2:Int)))=false by simp;omega,cond_false,if_neg h3,yX (by omega)];rfl
structure PB (p:zA):Prop where
 ring:wG p.Ring
 names:p.Names.length≤100000
 stacks:p.Stacks.length≤100000
theorem zDB {l:List zE} (hl:l.length≤100000) (hs:∀ e∈l,e.Stack.length≤100000):pD 200000 l l=some true:=by
 unfold pD
 rw [xS rfl,cond_false,zB1 (l:=l) (jE 200000 l l) (fun _ _=>none) (fun n i hi=>by
  show w3 _ _ _ _ _=_
  unfold w3
  rw [z7 (by omega),cond_false]) (fun n i x r hd hlt=>by
  refine ⟨fun b hb=>(by cases hb),fun _=>?_⟩
  show w3 _ _ _ _ _=_
  unfold w3
  rw [yH (by omega),cond_true,wL hd,Option.bind_some,Option.bind_some,zIc (hs x (zGQ hd)),Option.bind_some,yH rfl,Bool.not_true,cond_false,uR (by omega)]) (by omega),zHS (fun _ _ _=>rfl),Option.bind_some]
theorem zMd:zAm 200000=some true:=by kernel_rfl
end Go.Ab
