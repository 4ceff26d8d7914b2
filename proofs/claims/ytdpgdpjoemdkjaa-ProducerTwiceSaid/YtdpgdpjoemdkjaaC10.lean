/- Producers: what the functions compute. -/
import Derived.Test.YtdpgdpjoemdkjaaB10g
import Derived.Test.YtdpgdpjoemdkjaaB10j
import Derived.Test.YtdpgdpjoemdkjaaB10k
namespace Go.Ab
open Go
set_option linter.unusedVariables false
theorem zMr {n:List (List Int)} {s:List zJ} {b:List Int}:(j0 n s b).1.Stack.length≤32:=by
 unfold j0
 split
 ·simp [ev0]
 split
 ·simp [ev0]
 split
 ·simp [ev0]
 split
 ·simp [ev0]
 split
 ·simp [ev0]
 ·exact zK1
theorem zNO {r:zB} (h:vA r):∀ b∈(yZ r).1,zAI b:=by
 intro b hb
 by_cases hz:(yZ r).2=0
 ·obtain ⟨_,g,he,_⟩:=kL hz
  exact (zEZ (pT h.1) he).2 b hb
 ·unfold yZ at hz hb
  split at hb
  ·cases hb
  rename_i h1
  split at hb
  ·cases hb
  rename_i h2
  rw [if_neg h1,if_neg h2] at hz
  simp only at hz hb
  split at hb
  ·cases hb
  ·rename_i h3
   rw [if_neg h3] at hz
   exact absurd rfl hz
def j1 (n:List (List Int)) (s:List zJ):List (List Int)→List zE×Bool
 | []=>([],true)
 | b::r=>if (j0 n s b).2.2≠0∨(j0 n s b).2.1≠(b.length:Int) then ([],false) else if (j1 n s r).2=true then ((j0 n s b).1::(j1 n s r).1,true) else ([],false)
def evO (row:List zE) (q:List zE×Bool):List zE⊕(List zE×Bool):=if q.2=true then .inl (row++q.1) else .inr ([],false)
theorem zLd (n:List (List Int)) (s:List zJ) (l:List (List Int)) (h:(j1 n s l).2≠true):j1 n s l=([],false):=by
 cases l with
 | nil=>exact absurd rfl h
 | cons b r =>
  unfold j1 at h ⊢
  split
  ·rfl
  split
  ·rename_i h1 h2;rw [if_neg h1,if_pos h2] at h;exact absurd rfl h
  ·rfl
theorem zIh (n:List (List Int)) (s:List zJ):∀ l:List (List Int),(j1 n s l).1.length≤l.length∧∀ e∈(j1 n s l).1,e.Stack.length≤32:=by
 intro l
 induction l with
 | nil=>simp [j1]
 | cons b r ih =>
  unfold j1
  split
  ·simp
  split
  ·refine ⟨by simp;exact ih.1,fun e he=>?_⟩
   rcases List.mem_cons.1 he with rfl | he
   ·exact zMr
   ·exact ih.2 e he
  ·simp
theorem zNK {n:List (List Int)} {s:List zJ}:∀ l:List (List Int),(∀ b∈l,zAI b)→∀ e∈(j1 n s l).1,evS e=0:=by
 intro l
 induction l with
 | nil=>intro _ e he;cases he
 | cons b r ih =>
  intro hb e he
  unfold j1 at he
  split at he
  ·cases he
  rename_i h1
  split at he
  ·rcases List.mem_cons.1 he with rfl | he
   ·obtain ⟨_,L,hc,_⟩:=zJu (hb b (by simp)).2 (show (j0 n s b).2.2=0 by omega)
    exact hc.1
   ·exact ih (fun x hx=>hb x (by simp [hx])) e he
  ·cases he
theorem zD2 {p:zA} {q:List (List Int)×zB} (hb:∀ b∈q.1,zAI b) (hl:q.1.length≤100000):∀ (n i:Nat) (row:List zE),(q.1.drop i).length<n→row.length≤i →
  q8 200000 p q n (i:Nat) row=some (evO row (j1 p.Names p.Stacks (q.1.drop i))):=by
 intro n
 induction n with
 | zero=>intro i row h;omega
 | succ n ih =>
  intro i row hn hr
  show uN _ _ _ _ _ _=_
  unfold uN
  rcases hd:q.1.drop i with _ | ⟨x,r⟩
  ·have:=drop_nil hd
   rw [yR (by omega),cond_false];simp [evO,j1]
  have hlt:=pF hd
  have hx:=hb x (zNd hd)
  rw [hd] at hn
  simp only [List.length_cons] at hn
  have hx1:=hx.1
  rw [y4 (by omega),cond_true,vH hd,Option.bind_some,zFd hx.2 (by omega),Option.bind_some]
  unfold j1
  by_cases hc:(j0 p.Names p.Stacks x).2.2≠0∨(j0 p.Names p.Stacks x).2.1≠(x.length:Int)
  ·rw [show ((j0 p.Names p.Stacks x).2.2 != 0||(j0 p.Names p.Stacks x).2.1 != (x.length:Int))=true by simpa using hc,cond_true,if_pos hc];rfl
  rw [show ((j0 p.Names p.Stacks x).2.2 != 0||(j0 p.Names p.Stacks x).2.1 != (x.length:Int))=false by simpa using hc,cond_false,if_neg hc,xO (by simp;omega),Option.bind_some,qM (by omega),ih (i+1) _ (by rw [uF hd];omega) (by simp;omega),uF hd]
  unfold evO
  by_cases h2:(j1 p.Names p.Stacks r).2=true
  ·rw [if_pos h2,if_pos h2,if_pos rfl];simp
  ·rw [if_neg h2,if_neg h2,if_neg (by simp)]
theorem zLS {r:zB}:(v9 r).1=(yZ r).1∨(v9 r).1=[]:=by
 unfold v9;split
 ·exact .inr rfl
 ·exact .inl rfl
theorem zDV {r:zB} (h:vA r):(∀ b∈(v9 r).1,zAI b)∧(v9 r).1.length≤65536:=by
 rcases zLS (r:=r) with e | e
 ·rw [e];exact ⟨zNO h,zEi h.1⟩
 ·rw [e];exact ⟨fun b hb=>(by cases hb),by simp⟩
def evP (p:zA):List zE×Bool:=j1 p.Names p.Stacks (v9 p.Ring).1
theorem zNC {X:Option (List zE⊕(List zE×Bool))} {q:List zE×Bool} (h:X=some (evO [] q)) (hq:q.2≠true→q=([],false)):(X.bind fun o_1=>(match o_1 with
 | (.inl q_1)=>some (q_1,true)
 | (.inr q_2)=>some q_2))=some q:=by
 rw [h,Option.bind_some]
 unfold evO
 by_cases h2:q.2=true
 ·rw [if_pos h2];simp only [List.nil_append];rw [← h2]
 ·rw [if_neg h2];simp only;rw [hq h2]
theorem zEa {p:zA} (h:vA p.Ring):kM 200000 p=some (evP p):=by
 unfold kM
 have ht:=zDV h
 rw [zEv h,Option.bind_some]
 exact zNC (by unfold evP;simpa using zD2 (p:=p) (q:=v9 p.Ring) ht.1 (by omega) 200000 0 [] (by simp;omega) (by simp)) (zLd _ _ _)
theorem zNS {p:zA} (h:vA p.Ring):(evP p).1.length≤65536∧(∀ e∈(evP p).1,e.Stack.length≤32)∧∀ e∈(evP p).1,evS e=0:=by
 have h1:=zIh p.Names p.Stacks (v9 p.Ring).1
 have h2:=zDV h
 exact ⟨by unfold evP;omega,h1.2,zNK _ h2.1⟩
def srt:Int→List zE→Bool
 | _,[]=>true
 | a,e::r=>decide (e.At≥a)&&srt e.At r
def kA:Int→List zE→Int
 | a,[]=>a
 | _,e::r=>kA e.At r
theorem zJC {q:List zE×Bool} (hl:q.1.length≤100000):∀ (n i:Nat) (ok:Bool) (last:Int),(q.1.drop i).length<n→uX 200000 q n ok last (i:Nat)=some (ok&&srt last (q.1.drop i),kA last (q.1.drop i)):=by
 intro n
 induction n with
 | zero=>intro i ok last h;omega
 | succ n ih =>
  intro i ok last hn
  show uE _ _ _ _ _ _=_
  unfold uE
  rcases hd:q.1.drop i with _ | ⟨x,r⟩
  ·have:=drop_nil hd
   rw [yR (by omega),cond_false];simp [srt,kA]
  have hlt:=pF hd
  rw [hd] at hn
  simp only [List.length_cons] at hn
  rw [y4 (by omega),cond_true,vH hd,Option.bind_some,qM (by omega),ih (i+1) _ _ (by rw [uF hd];omega),uF hd]
  simp only [srt,kA,Bool.and_assoc]
def pH (p:zA):Prop:=p.Sent<0∨p.Sent>p.Ring.First∨p.Last<0∨p.Last>1000000000000
instance decRngBad {p:zA}:Decidable (pH p):=inferInstanceAs (Decidable (_∨_))
theorem zMv {p:zA}:(decide (p.Sent<(0:Int))||(decide (p.Sent>p.Ring.First)||(decide (p.Last<(0:Int))||decide (p.Last>(1000000000000:Int)))))=decide (pH p):=by
 by_cases h:pH p
 ·rw [y4 h];unfold pH at h;simpa using h
 ·rw [yR h];unfold pH at h;simp;omega
def zAi (p:zA):Prop:=(evP p).2=false∨srt 0 (evP p).1=false∨kA 0 (evP p).1>p.Last
instance decFormBad {p:zA}:Decidable (zAi p):=inferInstanceAs (Decidable (_∨_))
def vX (p:zA):List zE×Int :=
 if kH p.Thread≠0 then ([],kH p.Thread) else if jN p.Names p.Stacks≠0 then ([],jN p.Names p.Stacks) else if (yZ p.Ring).2≠0 then ([],(yZ p.Ring).2) else
 if pH p then ([],2) else if zAi p then ([],10) else ((evP p).1,0)
theorem zBl {p:zA} (h:vA p.Ring):qP 200000 p=some (vX p):=by
 unfold qP vX
 rw [zBS,Option.bind_some]
 by_cases h1:kH p.Thread≠0
 ·rw [w4 h1,if_pos h1];rfl
 rw [xS (by omega),cond_false,if_neg h1,nV,Option.bind_some]
 by_cases h2:jN p.Names p.Stacks≠0
 ·rw [w4 h2,if_pos h2];rfl
 rw [xS (by omega),cond_false,if_neg h2,zH2 h,Option.bind_some]
 by_cases h3:(yZ p.Ring).2≠0
 ·rw [w4 h3,if_pos h3];rfl
 rw [xS (by omega),cond_false,if_neg h3,zMv]
 by_cases h4:pH p
 ·rw [y4 h4,if_pos h4];rfl
 have hl:=zNS h
 rw [yR h4,cond_false,if_neg h4,zEa h,Option.bind_some,show uX 200000 (evP p) 200000 (evP p).2 0 0=_ from zJC (by omega) 200000 0 _ 0 (by simp;omega),Option.bind_some,List.drop_zero]
 simp only
 have ec:(!((evP p).2&&srt 0 (evP p).1)||decide (kA 0 (evP p).1>p.Last))=decide (zAi p):=by
  by_cases h5:zAi p
  ·rw [y4 h5];unfold zAi at h5
   rcases h5 with e | e | e
   ·rw [e];rfl
   ·rw [e];simp
   ·rw [y4 e];simp
  ·rw [yR h5];unfold zAi at h5
   have e1:(evP p).2=true:=by cases hx:(evP p).2<;>simp_all
   have e2:srt 0 (evP p).1=true:=by cases hx:srt 0 (evP p).1<;>simp_all
   rw [e1,e2,yR (by omega)];rfl
 rw [ec]
 by_cases h5:zAi p
 ·rw [y4 h5,if_pos h5];rfl
 ·rw [yR h5,if_neg h5];rfl
theorem zAB {p:zA} (h:vA p.Ring):qN 200000 p=some (vX p).2:=by
 unfold qN
 rw [zBl h,Option.bind_some]
def zJj (id first lost:Int) (l:List zE):List yJ:=if l.length=0 then [] else [⟨id,first,lost,l⟩]
theorem zNV {a b:Int} (h:a≤b):vZ a b=a:=by unfold vZ;rw [if_neg (by omega)]
theorem zKy {p:zA} {l:List zE} {a b:Int} (hl:l.length≤1000) (h0:0≤a) (h1:a≤1000000000000000):uS 200000 p 200000 l a b []=some (zJj p.Thread.Id a b l):=by
 unfold zJj
 obtain ⟨g,hg⟩:∃ g,200000=g+2:=⟨199998,rfl⟩
 have stop:∀ K n a b row,uS K p (n+1) [] a b row=some row:=fun K n a b row=>by
  show vD _ _ _ _ _ _ _=_
  unfold vD
  rw [yR (by simp),cond_false]
 suffices h:∀ K,uS K p (g+2) l a b []=some (if l.length=0 then [] else [⟨p.Thread.Id,a,b,l⟩]) by rw [← hg] at h;exact h _
 intro K
 by_cases hz:l.length=0
 ·rw [List.length_eq_zero_iff.1 hz];exact stop K (g+1) a b []
 ·rw [if_neg hz]
  show vD _ _ _ _ _ _ _=_
  unfold vD
  rw [y4 (by omega),cond_true,zNV (show (l.length:Int)≤1000 by omega),xO (by omega),Option.bind_some,xO (by simp),Option.bind_some,Option.bind_some,zEL,Int.toNat_natCast,List.drop_length,show sub l 0 (l.length:Int)=l by simp [sub]]
  exact stop K g _ _ _
def zAZ (p:zA):List yJ×zA :=
 if (vX p).2≠0 then ([],p) else (zJj p.Thread.Id p.Ring.First (zG (p.Ring.First - p.Sent)) (vX p).1,⟨p.Thread,p.Names,p.Stacks,(v9 p.Ring).2,p.Last,(v9 p.Ring).2.Next⟩)
theorem zAb {p:zA} (h:(vX p).2=0):kH p.Thread=0∧vB p.Names p.Stacks∧(yZ p.Ring).2=0∧¬ pH p∧(evP p).2=true∧srt 0 (evP p).1=true∧kA 0 (evP p).1≤p.Last∧(vX p).1=(evP p).1:=by
 unfold vX at h ⊢
 split at h
 ·rename_i h1;exact absurd h h1
 rename_i h1
 split at h
 ·rename_i h2;exact absurd h h2
 rename_i h2
 split at h
 ·rename_i h3;exact absurd h h3
 rename_i h3
 split at h
 ·cases h
 rename_i h4
 split at h
 ·cases h
 rename_i h5
 rw [if_neg h1,if_neg h2,if_neg h3,if_neg h4,if_neg h5]
 unfold zAi at h5
 refine ⟨by omega,zAP.1 (by omega),by omega,h4,?_,?_,by omega,rfl⟩
 ·cases hx:(evP p).2<;>simp_all
 ·cases hx:srt 0 (evP p).1<;>simp_all
theorem zHb {p:zA} (h1:kH p.Thread=0) (h2:vB p.Names p.Stacks) (h3:(yZ p.Ring).2=0) (h4:¬ pH p) (h5:(evP p).2=true) (h6:srt 0 (evP p).1=true) (h7:kA 0 (evP p).1≤p.Last):vX p=((evP p).1,0):=by
 unfold vX
 have:=zAP.2 h2
 rw [if_neg (by omega),if_neg (by omega),if_neg (by omega),if_neg h4,if_neg]
 unfold zAi
 rw [h5,h6];simp;omega
theorem zMq {r:zB} (h:vA r) (hz:(yZ r).2=0):(yZ r).1.length≤r.Data.length:=by
 obtain ⟨_,g,he,_⟩:=kL hz
 have hb:=pT h.1
 have:=zIQ (wW r).length (wW r) hb (by
  unfold tF at he
  split at he
  ·rename_i hx;exact hx
  ·exact absurd (congrArg Prod.snd he) (by simp))
 have h2:(yZ r).1=(recs (wW r).length (wW r)).1:=by
  unfold tF at he
  split at he
  ·rw [he]
  ·exact absurd (congrArg Prod.snd he) (by simp)
 rw [nL] at this h2
 have h3:=zDf g
 rw [h2];omega
theorem zLU {p:zA} (h:vA p.Ring) (hz:(vX p).2=0):(vX p).1.length≤p.Ring.Data.length:=by
 obtain ⟨_,_,h3,_,_,_,_,h8⟩:=zAb hz
 have h1:=(zIh p.Names p.Stacks (v9 p.Ring).1).1
 have h2:=zMq h h3
 have h4:(v9 p.Ring).1=(yZ p.Ring).1:=by unfold v9;rw [if_neg (by omega)]
 rw [h4] at h1
 rw [h8];unfold evP;rw [h4];omega
theorem pO {p:zA} (hz:(vX p).2=0):0≤p.Sent∧p.Sent≤p.Ring.First∧p.Ring.First≤p.Ring.Next∧p.Ring.Next≤1000000000000000∧0≤p.Last∧p.Last≤1000000000000:=by
 obtain ⟨_,_,h3,h4,_⟩:=zAb hz
 have g:=zFE (kL h3).2.1
 unfold pH at h4
 unfold tM at g
 omega
theorem zAv {p:zA} (h:vA p.Ring) (hd:p.Ring.Data.length≤1000):uL 200000 p=some (zAZ p):=by
 unfold uL zAZ
 rw [zBl h,Option.bind_some]
 by_cases hz:(vX p).2≠0
 ·rw [w4 hz,if_pos hz];rfl
 have hf:=pO (show (vX p).2=0 by omega)
 have hc:=zLU h (show (vX p).2=0 by omega)
 rw [xS (by omega),cond_false,if_neg hz,zKy (by omega) (by omega) (by omega),Option.bind_some,zEv h,Option.bind_some]
def zH8 (p:zA):Int:=if (vX p).2≠0 then 0 else zG (p.Ring.First - p.Sent)
theorem zFn {p:zA} (h:vA p.Ring):kF 200000 p=some (zH8 p):=by
 unfold kF zH8
 rw [zAB h,Option.bind_some]
 by_cases hz:(vX p).2≠0
 ·rw [w4 hz,if_pos hz];rfl
 ·rw [xS (by omega),if_neg hz];rfl
def pr0:zA:=⟨⟨0,[],0⟩,[],[],⟨0,[],0,0,0,0⟩,0,0⟩
def zAL (p:zA) (e:zE):zA×Int :=
 if (vX p).2≠0 then (pr0,(vX p).2) else if evS e≠0 then (pr0,evS e) else if e.At<p.Last then (pr0,11) else
 if (wN p.Names p.Stacks e).2.2.2≠0 then (pr0,(wN p.Names p.Stacks e).2.2.2) else if (j8 p.Ring (wN p.Names p.Stacks e).1).2.2≠0 then (pr0,(j8 p.Ring (wN p.Names p.Stacks e).1).2.2) else
 (⟨p.Thread,(wN p.Names p.Stacks e).2.1,(wN p.Names p.Stacks e).2.2.1,(j8 p.Ring (wN p.Names p.Stacks e).1).1,e.At,p.Sent⟩,0)
theorem zKq {n:List (List Int)} {s:List zJ} {e:zE} (h:(wN n s e).2.2.2=0):(wN n s e).1.length≤50∧∀ x∈(wN n s e).1,xJ x:=by
 rcases zDX (n:=n) (s:=s) (e:=e) with ⟨h1,_⟩ | ⟨_,g,g2,_,_,L,hL,hc⟩
 ·exact absurd h h1
 ·have:=zIE g2 hc
  rw [hL];exact ⟨this.2.2,this.1⟩
theorem zCb {p:zA} {e:zE} (h:vA p.Ring):vN 200000 p e=some (zAL p e):=by
 unfold vN zAL
 rw [zAB h,Option.bind_some]
 by_cases h1:(vX p).2≠0
 ·rw [w4 h1,if_pos h1];rfl
 have hg:=(zAb (show (vX p).2=0 by omega)).2.1
 have hn:=hg.n1
 have hs:=hg.s1
 rw [xS (by omega),cond_false,if_neg h1,zBw,Option.bind_some]
 by_cases h2:evS e≠0
 ·rw [w4 h2,if_pos h2];rfl
 rw [xS (by omega),cond_false,if_neg h2]
 by_cases h3:e.At<p.Last
 ·rw [y4 h3,if_pos h3];rfl
 rw [yR h3,cond_false,if_neg h3,zFC (by omega) (by omega),Option.bind_some]
 by_cases h4:(wN p.Names p.Stacks e).2.2.2≠0
 ·rw [w4 h4,if_pos h4];rfl
 have hl:=zKq (show (wN p.Names p.Stacks e).2.2.2=0 by omega)
 rw [xS (by omega),cond_false,if_neg h4,zJI h (by omega),Option.bind_some]
 by_cases h5:(j8 p.Ring (wN p.Names p.Stacks e).1).2.2≠0
 ·rw [w4 h5,if_pos h5];rfl
 ·rw [xS (by omega),if_neg h5];rfl
def zDL (t:zC) (size pol:Int):zA×Int :=
 if kH t≠0 then (pr0,kH t) else if size<16∨size>65536 then (pr0,2) else if pol≠1∧pol≠2 then (pr0,1) else (⟨t,[],[],⟨pol,List.replicate size.toNat 0,0,0,0,0⟩,0,0⟩,0)
theorem zGd {t:zC} {size pol:Int}:qY 200000 t size pol=some (zDL t size pol):=by
 unfold qY zDL zDP
 rw [zBS,Option.bind_some]
 by_cases h1:kH t≠0
 ·rw [w4 h1,if_pos h1];rfl
 rw [xS (by omega),cond_false,if_neg h1]
 by_cases h2:size<16∨size>65536
 ·rw [zJy h2,if_pos h2];rfl
 rw [zKz h2,cond_false,if_neg h2]
 by_cases h3:pol≠1∧pol≠2
 ·rw [show ((pol != (1:Int))&&(pol != (2:Int)))=true by simpa using h3,if_pos h3];rfl
 ·rw [show ((pol != (1:Int))&&(pol != (2:Int)))=false by simp;omega,cond_false,if_neg h3,xO (by omega)];rfl
structure PB (p:zA):Prop where
 ring:vA p.Ring
 names:p.Names.length≤100000
 stacks:p.Stacks.length≤100000
theorem zHE {p:zA} (h:PB p):zCu 200000 p p=some true:=by
 unfold zCu
 have ht:=zDV h.ring
 rw [y4 rfl,Bool.not_true,cond_false,zHa h.names,Option.bind_some,Bool.not_true,cond_false,zGb h.stacks,Option.bind_some,Bool.not_true,cond_false,xS rfl,xS rfl,cond_false,Option.bind_some,cond_false,xS rfl,xS rfl,xS rfl,xS rfl,xS rfl,xS rfl]
 simp only [Bool.or_self,cond_false]
 rw [zJ0 h.ring,Option.bind_some,Option.bind_some,xS rfl,cond_false]
 rw [zBy (l:=(v9 p.Ring).1) (zAG 200000 (v9 p.Ring) (v9 p.Ring)) (fun _ _=>none) (fun n i hi=>by
  show tC _ _ _ _ _=_
  unfold tC
  rw [yR (by omega),cond_false]) (fun n i x r hd hlt=>by
  refine ⟨fun b hb=>(by cases hb),fun _=>?_⟩
  show tC _ _ _ _ _=_
  unfold tC
  rw [y4 (by omega),cond_true,vH hd,Option.bind_some,Option.bind_some,BEq.rfl,Bool.not_true,cond_false,qM (by omega)]) (by omega),zCv (fun _ _ _=>rfl),Option.bind_some]
theorem zNF:zBZ 200000=some true:=by kernel_rfl
end Go.Ab
