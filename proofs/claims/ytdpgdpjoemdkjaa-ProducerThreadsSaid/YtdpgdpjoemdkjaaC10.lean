/- Producers: what the functions compute. -/
import Derived.Test.YtdpgdpjoemdkjaaB10g
import Derived.Test.YtdpgdpjoemdkjaaB10j
import Derived.Test.YtdpgdpjoemdkjaaB10k
namespace Go.Ab
open Go
set_option linter.unusedVariables false
theorem zKn {n:List (List Int)} {s:List zI} {b:List Int}:(tF n s b).1.Stack.length≤32:=by
 unfold tF
 split
 ·simp [ev0]
 split
 ·simp [ev0]
 split
 ·simp [ev0]
 split
 ·simp [ev0]
 split
 ·simp [ev0]
 ·exact zIN
theorem zLM {r:zB} (h:wF r):∀ b∈(yI r).1,zAb b:=by
 intro b hb
 by_cases hz:(yI r).2=0
 ·obtain ⟨_,g,he,_⟩:=q9 hz
  exact (zDs (kJ h.1) he).2 b hb
 ·unfold yI at hz hb
  split at hb
  ·cases hb
  rename_i h1
  split at hb
  ·cases hb
  rename_i h2
  rw [if_neg h1,if_neg h2] at hz
  simp only at hz hb
  split at hb
  ·cases hb
  ·rename_i h3
   rw [if_neg h3] at hz
   exact absurd rfl hz
def tJ (n:List (List Int)) (s:List zI):List (List Int)→List zF×Bool
 | []=>([],true)
 | b::r=>if (tF n s b).2.2≠0∨(tF n s b).2.1≠(b.length:Int) then ([],false) else if (tJ n s r).2=true then ((tF n s b).1::(tJ n s r).1,true) else ([],false)
def evO (row:List zF) (q:List zF×Bool):List zF⊕(List zF×Bool):=if q.2=true then .inl (row++q.1) else .inr ([],false)
theorem zJx (n:List (List Int)) (s:List zI) (l:List (List Int)) (h:(tJ n s l).2≠true):tJ n s l=([],false):=by
 cases l with
 | nil=>exact absurd rfl h
 | cons b r =>
  unfold tJ at h ⊢
  split
  ·rfl
  split
  ·rename_i h1 h2;rw [if_neg h1,if_pos h2] at h;exact absurd rfl h
  ·rfl
theorem zLu (n:List (List Int)) (s:List zI):∀ l:List (List Int),(tJ n s l).1.length≤l.length∧∀ e∈(tJ n s l).1,e.Stack.length≤32:=by
 intro l
 induction l with
 | nil=>simp [tJ]
 | cons b r ih =>
  unfold tJ
  split
  ·simp
  split
  ·refine ⟨by simp;exact ih.1,fun e he=>?_⟩
   rcases List.mem_cons.1 he with rfl | he
   ·exact zKn
   ·exact ih.2 e he
  ·simp
theorem zLI {n:List (List Int)} {s:List zI}:∀ l:List (List Int),(∀ b∈l,zAb b)→∀ e∈(tJ n s l).1,evS e=0:=by
 intro l
 induction l with
 | nil=>intro _ e he;cases he
 | cons b r ih =>
  intro hb e he
  unfold tJ at he
  split at he
  ·cases he
  rename_i h1
  split at he
  ·rcases List.mem_cons.1 he with rfl | he
   ·obtain ⟨_,L,hc,_⟩:=zG8 (hb b (by simp)).2 (show (tF n s b).2.2=0 by omega)
    exact hc.1
   ·exact ih (fun x hx=>hb x (by simp [hx])) e he
  ·cases he
theorem zB2 {p:zA} {q:List (List Int)×zB} (hb:∀ b∈q.1,zAb b) (hl:q.1.length≤100000):∀ (n i:Nat) (row:List zF),(q.1.drop i).length<n→row.length≤i →
  uF 200000 p q n (i:Nat) row=some (evO row (tJ p.Names p.Stacks (q.1.drop i))):=by
 intro n
 induction n with
 | zero=>intro i row h;omega
 | succ n ih =>
  intro i row hn hr
  show wQ _ _ _ _ _ _=_
  unfold wQ
  rcases hd:q.1.drop i with _ | ⟨x,r⟩
  ·have:=pA hd
   rw [yH (by omega),cond_false];simp [evO,tJ]
  have hlt:=pM hd
  have hx:=hb x (zKE hd)
  rw [hd] at hn
  simp only [List.length_cons] at hn
  have hx1:=hx.1
  rw [yR (by omega),cond_true,vS hd,Option.bind_some,zDu hx.2 (by omega),Option.bind_some]
  unfold tJ
  by_cases hc:(tF p.Names p.Stacks x).2.2≠0∨(tF p.Names p.Stacks x).2.1≠(x.length:Int)
  ·rw [show ((tF p.Names p.Stacks x).2.2 != 0||(tF p.Names p.Stacks x).2.1 != (x.length:Int))=true by simpa using hc,cond_true,if_pos hc];rfl
  rw [show ((tF p.Names p.Stacks x).2.2 != 0||(tF p.Names p.Stacks x).2.1 != (x.length:Int))=false by simpa using hc,cond_false,if_neg hc,wG (by simp;omega),Option.bind_some,j3 (by omega),ih (i+1) _ (by rw [uD hd];omega) (by simp;omega),uD hd]
  unfold evO
  by_cases h2:(tJ p.Names p.Stacks r).2=true
  ·rw [if_pos h2,if_pos h2,if_pos rfl];simp
  ·rw [if_neg h2,if_neg h2,if_neg (by simp)]
theorem zKh {r:zB}:(wV r).1=(yI r).1∨(wV r).1=[]:=by
 unfold wV;split
 ·exact .inr rfl
 ·exact .inl rfl
theorem zB7 {r:zB} (h:wF r):(∀ b∈(wV r).1,zAb b)∧(wV r).1.length≤65536:=by
 rcases zKh (r:=r) with e | e
 ·rw [e];exact ⟨zLM h,zFB h.1⟩
 ·rw [e];exact ⟨fun b hb=>(by cases hb),by simp⟩
def evP (p:zA):List zF×Bool:=tJ p.Names p.Stacks (wV p.Ring).1
theorem zLB {X:Option (List zF⊕(List zF×Bool))} {q:List zF×Bool} (h:X=some (evO [] q)) (hq:q.2≠true→q=([],false)):(X.bind fun o_1=>(match o_1 with
 | (.inl q_1)=>some (q_1,true)
 | (.inr q_2)=>some q_2))=some q:=by
 rw [h,Option.bind_some]
 unfold evO
 by_cases h2:q.2=true
 ·rw [if_pos h2];simp only [List.nil_append];rw [← h2]
 ·rw [if_neg h2];simp only;rw [hq h2]
theorem zCO {p:zA} (h:wF p.Ring):t4 200000 p=some (evP p):=by
 unfold t4
 have ht:=zB7 h
 rw [zG0 h,Option.bind_some]
 exact zLB (by unfold evP;simpa using zB2 (p:=p) (q:=wV p.Ring) ht.1 (by omega) 200000 0 [] (by simp;omega) (by simp)) (zJx _ _ _)
theorem zLF {p:zA} (h:wF p.Ring):(evP p).1.length≤65536∧(∀ e∈(evP p).1,e.Stack.length≤32)∧∀ e∈(evP p).1,evS e=0:=by
 have h1:=zLu p.Names p.Stacks (wV p.Ring).1
 have h2:=zB7 h
 exact ⟨by unfold evP;omega,h1.2,zLI _ h2.1⟩
def srt:Int→List zF→Bool
 | _,[]=>true
 | a,e::r=>decide (e.At≥a)&&srt e.At r
def tN:Int→List zF→Int
 | a,[]=>a
 | _,e::r=>tN e.At r
theorem zGw {q:List zF×Bool} (hl:q.1.length≤100000):∀ (n i:Nat) (ok:Bool) (last:Int),(q.1.drop i).length<n→wZ 200000 q n ok last (i:Nat)=some (ok&&srt last (q.1.drop i),tN last (q.1.drop i)):=by
 intro n
 induction n with
 | zero=>intro i ok last h;omega
 | succ n ih =>
  intro i ok last hn
  show wJ _ _ _ _ _ _=_
  unfold wJ
  rcases hd:q.1.drop i with _ | ⟨x,r⟩
  ·have:=pA hd
   rw [yH (by omega),cond_false];simp [srt,tN]
  have hlt:=pM hd
  rw [hd] at hn
  simp only [List.length_cons] at hn
  rw [yR (by omega),cond_true,vS hd,Option.bind_some,j3 (by omega),ih (i+1) _ _ (by rw [uD hd];omega),uD hd]
  simp only [srt,tN,Bool.and_assoc]
def qK (p:zA):Prop:=p.Sent<0∨p.Sent>p.Ring.First∨p.Last<0∨p.Last>1000000000000
instance decRngBad {p:zA}:Decidable (qK p):=inferInstanceAs (Decidable (_∨_))
theorem zKM {p:zA}:(decide (p.Sent<(0:Int))||(decide (p.Sent>p.Ring.First)||(decide (p.Last<(0:Int))||decide (p.Last>(1000000000000:Int)))))=decide (qK p):=by
 by_cases h:qK p
 ·rw [yR h];unfold qK at h;simpa using h
 ·rw [yH h];unfold qK at h;simp;omega
def kO (p:zA):Prop:=(evP p).2=false∨srt 0 (evP p).1=false∨tN 0 (evP p).1>p.Last
instance decFormBad {p:zA}:Decidable (kO p):=inferInstanceAs (Decidable (_∨_))
def vV (p:zA):List zF×Int :=
 if wY p.Thread≠0 then ([],wY p.Thread) else if tC p.Names p.Stacks≠0 then ([],tC p.Names p.Stacks) else if (yI p.Ring).2≠0 then ([],(yI p.Ring).2) else
 if qK p then ([],2) else if kO p then ([],10) else ((evP p).1,0)
theorem zCt {p:zA} (h:wF p.Ring):v7 200000 p=some (vV p):=by
 unfold v7 vV
 rw [j1,Option.bind_some]
 by_cases h1:wY p.Thread≠0
 ·rw [wW h1,if_pos h1];rfl
 rw [xA (by omega),cond_false,if_neg h1,pW,Option.bind_some]
 by_cases h2:tC p.Names p.Stacks≠0
 ·rw [wW h2,if_pos h2];rfl
 rw [xA (by omega),cond_false,if_neg h2,zFV h,Option.bind_some]
 by_cases h3:(yI p.Ring).2≠0
 ·rw [wW h3,if_pos h3];rfl
 rw [xA (by omega),cond_false,if_neg h3,zKM]
 by_cases h4:qK p
 ·rw [yR h4,if_pos h4];rfl
 have hl:=zLF h
 rw [yH h4,cond_false,if_neg h4,zCO h,Option.bind_some,show wZ 200000 (evP p) 200000 (evP p).2 0 0=_ from zGw (by omega) 200000 0 _ 0 (by simp;omega),Option.bind_some,List.drop_zero]
 simp only
 have ec:(!((evP p).2&&srt 0 (evP p).1)||decide (tN 0 (evP p).1>p.Last))=decide (kO p):=by
  by_cases h5:kO p
  ·rw [yR h5];unfold kO at h5
   rcases h5 with e | e | e
   ·rw [e];rfl
   ·rw [e];simp
   ·rw [yR e];simp
  ·rw [yH h5];unfold kO at h5
   have e1:(evP p).2=true:=by cases hx:(evP p).2<;>simp_all
   have e2:srt 0 (evP p).1=true:=by cases hx:srt 0 (evP p).1<;>simp_all
   rw [e1,e2,yH (by omega)];rfl
 rw [ec]
 by_cases h5:kO p
 ·rw [yR h5,if_pos h5];rfl
 ·rw [yH h5,if_neg h5];rfl
theorem zAy {p:zA} (h:wF p.Ring):v5 200000 p=some (vV p).2:=by
 unfold v5
 rw [zCt h,Option.bind_some]
def zMF (id first lost:Int) (l:List zF):List z6:=if l.length=0 then [] else [⟨id,first,lost,l⟩]
def zFv (p:zA):List z6×zA :=
 if (vV p).2≠0 then ([],p) else (zMF p.Thread.Id p.Ring.First (zG (p.Ring.First - p.Sent)) (vV p).1,⟨p.Thread,p.Names,p.Stacks,(wV p.Ring).2,p.Last,(wV p.Ring).2.Next⟩)
theorem zCS {p:zA} (h:(vV p).2=0):wY p.Thread=0∧xQ p.Names p.Stacks∧(yI p.Ring).2=0∧¬ qK p∧(evP p).2=true∧srt 0 (evP p).1=true∧tN 0 (evP p).1≤p.Last∧(vV p).1=(evP p).1:=by
 unfold vV at h ⊢
 split at h
 ·rename_i h1;exact absurd h h1
 rename_i h1
 split at h
 ·rename_i h2;exact absurd h h2
 rename_i h2
 split at h
 ·rename_i h3;exact absurd h h3
 rename_i h3
 split at h
 ·cases h
 rename_i h4
 split at h
 ·cases h
 rename_i h5
 rw [if_neg h1,if_neg h2,if_neg h3,if_neg h4,if_neg h5]
 unfold kO at h5
 refine ⟨by omega,nH.1 (by omega),by omega,h4,?_,?_,by omega,rfl⟩
 ·cases hx:(evP p).2<;>simp_all
 ·cases hx:srt 0 (evP p).1<;>simp_all
theorem zE8 {p:zA} (h1:wY p.Thread=0) (h2:xQ p.Names p.Stacks) (h3:(yI p.Ring).2=0) (h4:¬ qK p) (h5:(evP p).2=true) (h6:srt 0 (evP p).1=true) (h7:tN 0 (evP p).1≤p.Last):vV p=((evP p).1,0):=by
 unfold vV
 have:=nH.2 h2
 rw [if_neg (by omega),if_neg (by omega),if_neg (by omega),if_neg h4,if_neg]
 unfold kO
 rw [h5,h6];simp;omega
theorem zCR {p:zA} (hz:(vV p).2=0):0≤p.Sent∧p.Sent≤p.Ring.First∧p.Ring.First≤p.Ring.Next∧p.Ring.Next≤1000000000000000∧0≤p.Last∧p.Last≤1000000000000:=by
 obtain ⟨_,_,h3,h4,_⟩:=zCS hz
 have g:=zDw (q9 h3).2.1
 unfold qK at h4
 unfold vG at g
 omega
def zJz (p:zA):Int:=if (vV p).2≠0 then 0 else zG (p.Ring.First - p.Sent)
theorem zDR {p:zA} (h:wF p.Ring):tT 200000 p=some (zJz p):=by
 unfold tT zJz
 rw [zAy h,Option.bind_some]
 by_cases hz:(vV p).2≠0
 ·rw [wW hz,if_pos hz];rfl
 ·rw [xA (by omega),if_neg hz];rfl
def pr0:zA:=⟨⟨0,[],0⟩,[],[],⟨0,[],0,0,0,0⟩,0,0⟩
def zCF (p:zA) (e:zF):zA×Int :=
 if (vV p).2≠0 then (pr0,(vV p).2) else if evS e≠0 then (pr0,evS e) else if e.At<p.Last then (pr0,11) else
 if (xN p.Names p.Stacks e).2.2.2≠0 then (pr0,(xN p.Names p.Stacks e).2.2.2) else if (n8 p.Ring (xN p.Names p.Stacks e).1).2.2≠0 then (pr0,(n8 p.Ring (xN p.Names p.Stacks e).1).2.2) else
 (⟨p.Thread,(xN p.Names p.Stacks e).2.1,(xN p.Names p.Stacks e).2.2.1,(n8 p.Ring (xN p.Names p.Stacks e).1).1,e.At,p.Sent⟩,0)
theorem zL0 {n:List (List Int)} {s:List zI} {e:zF} (h:(xN n s e).2.2.2=0):(xN n s e).1.length≤50∧∀ x∈(xN n s e).1,yP x:=by
 rcases zB1 (n:=n) (s:=s) (e:=e) with ⟨h1,_⟩ | ⟨_,g,g2,_,_,L,hL,hc⟩
 ·exact absurd h h1
 ·have:=zK8 g2 hc
  rw [hL];exact ⟨this.2.2,this.1⟩
def nQ (t:zC) (size pol:Int):zA×Int :=
 if wY t≠0 then (pr0,wY t) else if size<16∨size>65536 then (pr0,2) else if pol≠1∧pol≠2 then (pr0,1) else (⟨t,[],[],⟨pol,List.replicate size.toNat 0,0,0,0,0⟩,0,0⟩,0)
theorem zEz {t:zC} {size pol:Int}:u9 200000 t size pol=some (nQ t size pol):=by
 unfold u9 nQ zCb
 rw [j1,Option.bind_some]
 by_cases h1:wY t≠0
 ·rw [wW h1,if_pos h1];rfl
 rw [xA (by omega),cond_false,if_neg h1]
 by_cases h2:size<16∨size>65536
 ·rw [zEX h2,if_pos h2];rfl
 rw [zHD h2,cond_false,if_neg h2]
 by_cases h3:pol≠1∧pol≠2
 ·rw [show ((pol != (1:Int))&&(pol != (2:Int)))=true by simpa using h3,if_pos h3];rfl
 ·rw [show ((pol != (1:Int))&&(pol != (2:Int)))=false by simp;omega,cond_false,if_neg h3,wG (by omega)];rfl
theorem zI9 {t:zC} {size pol:Int}:zBN 200000 t size pol=some (nQ t size pol):=by
 unfold zBN nQ zC6
 rw [zCo,Option.bind_some]
 by_cases h1:wY t≠0
 ·rw [wW h1,if_pos h1];rfl
 rw [xA (by omega),cond_false,if_neg h1]
 by_cases h2:size<16∨size>65536
 ·rw [zEX h2,if_pos h2];rfl
 rw [zHD h2,cond_false,if_neg h2]
 by_cases h3:pol≠1∧pol≠2
 ·rw [show ((pol != (1:Int))&&(pol != (2:Int)))=true by simpa using h3,if_pos h3];rfl
 ·rw [show ((pol != (1:Int))&&(pol != (2:Int)))=false by simp;omega,cond_false,if_neg h3,wG (by omega)];rfl
structure PB (p:zA):Prop where
 ring:wF p.Ring
 names:p.Names.length≤100000
 stacks:p.Stacks.length≤100000
theorem zGc {p:zA} (h:PB p):zA7 200000 p p=some true:=by
 unfold zA7
 have ht:=zB7 h.ring
 rw [yR rfl,Bool.not_true,cond_false,zFf h.names,Option.bind_some,Bool.not_true,cond_false,zEx h.stacks,Option.bind_some,Bool.not_true,cond_false,xA rfl,xA rfl,cond_false,Option.bind_some,cond_false,xA rfl,xA rfl,xA rfl,xA rfl,xA rfl,xA rfl]
 simp only [Bool.or_self,cond_false]
 rw [zH9 h.ring,Option.bind_some,Option.bind_some,xA rfl,cond_false]
 rw [nJ (l:=(wV p.Ring).1) (kV 200000 (wV p.Ring) (wV p.Ring)) (fun _ _=>none) (fun n i hi=>by
  show w9 _ _ _ _ _=_
  unfold w9
  rw [yH (by omega),cond_false]) (fun n i x r hd hlt=>by
  refine ⟨fun b hb=>(by cases hb),fun _=>?_⟩
  show w9 _ _ _ _ _=_
  unfold w9
  rw [yR (by omega),cond_true,vS hd,Option.bind_some,Option.bind_some,BEq.rfl,Bool.not_true,cond_false,j3 (by omega)]) (by omega),zAX (fun _ _ _=>rfl),Option.bind_some]
theorem zLZ:zAl 200000=some true:=by kernel_rfl
end Go.Ab
