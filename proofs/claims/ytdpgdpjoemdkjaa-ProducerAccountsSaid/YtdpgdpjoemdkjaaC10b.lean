/- Producers: what writing and draining keep. -/
import Derived.Test.YtdpgdpjoemdkjaaC10
namespace Go.Ab
open Go
set_option linter.unusedVariables false
def jI (n:List (List Int)) (s:List zI):List (List Int)→List zE→Prop
 | [],[]=>True
 | b::r,e::q=>(∃ L,b=yZ L∧zAM n s e L)∧jI n s r q
 | _,_=>False
theorem jI.mono {n n':List (List Int)} {s s':List zI} (hn:n <+: n') (hs:s <+: s'):∀ {l:List (List Int)} {q:List zE},jI n s l q→jI n' s' l q:=by
 intro l
 induction l with
 | nil=>intro q h;cases q with
  | nil=>trivial
  | cons e r=>exact h.elim
 | cons b r ih =>
  intro q h
  cases q with
  | nil=>exact h.elim
  | cons e q =>
   obtain ⟨⟨L,h1,h2⟩,h3⟩:=h
   exact ⟨⟨L,h1,h2.mono hn hs⟩,ih h3⟩
theorem jI.drop {n:List (List Int)} {s:List zI}:∀ (k:Nat) {l:List (List Int)} {q:List zE},jI n s l q→jI n s (l.drop k) (q.drop k):=by
 intro k
 induction k with
 | zero=>intro l q h;simpa using h
 | succ k ih =>
  intro l q h
  cases l with
  | nil=>cases q with
   | nil=>simpa using h
   | cons e q=>exact h.elim
  | cons b r=>cases q with
   | nil=>exact h.elim
   | cons e q=>exact ih h.2
theorem jI.snoc {n:List (List Int)} {s:List zI} {e:zE} {L:List Int} (hc:zAM n s e L):∀ {l:List (List Int)} {q:List zE},jI n s l q→jI n s (l++[yZ L]) (q++[e]):=by
 intro l
 induction l with
 | nil=>intro q h;cases q with
  | nil=>exact ⟨⟨L,rfl,hc⟩,trivial⟩
  | cons e' q=>exact h.elim
 | cons b r ih =>
  intro q h
  cases q with
  | nil=>exact h.elim
  | cons e' q=>exact ⟨h.1,ih h.2⟩
theorem jI.len {n:List (List Int)} {s:List zI}:∀ {l:List (List Int)} {q:List zE},jI n s l q→l.length=q.length:=by
 intro l
 induction l with
 | nil=>intro q h;cases q with
  | nil=>rfl
  | cons e q=>exact h.elim
 | cons b r ih =>
  intro q h
  cases q with
  | nil=>exact h.elim
  | cons e q=>simp only [List.length_cons];rw [ih h.2]
theorem zLS {n:List (List Int)} {s:List zI}:∀ {l:List (List Int)},(∀ b∈l,pF b)→(t3 n s l).2=true→jI n s l (t3 n s l).1:=by
 intro l
 induction l with
 | nil=>intro _ _;trivial
 | cons b r ih =>
  intro hb h
  unfold t3 at h ⊢
  by_cases h1:(t7 n s b).2.2≠0∨(t7 n s b).2.1≠(b.length:Int)
  ·rw [if_pos h1] at h;cases h
  rw [if_neg h1] at h ⊢
  by_cases h2:(t3 n s r).2=true
  ·rw [if_pos h2]
   obtain ⟨_,L,hc,hl,ht⟩:=zGJ (hb b (by simp)).2 (show (t7 n s b).2.2=0 by omega)
   refine ⟨⟨L,?_,hc⟩,ih (fun x hx=>hb x (by simp [hx])) h2⟩
   rw [← ht,List.take_of_length_le (by omega)]
  ·rw [if_neg h2] at h;cases h
theorem jI.evs {n:List (List Int)} {s:List zI} (g:x7 n s):∀ {l:List (List Int)} {q:List zE},jI n s l q→t3 n s l=(q,true):=by
 intro l
 induction l with
 | nil=>intro q h;cases q with
  | nil=>rfl
  | cons e q=>exact h.elim
 | cons b r ih =>
  intro q h
  cases q with
  | nil=>exact h.elim
  | cons e q =>
   obtain ⟨⟨L,h1,h2⟩,h3⟩:=h
   have hd:=zKw (more:=[]) g h2
   rw [List.append_nil,← h1] at hd
   unfold t3
   rw [hd,ih h3,if_neg (by simp),if_pos rfl]
theorem zLf {a b:Int} (h:a≤b):∀ {l:List zE},srt b l=true→srt a l=true:=by
 intro l
 cases l with
 | nil=>intro _;rfl
 | cons e r=>intro hs;unfold srt at *;rw [Bool.and_eq_true,decide_eq_true_eq] at *;exact ⟨by omega,hs.2⟩
theorem zK1:∀ (k:Nat) {l:List zE} {a:Int},srt a l=true→srt a (l.drop k)=true∧t9 a (l.drop k)≤t9 a l:=by
 intro k
 induction k with
 | zero=>intro l a h;exact ⟨by simpa using h,by simp⟩
 | succ k ih =>
  intro l a h
  cases l with
  | nil=>exact ⟨rfl,Int.le_refl _⟩
  | cons e r =>
   unfold srt at h
   rw [Bool.and_eq_true,decide_eq_true_eq] at h
   have h1:=ih (l:=r) (a:=a) (zLf h.1 h.2)
   rw [List.drop_succ_cons]
   refine ⟨h1.1,?_⟩
   have h2:t9 a r≤t9 e.At r:=by
    cases r with
    | nil=>exact h.1
    | cons x s=>exact Int.le_refl _
   have h3:t9 a (e::r)=t9 e.At r:=rfl
   rw [h3];exact Int.le_trans h1.2 h2
theorem zK3 {e:zE}:∀ {l:List zE} {a:Int},srt a l=true→t9 a l≤e.At→srt a (l++[e])=true∧t9 a (l++[e])=e.At:=by
 intro l
 induction l with
 | nil=>intro a _ h;exact ⟨by simp [srt];exact h,rfl⟩
 | cons x r ih =>
  intro a h1 h2
  unfold srt at h1
  rw [Bool.and_eq_true,decide_eq_true_eq] at h1
  have:=ih h1.2 h2
  exact ⟨by rw [List.cons_append];unfold srt;rw [this.1,yH h1.1];rfl,this.2⟩
theorem zJy {r:zB} {b:List Int} (h:(qI r b).2.2=0):tP r b=0∧qI r b=(v8 r b,(vL r b:Int),0):=by
 unfold qI at h ⊢
 split at h
 ·rename_i h1;exact absurd h h1
 ·rename_i h1;exact ⟨by omega,if_neg h1⟩
structure zMK (p p':zA) (e:zE) (k:Nat):Prop where
 ev:evS e=0
 at_:p.Last≤e.At
 thr:p'.Thread=p.Thread
 last:p'.Last=e.At
 sent:p'.Sent=p.Sent
 first:p'.Ring.First=p.Ring.First+k
 next:p'.Ring.Next=p.Ring.Next+1
 pol:p'.Ring.Policy=p.Ring.Policy
 dat:p'.Ring.Data.length=p.Ring.Data.length
 endd:p'.Ring.End≤p.Ring.End+60
 stall:p.Ring.Policy=2→k=0
 kle:k≤(xZ p).1.length
 chk:xZ p'=((xZ p).1.drop k++[e],0)
theorem zI9 {p:zA} {e:zE} (h:wG p.Ring) (hz:(zBe p e).2=0):(xZ p).2=0∧PB (zBe p e).1∧∃ k,zMK p (zBe p e).1 e k:=by
 unfold zBe at hz ⊢
 by_cases h1:(xZ p).2≠0
 ·rw [if_pos h1] at hz;exact absurd hz h1
 rw [if_neg h1] at hz ⊢
 by_cases h2:evS e≠0
 ·rw [if_pos h2] at hz;exact absurd hz h2
 rw [if_neg h2] at hz ⊢
 by_cases h3:e.At<p.Last
 ·rw [if_pos h3] at hz;cases hz
 rw [if_neg h3] at hz ⊢
 by_cases h4:(xO p.Names p.Stacks e).2.2.2≠0
 ·rw [if_pos h4] at hz;exact absurd hz h4
 rw [if_neg h4] at hz ⊢
 by_cases h5:(qI p.Ring (xO p.Names p.Stacks e).1).2.2≠0
 ·rw [if_pos h5] at hz;exact absurd hz h5
 rw [if_neg h5]
 obtain ⟨c1,c2,c3,c4,c5,c6,c7,c8⟩:=zAp (show (xZ p).2=0 by omega)
 have hf:=zAd (show (xZ p).2=0 by omega)
 rcases zCj (n:=p.Names) (s:=p.Stacks) (e:=e) with ⟨q1,_⟩ | ⟨q0,g,g2,pn,ps,L,hL,hc⟩
 ·exact absurd q1 h4
 have hl:=zIL q0
 obtain ⟨r1,r2⟩:=zJy (show (qI p.Ring (xO p.Names p.Stacks e).1).2.2=0 by omega)
 obtain ⟨m1,m2⟩:=zJz h hl.2 r1
 obtain ⟨u0,u1,u2,u3,u4,u5⟩:=zFG h r1
 have hlen:=zKY (n:=p.Names) (s:=p.Stacks) (e:=e)
 have htk:(v5 p.Ring).1=(yF p.Ring).1:=by unfold v5;rw [if_neg (by omega)]
 have hK:=zLS (n:=p.Names) (s:=p.Stacks) (l:=(v5 p.Ring).1) (zDQ h).1 c5
 rw [htk] at hK
 have hev:(evP p).1=(t3 p.Names p.Stacks (yF p.Ring).1).1:=by unfold evP;rw [htk]
 have hkl:=hK.len
 have hkle:vL p.Ring (xO p.Names p.Stacks e).1≤(yF p.Ring).1.length:=zC5
 have ee:=zCo (show evS e=0 by omega)
 have hfr:=zA9 (xO p.Names p.Stacks e).1
 have hok:=zKT (b:=(xO p.Names p.Stacks e).1) h (by omega) hl.2
 rw [r2] at hok ⊢
 simp only at hok ⊢
 refine ⟨by omega,⟨hok,by simp only;omega,by simp only;omega⟩,vL p.Ring (xO p.Names p.Stacks e).1,⟨by omega,by omega,rfl,rfl,rfl,rfl,rfl,rfl,?_,?_,?_,?_,?_⟩⟩
 ·simp only [v8,nP]
 ·simp only [v8];omega
 ·intro hp
  unfold vL
  exact zIQ (u3 hp)
 ·rw [c8,hev];omega
 ·have hgood:=jO (r:=v8 p.Ring (xO p.Names p.Stacks e).1) (by rw [m1])
  have hd:=zK1 (vL p.Ring (xO p.Names p.Stacks e).1) c6
  have hs:=zK3 (e:=e) hd.1 (by omega)
  have hK2:=((hK.drop (vL p.Ring (xO p.Names p.Stacks e).1)).mono pn ps).snoc hc
  have hevs:=hK2.evs g2
  have htk2:(v5 (v8 p.Ring (xO p.Names p.Stacks e).1)).1=(yF p.Ring).1.drop (vL p.Ring (xO p.Names p.Stacks e).1)++[yZ L]:=by
   unfold v5;rw [if_neg (by rw [m1];simp),m1,hL]
  have hE:evP ⟨p.Thread,(xO p.Names p.Stacks e).2.1,(xO p.Names p.Stacks e).2.2.1,v8 p.Ring (xO p.Names p.Stacks e).1,e.At,p.Sent⟩=((evP p).1.drop (vL p.Ring (xO p.Names p.Stacks e).1)++[e],true):=by
   unfold evP
   simp only
   rw [htk2,hevs,htk]
  rw [zFf (p:=⟨p.Thread,(xO p.Names p.Stacks e).2.1,(xO p.Names p.Stacks e).2.2.1,v8 p.Ring (xO p.Names p.Stacks e).1,e.At,p.Sent⟩) c1 g2 (by simp only;rw [m1]) (by unfold jA;simp only [v8];omega) (by rw [hE]) (by rw [hE];exact hs.1) (by rw [hE,hs.2];exact Int.le_refl _),hE,c8]
theorem zI6 {r:zB}:x5 ⟨r.Policy,r.Data,r.End,r.End,r.Next,r.Next⟩=[]:=by
 unfold x5 used ctn
 simp
theorem zJ3 {r:zB} (hz:(yF r).2=0):yF ⟨r.Policy,r.Data,r.End,r.End,r.Next,r.Next⟩=([],0):=by
 obtain ⟨h1,h2,h3,h4⟩:=jO hz
 have g:=zDY h2
 refine zGx (by exact h1) (zE5 ?_) (by rw [zI6];rfl) (by simp)
 unfold tG at g ⊢
 simp only
 omega
theorem zCc {r:zB} (hz:(yF r).2=0):v5 r=((yF r).1,⟨r.Policy,r.Data,r.End,r.End,r.Next,r.Next⟩):=by unfold v5;rw [if_neg (by omega)]
theorem zJZ {r:zB} (h:wG r):wG (v5 r).2:=by
 unfold v5
 split
 ·exact h
 ·exact ⟨h.1,h.2.2.1,h.2.2.1,h.2.2.2.2.1,h.2.2.2.2.1,h.2.2.2.2.2⟩
theorem zMo {p:zA} (h:PB p):PB (zBg p).2:=by
 unfold zBg
 split
 ·exact h
 ·exact ⟨zJZ h.ring,h.names,h.stacks⟩
structure zLP (p p':zA):Prop where
 thr:p'.Thread=p.Thread
 last:p'.Last=p.Last
 sent:p'.Sent=p.Ring.Next
 first:p'.Ring.First=p.Ring.Next
 next:p'.Ring.Next=p.Ring.Next
 pol:p'.Ring.Policy=p.Ring.Policy
 dat:p'.Ring.Data=p.Ring.Data
 start:p'.Ring.Start=p.Ring.End
 endd:p'.Ring.End=p.Ring.End
 names:p'.Names=p.Names
 stacks:p'.Stacks=p.Stacks
 chk:xZ p'=([],0)
theorem zFw {p:zA} (hz:(xZ p).2=0):zLP p (zBg p).2:=by
 obtain ⟨c1,c2,c3,c4,c5,c6,c7,c8⟩:=zAp hz
 have hf:=zAd hz
 unfold zBg
 rw [if_neg (by omega),zCc c3]
 refine ⟨rfl,rfl,rfl,rfl,rfl,rfl,rfl,rfl,rfl,rfl,rfl,?_⟩
 simp only
 have hr:=zJ3 c3
 have hE:evP ⟨p.Thread,p.Names,p.Stacks,⟨p.Ring.Policy,p.Ring.Data,p.Ring.End,p.Ring.End,p.Ring.Next,p.Ring.Next⟩,p.Last,p.Ring.Next⟩=([],true):=by
  unfold evP
  simp only
  rw [zCc (by rw [hr]),hr];rfl
 rw [zFf (p:=⟨p.Thread,p.Names,p.Stacks,⟨p.Ring.Policy,p.Ring.Data,p.Ring.End,p.Ring.End,p.Ring.Next,p.Ring.Next⟩,p.Last,p.Ring.Next⟩) c1 c2 (by simp only;rw [hr]) (by unfold jA;simp only;omega) (by rw [hE]) (by rw [hE];rfl) (by rw [hE];simp only [t9];omega),hE]
theorem zLj {p:zA} (hz:(xZ p).2=0):(zBg p).1=zGw p.Thread.Id p.Ring.First (p.Ring.First - p.Sent) (xZ p).1:=by
 have hf:=zAd hz
 unfold zBg
 rw [if_neg (by omega),w64 (by omega) (by omega)]
theorem zMC {t:zC} {size pol:Int} (ht:qD t=0) (hs:¬ (size<16∨size>65536)) (hp:¬ (pol≠1∧pol≠2)) :
  zAw t size pol=(⟨t,[],[],⟨pol,List.replicate size.toNat 0,0,0,0,0⟩,0,0⟩,0)∧PB (zAw t size pol).1∧xZ (zAw t size pol).1=([],0):=by
 have e:zAw t size pol=(⟨t,[],[],⟨pol,List.replicate size.toNat 0,0,0,0,0⟩,0,0⟩,0):=by
  unfold zAw
  rw [if_neg (by omega),if_neg hs,if_neg hp]
 have hr:wG ⟨pol,List.replicate size.toNat 0,0,0,0,0⟩:=⟨fun x hx=>by rw [(List.mem_replicate.1 hx).2];unfold yW;omega,by unfold z8;simp,by unfold z8;simp,by unfold z8;simp,by unfold z8;simp,by simp;omega⟩
 have hz:yF ⟨pol,List.replicate size.toNat 0,0,0,0,0⟩=([],0):=by
  unfold yF
  rw [if_neg (by unfold tT;simp only;exact hp),if_neg (by unfold tG;simp;omega)]
  rfl
 rw [e]
 refine ⟨rfl,⟨hr,by simp,by simp⟩,?_⟩
 have hE:evP ⟨t,[],[],⟨pol,List.replicate size.toNat 0,0,0,0,0⟩,0,0⟩=([],true):=by
  unfold evP
  simp only
  rw [zCc (by rw [hz]),hz];rfl
 rw [zFf (p:=⟨t,[],[],⟨pol,List.replicate size.toNat 0,0,0,0,0⟩,0,0⟩) ht ⟨by simp,by simp,rfl,rfl⟩ (by simp only;rw [hz]) (by unfold jA;simp) (by rw [hE]) (by rw [hE];rfl) (by rw [hE];simp only [t9];omega),hE]
end Go.Ab
