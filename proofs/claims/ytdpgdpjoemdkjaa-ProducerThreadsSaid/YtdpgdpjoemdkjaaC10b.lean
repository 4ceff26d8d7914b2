/- Producers: what writing and draining keep. -/
import Derived.Test.YtdpgdpjoemdkjaaC10
namespace Go.Ab
open Go
set_option linter.unusedVariables false
def qZ (n:List (List Int)) (s:List zI):List (List Int)→List zF→Prop
 | [],[]=>True
 | b::r,e::q=>(∃ L,b=xD L∧zAK n s e L)∧qZ n s r q
 | _,_=>False
theorem qZ.mono {n n':List (List Int)} {s s':List zI} (hn:n <+: n') (hs:s <+: s'):∀ {l:List (List Int)} {q:List zF},qZ n s l q→qZ n' s' l q:=by
 intro l
 induction l with
 | nil=>intro q h;cases q with
  | nil=>trivial
  | cons e r=>exact h.elim
 | cons b r ih =>
  intro q h
  cases q with
  | nil=>exact h.elim
  | cons e q =>
   obtain ⟨⟨L,h1,h2⟩,h3⟩:=h
   exact ⟨⟨L,h1,h2.mono hn hs⟩,ih h3⟩
theorem qZ.drop {n:List (List Int)} {s:List zI}:∀ (k:Nat) {l:List (List Int)} {q:List zF},qZ n s l q→qZ n s (l.drop k) (q.drop k):=by
 intro k
 induction k with
 | zero=>intro l q h;simpa using h
 | succ k ih =>
  intro l q h
  cases l with
  | nil=>cases q with
   | nil=>simpa using h
   | cons e q=>exact h.elim
  | cons b r=>cases q with
   | nil=>exact h.elim
   | cons e q=>exact ih h.2
theorem qZ.snoc {n:List (List Int)} {s:List zI} {e:zF} {L:List Int} (hc:zAK n s e L):∀ {l:List (List Int)} {q:List zF},qZ n s l q→qZ n s (l++[xD L]) (q++[e]):=by
 intro l
 induction l with
 | nil=>intro q h;cases q with
  | nil=>exact ⟨⟨L,rfl,hc⟩,trivial⟩
  | cons e' q=>exact h.elim
 | cons b r ih =>
  intro q h
  cases q with
  | nil=>exact h.elim
  | cons e' q=>exact ⟨h.1,ih h.2⟩
theorem qZ.len {n:List (List Int)} {s:List zI}:∀ {l:List (List Int)} {q:List zF},qZ n s l q→l.length=q.length:=by
 intro l
 induction l with
 | nil=>intro q h;cases q with
  | nil=>rfl
  | cons e q=>exact h.elim
 | cons b r ih =>
  intro q h
  cases q with
  | nil=>exact h.elim
  | cons e q=>simp only [List.length_cons];rw [ih h.2]
theorem zL5 {n:List (List Int)} {s:List zI}:∀ {l:List (List Int)},(∀ b∈l,zAb b)→(tJ n s l).2=true→qZ n s l (tJ n s l).1:=by
 intro l
 induction l with
 | nil=>intro _ _;trivial
 | cons b r ih =>
  intro hb h
  unfold tJ at h ⊢
  by_cases h1:(tF n s b).2.2≠0∨(tF n s b).2.1≠(b.length:Int)
  ·rw [if_pos h1] at h;cases h
  rw [if_neg h1] at h ⊢
  by_cases h2:(tJ n s r).2=true
  ·rw [if_pos h2]
   obtain ⟨_,L,hc,hl,ht⟩:=zG8 (hb b (by simp)).2 (show (tF n s b).2.2=0 by omega)
   refine ⟨⟨L,?_,hc⟩,ih (fun x hx=>hb x (by simp [hx])) h2⟩
   rw [← ht,List.take_of_length_le (by omega)]
  ·rw [if_neg h2] at h;cases h
theorem qZ.evs {n:List (List Int)} {s:List zI} (g:xQ n s):∀ {l:List (List Int)} {q:List zF},qZ n s l q→tJ n s l=(q,true):=by
 intro l
 induction l with
 | nil=>intro q h;cases q with
  | nil=>rfl
  | cons e q=>exact h.elim
 | cons b r ih =>
  intro q h
  cases q with
  | nil=>exact h.elim
  | cons e q =>
   obtain ⟨⟨L,h1,h2⟩,h3⟩:=h
   have hd:=zJW (more:=[]) g h2
   rw [List.append_nil,← h1] at hd
   unfold tJ
   rw [hd,ih h3,if_neg (by simp),if_pos rfl]
theorem zK2 {a b:Int} (h:a≤b):∀ {l:List zF},srt b l=true→srt a l=true:=by
 intro l
 cases l with
 | nil=>intro _;rfl
 | cons e r=>intro hs;unfold srt at *;rw [Bool.and_eq_true,decide_eq_true_eq] at *;exact ⟨by omega,hs.2⟩
theorem zK9:∀ (k:Nat) {l:List zF} {a:Int},srt a l=true→srt a (l.drop k)=true∧tN a (l.drop k)≤tN a l:=by
 intro k
 induction k with
 | zero=>intro l a h;exact ⟨by simpa using h,by simp⟩
 | succ k ih =>
  intro l a h
  cases l with
  | nil=>exact ⟨rfl,Int.le_refl _⟩
  | cons e r =>
   unfold srt at h
   rw [Bool.and_eq_true,decide_eq_true_eq] at h
   have h1:=ih (l:=r) (a:=a) (zK2 h.1 h.2)
   rw [List.drop_succ_cons]
   refine ⟨h1.1,?_⟩
   have h2:tN a r≤tN e.At r:=by
    cases r with
    | nil=>exact h.1
    | cons x s=>exact Int.le_refl _
   have h3:tN a (e::r)=tN e.At r:=rfl
   rw [h3];exact Int.le_trans h1.2 h2
theorem zKP {e:zF}:∀ {l:List zF} {a:Int},srt a l=true→tN a l≤e.At→srt a (l++[e])=true∧tN a (l++[e])=e.At:=by
 intro l
 induction l with
 | nil=>intro a _ h;exact ⟨by simp [srt];exact h,rfl⟩
 | cons x r ih =>
  intro a h1 h2
  unfold srt at h1
  rw [Bool.and_eq_true,decide_eq_true_eq] at h1
  have:=ih h1.2 h2
  exact ⟨by rw [List.cons_append];unfold srt;rw [this.1,yR h1.1];rfl,this.2⟩
theorem zJm {r:zB} {b:List Int} (h:(n8 r b).2.2=0):zAJ r b=0∧n8 r b=(vW r b,(vK r b:Int),0):=by
 unfold n8 at h ⊢
 split at h
 ·rename_i h1;exact absurd h h1
 ·rename_i h1;exact ⟨by omega,if_neg h1⟩
structure zMA (p p':zA) (e:zF) (k:Nat):Prop where
 ev:evS e=0
 at_:p.Last≤e.At
 thr:p'.Thread=p.Thread
 last:p'.Last=e.At
 sent:p'.Sent=p.Sent
 first:p'.Ring.First=p.Ring.First+k
 next:p'.Ring.Next=p.Ring.Next+1
 pol:p'.Ring.Policy=p.Ring.Policy
 dat:p'.Ring.Data.length=p.Ring.Data.length
 endd:p'.Ring.End≤p.Ring.End+60
 stall:p.Ring.Policy=2→k=0
 kle:k≤(vV p).1.length
 chk:vV p'=((vV p).1.drop k++[e],0)
theorem zLy {p:zA} {e:zF} (h:wF p.Ring) (hz:(zCF p e).2=0):(vV p).2=0∧PB (zCF p e).1∧∃ k,zMA p (zCF p e).1 e k:=by
 unfold zCF at hz ⊢
 by_cases h1:(vV p).2≠0
 ·rw [if_pos h1] at hz;exact absurd hz h1
 rw [if_neg h1] at hz ⊢
 by_cases h2:evS e≠0
 ·rw [if_pos h2] at hz;exact absurd hz h2
 rw [if_neg h2] at hz ⊢
 by_cases h3:e.At<p.Last
 ·rw [if_pos h3] at hz;cases hz
 rw [if_neg h3] at hz ⊢
 by_cases h4:(xN p.Names p.Stacks e).2.2.2≠0
 ·rw [if_pos h4] at hz;exact absurd hz h4
 rw [if_neg h4] at hz ⊢
 by_cases h5:(n8 p.Ring (xN p.Names p.Stacks e).1).2.2≠0
 ·rw [if_pos h5] at hz;exact absurd hz h5
 rw [if_neg h5]
 obtain ⟨c1,c2,c3,c4,c5,c6,c7,c8⟩:=zCS (show (vV p).2=0 by omega)
 have hf:=zCR (show (vV p).2=0 by omega)
 rcases zB1 (n:=p.Names) (s:=p.Stacks) (e:=e) with ⟨q1,_⟩ | ⟨q0,g,g2,pn,ps,L,hL,hc⟩
 ·exact absurd q1 h4
 have hl:=zL0 q0
 obtain ⟨r1,r2⟩:=zJm (show (n8 p.Ring (xN p.Names p.Stacks e).1).2.2=0 by omega)
 obtain ⟨m1,m2⟩:=zJc h hl.2 r1
 obtain ⟨u0,u1,u2,u3,u4,u5⟩:=zFJ h r1
 have hlen:=zLo (n:=p.Names) (s:=p.Stacks) (e:=e)
 have htk:(wV p.Ring).1=(yI p.Ring).1:=by unfold wV;rw [if_neg (by omega)]
 have hK:=zL5 (n:=p.Names) (s:=p.Stacks) (l:=(wV p.Ring).1) (zB7 h).1 c5
 rw [htk] at hK
 have hev:(evP p).1=(tJ p.Names p.Stacks (yI p.Ring).1).1:=by unfold evP;rw [htk]
 have hkl:=hK.len
 have hkle:vK p.Ring (xN p.Names p.Stacks e).1≤(yI p.Ring).1.length:=zE6
 have ee:=zBX (show evS e=0 by omega)
 have hfr:=zCE (xN p.Names p.Stacks e).1
 have hok:=zKT (b:=(xN p.Names p.Stacks e).1) h (by omega) hl.2
 rw [r2] at hok ⊢
 simp only at hok ⊢
 refine ⟨by omega,⟨hok,by simp only;omega,by simp only;omega⟩,vK p.Ring (xN p.Names p.Stacks e).1,⟨by omega,by omega,rfl,rfl,rfl,rfl,rfl,rfl,?_,?_,?_,?_,?_⟩⟩
 ·simp only [vW,zAO]
 ·simp only [vW];omega
 ·intro hp
  unfold vK
  exact zJs (u3 hp)
 ·rw [c8,hev];omega
 ·have hgood:=q9 (r:=vW p.Ring (xN p.Names p.Stacks e).1) (by rw [m1])
  have hd:=zK9 (vK p.Ring (xN p.Names p.Stacks e).1) c6
  have hs:=zKP (e:=e) hd.1 (by omega)
  have hK2:=((hK.drop (vK p.Ring (xN p.Names p.Stacks e).1)).mono pn ps).snoc hc
  have hevs:=hK2.evs g2
  have htk2:(wV (vW p.Ring (xN p.Names p.Stacks e).1)).1=(yI p.Ring).1.drop (vK p.Ring (xN p.Names p.Stacks e).1)++[xD L]:=by
   unfold wV;rw [if_neg (by rw [m1];simp),m1,hL]
  have hE:evP ⟨p.Thread,(xN p.Names p.Stacks e).2.1,(xN p.Names p.Stacks e).2.2.1,vW p.Ring (xN p.Names p.Stacks e).1,e.At,p.Sent⟩=((evP p).1.drop (vK p.Ring (xN p.Names p.Stacks e).1)++[e],true):=by
   unfold evP
   simp only
   rw [htk2,hevs,htk]
  rw [zE8 (p:=⟨p.Thread,(xN p.Names p.Stacks e).2.1,(xN p.Names p.Stacks e).2.2.1,vW p.Ring (xN p.Names p.Stacks e).1,e.At,p.Sent⟩) c1 g2 (by simp only;rw [m1]) (by unfold qK;simp only [vW];omega) (by rw [hE]) (by rw [hE];exact hs.1) (by rw [hE,hs.2];exact Int.le_refl _),hE,c8]
theorem zI7 {r:zB}:xZ ⟨r.Policy,r.Data,r.End,r.End,r.Next,r.Next⟩=[]:=by
 unfold xZ used ctn
 simp
theorem zJI {r:zB} (hz:(yI r).2=0):yI ⟨r.Policy,r.Data,r.End,r.End,r.Next,r.Next⟩=([],0):=by
 obtain ⟨h1,h2,h3,h4⟩:=q9 hz
 have g:=zDw h2
 refine zG2 (by exact h1) (zC4 ?_) (by rw [zI7];rfl) (by simp)
 unfold vG at g ⊢
 simp only
 omega
theorem zCd {r:zB} (hz:(yI r).2=0):wV r=((yI r).1,⟨r.Policy,r.Data,r.End,r.End,r.Next,r.Next⟩):=by unfold wV;rw [if_neg (by omega)]
theorem zJJ {r:zB} (h:wF r):wF (wV r).2:=by
 unfold wV
 split
 ·exact h
 ·exact ⟨h.1,h.2.2.1,h.2.2.1,h.2.2.2.2.1,h.2.2.2.2.1,h.2.2.2.2.2⟩
theorem zMp {p:zA} (h:PB p):PB (zFv p).2:=by
 unfold zFv
 split
 ·exact h
 ·exact ⟨zJJ h.ring,h.names,h.stacks⟩
structure zL4 (p p':zA):Prop where
 thr:p'.Thread=p.Thread
 last:p'.Last=p.Last
 sent:p'.Sent=p.Ring.Next
 first:p'.Ring.First=p.Ring.Next
 next:p'.Ring.Next=p.Ring.Next
 pol:p'.Ring.Policy=p.Ring.Policy
 dat:p'.Ring.Data=p.Ring.Data
 start:p'.Ring.Start=p.Ring.End
 endd:p'.Ring.End=p.Ring.End
 names:p'.Names=p.Names
 stacks:p'.Stacks=p.Stacks
 chk:vV p'=([],0)
theorem zIF {p:zA} (hz:(vV p).2=0):zL4 p (zFv p).2:=by
 obtain ⟨c1,c2,c3,c4,c5,c6,c7,c8⟩:=zCS hz
 have hf:=zCR hz
 unfold zFv
 rw [if_neg (by omega),zCd c3]
 refine ⟨rfl,rfl,rfl,rfl,rfl,rfl,rfl,rfl,rfl,rfl,rfl,?_⟩
 simp only
 have hr:=zJI c3
 have hE:evP ⟨p.Thread,p.Names,p.Stacks,⟨p.Ring.Policy,p.Ring.Data,p.Ring.End,p.Ring.End,p.Ring.Next,p.Ring.Next⟩,p.Last,p.Ring.Next⟩=([],true):=by
  unfold evP
  simp only
  rw [zCd (by rw [hr]),hr];rfl
 rw [zE8 (p:=⟨p.Thread,p.Names,p.Stacks,⟨p.Ring.Policy,p.Ring.Data,p.Ring.End,p.Ring.End,p.Ring.Next,p.Ring.Next⟩,p.Last,p.Ring.Next⟩) c1 c2 (by simp only;rw [hr]) (by unfold qK;simp only;omega) (by rw [hE]) (by rw [hE];rfl) (by rw [hE];simp only [tN];omega),hE]
theorem zKd {t:zC} {size pol:Int} (ht:wY t=0) (hs:¬ (size<16∨size>65536)) (hp:¬ (pol≠1∧pol≠2)) :
  nQ t size pol=(⟨t,[],[],⟨pol,List.replicate size.toNat 0,0,0,0,0⟩,0,0⟩,0)∧PB (nQ t size pol).1∧vV (nQ t size pol).1=([],0):=by
 have e:nQ t size pol=(⟨t,[],[],⟨pol,List.replicate size.toNat 0,0,0,0,0⟩,0,0⟩,0):=by
  unfold nQ
  rw [if_neg (by omega),if_neg hs,if_neg hp]
 have hr:wF ⟨pol,List.replicate size.toNat 0,0,0,0,0⟩:=⟨fun x hx=>by rw [(List.mem_replicate.1 hx).2];unfold yP;omega,by unfold yC;simp,by unfold yC;simp,by unfold yC;simp,by unfold yC;simp,by simp;omega⟩
 have hz:yI ⟨pol,List.replicate size.toNat 0,0,0,0,0⟩=([],0):=by
  unfold yI
  rw [if_neg (by unfold vB;simp only;exact hp),if_neg (by unfold vG;simp;omega)]
  rfl
 rw [e]
 refine ⟨rfl,⟨hr,by simp,by simp⟩,?_⟩
 have hE:evP ⟨t,[],[],⟨pol,List.replicate size.toNat 0,0,0,0,0⟩,0,0⟩=([],true):=by
  unfold evP
  simp only
  rw [zCd (by rw [hz]),hz];rfl
 rw [zE8 (p:=⟨t,[],[],⟨pol,List.replicate size.toNat 0,0,0,0,0⟩,0,0⟩) ht ⟨by simp,by simp,rfl,rfl⟩ (by simp only;rw [hz]) (by unfold qK;simp) (by rw [hE]) (by rw [hE];rfl) (by rw [hE];simp only [tN];omega),hE]
theorem zGA:PB pr0:=⟨⟨by simp [pr0],by unfold yC pr0;simp,by unfold yC pr0;simp,by unfold yC pr0;simp,by unfold yC pr0;simp,by simp [pr0]⟩,by simp [pr0],by simp [pr0]⟩
theorem zMu {t:zC} {size pol:Int}:PB (nQ t size pol).1:=by
 by_cases h1:wY t=0∧¬ (size<16∨size>65536)∧¬ (pol≠1∧pol≠2)
 ·exact (zKd h1.1 h1.2.1 h1.2.2).2.1
 ·unfold nQ
  by_cases a:wY t≠0
  ·rw [if_pos a];exact zGA
  rw [if_neg a]
  by_cases b:size<16∨size>65536
  ·rw [if_pos b];exact zGA
  rw [if_neg b]
  by_cases c:pol≠1∧pol≠2
  ·rw [if_pos c];exact zGA
  ·exact absurd ⟨by omega,b,c⟩ h1
end Go.Ab
