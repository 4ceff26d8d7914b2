/- Producers: what writing and draining keep. -/
import Derived.Test.YtdpgdpjoemdkjaaC10
namespace Go.Ab
open Go
set_option linter.unusedVariables false
def pU (n:List (List Int)) (s:List zJ):List (List Int)→List zE→Prop
 | [],[]=>True
 | b::r,e::q=>(∃ L,b=xL L∧zA5 n s e L)∧pU n s r q
 | _,_=>False
theorem pU.mono {n n':List (List Int)} {s s':List zJ} (hn:n <+: n') (hs:s <+: s'):∀ {l:List (List Int)} {q:List zE},pU n s l q→pU n' s' l q:=by
 intro l
 induction l with
 | nil=>intro q h;cases q with
  | nil=>trivial
  | cons e r=>exact h.elim
 | cons b r ih =>
  intro q h
  cases q with
  | nil=>exact h.elim
  | cons e q =>
   obtain ⟨⟨L,h1,h2⟩,h3⟩:=h
   exact ⟨⟨L,h1,h2.mono hn hs⟩,ih h3⟩
theorem pU.drop {n:List (List Int)} {s:List zJ}:∀ (k:Nat) {l:List (List Int)} {q:List zE},pU n s l q→pU n s (l.drop k) (q.drop k):=by
 intro k
 induction k with
 | zero=>intro l q h;simpa using h
 | succ k ih =>
  intro l q h
  cases l with
  | nil=>cases q with
   | nil=>simpa using h
   | cons e q=>exact h.elim
  | cons b r=>cases q with
   | nil=>exact h.elim
   | cons e q=>exact ih h.2
theorem pU.snoc {n:List (List Int)} {s:List zJ} {e:zE} {L:List Int} (hc:zA5 n s e L):∀ {l:List (List Int)} {q:List zE},pU n s l q→pU n s (l++[xL L]) (q++[e]):=by
 intro l
 induction l with
 | nil=>intro q h;cases q with
  | nil=>exact ⟨⟨L,rfl,hc⟩,trivial⟩
  | cons e' q=>exact h.elim
 | cons b r ih =>
  intro q h
  cases q with
  | nil=>exact h.elim
  | cons e' q=>exact ⟨h.1,ih h.2⟩
theorem pU.len {n:List (List Int)} {s:List zJ}:∀ {l:List (List Int)} {q:List zE},pU n s l q→l.length=q.length:=by
 intro l
 induction l with
 | nil=>intro q h;cases q with
  | nil=>rfl
  | cons e q=>exact h.elim
 | cons b r ih =>
  intro q h
  cases q with
  | nil=>exact h.elim
  | cons e q=>simp only [List.length_cons];rw [ih h.2]
theorem zNx {n:List (List Int)} {s:List zJ}:∀ {l:List (List Int)},(∀ b∈l,zAI b)→(j1 n s l).2=true→pU n s l (j1 n s l).1:=by
 intro l
 induction l with
 | nil=>intro _ _;trivial
 | cons b r ih =>
  intro hb h
  unfold j1 at h ⊢
  by_cases h1:(j0 n s b).2.2≠0∨(j0 n s b).2.1≠(b.length:Int)
  ·rw [if_pos h1] at h;cases h
  rw [if_neg h1] at h ⊢
  by_cases h2:(j1 n s r).2=true
  ·rw [if_pos h2]
   obtain ⟨_,L,hc,hl,ht⟩:=zJu (hb b (by simp)).2 (show (j0 n s b).2.2=0 by omega)
   refine ⟨⟨L,?_,hc⟩,ih (fun x hx=>hb x (by simp [hx])) h2⟩
   rw [← ht,List.take_of_length_le (by omega)]
  ·rw [if_neg h2] at h;cases h
theorem pU.evs {n:List (List Int)} {s:List zJ} (g:vB n s):∀ {l:List (List Int)} {q:List zE},pU n s l q→j1 n s l=(q,true):=by
 intro l
 induction l with
 | nil=>intro q h;cases q with
  | nil=>rfl
  | cons e q=>exact h.elim
 | cons b r ih =>
  intro q h
  cases q with
  | nil=>exact h.elim
  | cons e q =>
   obtain ⟨⟨L,h1,h2⟩,h3⟩:=h
   have hd:=zLx (more:=[]) g h2
   rw [List.append_nil,← h1] at hd
   unfold j1
   rw [hd,ih h3,if_neg (by simp),if_pos rfl]
theorem zMU {a b:Int} (h:a≤b):∀ {l:List zE},srt b l=true→srt a l=true:=by
 intro l
 cases l with
 | nil=>intro _;rfl
 | cons e r=>intro hs;unfold srt at *;rw [Bool.and_eq_true,decide_eq_true_eq] at *;exact ⟨by omega,hs.2⟩
theorem zMJ:∀ (k:Nat) {l:List zE} {a:Int},srt a l=true→srt a (l.drop k)=true∧kA a (l.drop k)≤kA a l:=by
 intro k
 induction k with
 | zero=>intro l a h;exact ⟨by simpa using h,by simp⟩
 | succ k ih =>
  intro l a h
  cases l with
  | nil=>exact ⟨rfl,Int.le_refl _⟩
  | cons e r =>
   unfold srt at h
   rw [Bool.and_eq_true,decide_eq_true_eq] at h
   have h1:=ih (l:=r) (a:=a) (zMU h.1 h.2)
   rw [List.drop_succ_cons]
   refine ⟨h1.1,?_⟩
   have h2:kA a r≤kA e.At r:=by
    cases r with
    | nil=>exact h.1
    | cons x s=>exact Int.le_refl _
   have h3:kA a (e::r)=kA e.At r:=rfl
   rw [h3];exact Int.le_trans h1.2 h2
theorem zMQ {e:zE}:∀ {l:List zE} {a:Int},srt a l=true→kA a l≤e.At→srt a (l++[e])=true∧kA a (l++[e])=e.At:=by
 intro l
 induction l with
 | nil=>intro a _ h;exact ⟨by simp [srt];exact h,rfl⟩
 | cons x r ih =>
  intro a h1 h2
  unfold srt at h1
  rw [Bool.and_eq_true,decide_eq_true_eq] at h1
  have:=ih h1.2 h2
  exact ⟨by rw [List.cons_append];unfold srt;rw [this.1,y4 h1.1];rfl,this.2⟩
theorem zK4 {r:zB} {b:List Int} (h:(j8 r b).2.2=0):tP r b=0∧j8 r b=(tK r b,(uJ r b:Int),0):=by
 unfold j8 at h ⊢
 split at h
 ·rename_i h1;exact absurd h h1
 ·rename_i h1;exact ⟨by omega,if_neg h1⟩
structure zOw (p p':zA) (e:zE) (k:Nat):Prop where
 ev:evS e=0
 at_:p.Last≤e.At
 thr:p'.Thread=p.Thread
 last:p'.Last=e.At
 sent:p'.Sent=p.Sent
 first:p'.Ring.First=p.Ring.First+k
 next:p'.Ring.Next=p.Ring.Next+1
 pol:p'.Ring.Policy=p.Ring.Policy
 dat:p'.Ring.Data.length=p.Ring.Data.length
 endd:p'.Ring.End≤p.Ring.End+60
 stall:p.Ring.Policy=2→k=0
 kle:k≤(vX p).1.length
 chk:vX p'=((vX p).1.drop k++[e],0)
theorem zH4 {p:zA} {e:zE} (h:vA p.Ring) (hz:(zAL p e).2=0):(vX p).2=0∧PB (zAL p e).1∧∃ k,zOw p (zAL p e).1 e k:=by
 unfold zAL at hz ⊢
 by_cases h1:(vX p).2≠0
 ·rw [if_pos h1] at hz;exact absurd hz h1
 rw [if_neg h1] at hz ⊢
 by_cases h2:evS e≠0
 ·rw [if_pos h2] at hz;exact absurd hz h2
 rw [if_neg h2] at hz ⊢
 by_cases h3:e.At<p.Last
 ·rw [if_pos h3] at hz;cases hz
 rw [if_neg h3] at hz ⊢
 by_cases h4:(wN p.Names p.Stacks e).2.2.2≠0
 ·rw [if_pos h4] at hz;exact absurd hz h4
 rw [if_neg h4] at hz ⊢
 by_cases h5:(j8 p.Ring (wN p.Names p.Stacks e).1).2.2≠0
 ·rw [if_pos h5] at hz;exact absurd hz h5
 rw [if_neg h5]
 obtain ⟨c1,c2,c3,c4,c5,c6,c7,c8⟩:=zAb (show (vX p).2=0 by omega)
 have hf:=pO (show (vX p).2=0 by omega)
 rcases zDX (n:=p.Names) (s:=p.Stacks) (e:=e) with ⟨q1,_⟩ | ⟨q0,g,g2,pn,ps,L,hL,hc⟩
 ·exact absurd q1 h4
 have hl:=zKq q0
 obtain ⟨r1,r2⟩:=zK4 (show (j8 p.Ring (wN p.Names p.Stacks e).1).2.2=0 by omega)
 obtain ⟨m1,m2⟩:=zK0 h hl.2 r1
 obtain ⟨u0,u1,u2,u3,u4,u5⟩:=zHA h r1
 have hlen:=zNn (n:=p.Names) (s:=p.Stacks) (e:=e)
 have htk:(v9 p.Ring).1=(yZ p.Ring).1:=by unfold v9;rw [if_neg (by omega)]
 have hK:=zNx (n:=p.Names) (s:=p.Stacks) (l:=(v9 p.Ring).1) (zDV h).1 c5
 rw [htk] at hK
 have hev:(evP p).1=(j1 p.Names p.Stacks (yZ p.Ring).1).1:=by unfold evP;rw [htk]
 have hkl:=hK.len
 have hkle:uJ p.Ring (wN p.Names p.Stacks e).1≤(yZ p.Ring).1.length:=zED
 have ee:=zDz (show evS e=0 by omega)
 have hfr:=zBR (wN p.Names p.Stacks e).1
 have hok:=zNl (b:=(wN p.Names p.Stacks e).1) h (by omega) hl.2
 rw [r2] at hok ⊢
 simp only at hok ⊢
 refine ⟨by omega,⟨hok,by simp only;omega,by simp only;omega⟩,uJ p.Ring (wN p.Names p.Stacks e).1,⟨by omega,by omega,rfl,rfl,rfl,rfl,rfl,rfl,?_,?_,?_,?_,?_⟩⟩
 ·simp only [tK,zBB]
 ·simp only [tK];omega
 ·intro hp
  unfold uJ
  exact zLf (u3 hp)
 ·rw [c8,hev];omega
 ·have hgood:=kL (r:=tK p.Ring (wN p.Names p.Stacks e).1) (by rw [m1])
  have hd:=zMJ (uJ p.Ring (wN p.Names p.Stacks e).1) c6
  have hs:=zMQ (e:=e) hd.1 (by omega)
  have hK2:=((hK.drop (uJ p.Ring (wN p.Names p.Stacks e).1)).mono pn ps).snoc hc
  have hevs:=hK2.evs g2
  have htk2:(v9 (tK p.Ring (wN p.Names p.Stacks e).1)).1=(yZ p.Ring).1.drop (uJ p.Ring (wN p.Names p.Stacks e).1)++[xL L]:=by
   unfold v9;rw [if_neg (by rw [m1];simp),m1,hL]
  have hE:evP ⟨p.Thread,(wN p.Names p.Stacks e).2.1,(wN p.Names p.Stacks e).2.2.1,tK p.Ring (wN p.Names p.Stacks e).1,e.At,p.Sent⟩=((evP p).1.drop (uJ p.Ring (wN p.Names p.Stacks e).1)++[e],true):=by
   unfold evP
   simp only
   rw [htk2,hevs,htk]
  rw [zHb (p:=⟨p.Thread,(wN p.Names p.Stacks e).2.1,(wN p.Names p.Stacks e).2.2.1,tK p.Ring (wN p.Names p.Stacks e).1,e.At,p.Sent⟩) c1 g2 (by simp only;rw [m1]) (by unfold pH;simp only [tK];omega) (by rw [hE]) (by rw [hE];exact hs.1) (by rw [hE,hs.2];exact Int.le_refl _),hE,c8]
theorem zK8 {r:zB}:wW ⟨r.Policy,r.Data,r.End,r.End,r.Next,r.Next⟩=[]:=by
 unfold wW used ctn
 simp
theorem zMp {r:zB} (hz:(yZ r).2=0):yZ ⟨r.Policy,r.Data,r.End,r.End,r.Next,r.Next⟩=([],0):=by
 obtain ⟨h1,h2,h3,h4⟩:=kL hz
 have g:=zFE h2
 refine zIR (by exact h1) (zEI ?_) (by rw [zK8];rfl) (by simp)
 unfold tM at g ⊢
 simp only
 omega
theorem zCh {r:zB} (hz:(yZ r).2=0):v9 r=((yZ r).1,⟨r.Policy,r.Data,r.End,r.End,r.Next,r.Next⟩):=by unfold v9;rw [if_neg (by omega)]
theorem zMf {r:zB} (h:vA r):vA (v9 r).2:=by
 unfold v9
 split
 ·exact h
 ·exact ⟨h.1,h.2.2.1,h.2.2.1,h.2.2.2.2.1,h.2.2.2.2.1,h.2.2.2.2.2⟩
theorem zOi {p:zA} (h:PB p):PB (zAZ p).2:=by
 unfold zAZ
 split
 ·exact h
 ·exact ⟨zMf h.ring,h.names,h.stacks⟩
structure zNM (p p':zA):Prop where
 thr:p'.Thread=p.Thread
 last:p'.Last=p.Last
 sent:p'.Sent=p.Ring.Next
 first:p'.Ring.First=p.Ring.Next
 next:p'.Ring.Next=p.Ring.Next
 pol:p'.Ring.Policy=p.Ring.Policy
 dat:p'.Ring.Data=p.Ring.Data
 start:p'.Ring.Start=p.Ring.End
 endd:p'.Ring.End=p.Ring.End
 names:p'.Names=p.Names
 stacks:p'.Stacks=p.Stacks
 chk:vX p'=([],0)
theorem zGV {p:zA} (hz:(vX p).2=0):zNM p (zAZ p).2:=by
 obtain ⟨c1,c2,c3,c4,c5,c6,c7,c8⟩:=zAb hz
 have hf:=pO hz
 unfold zAZ
 rw [if_neg (by omega),zCh c3]
 refine ⟨rfl,rfl,rfl,rfl,rfl,rfl,rfl,rfl,rfl,rfl,rfl,?_⟩
 simp only
 have hr:=zMp c3
 have hE:evP ⟨p.Thread,p.Names,p.Stacks,⟨p.Ring.Policy,p.Ring.Data,p.Ring.End,p.Ring.End,p.Ring.Next,p.Ring.Next⟩,p.Last,p.Ring.Next⟩=([],true):=by
  unfold evP
  simp only
  rw [zCh (by rw [hr]),hr];rfl
 rw [zHb (p:=⟨p.Thread,p.Names,p.Stacks,⟨p.Ring.Policy,p.Ring.Data,p.Ring.End,p.Ring.End,p.Ring.Next,p.Ring.Next⟩,p.Last,p.Ring.Next⟩) c1 c2 (by simp only;rw [hr]) (by unfold pH;simp only;omega) (by rw [hE]) (by rw [hE];rfl) (by rw [hE];simp only [kA];omega),hE]
theorem zIY {p:zA} (hz:(vX p).2=0):(zAZ p).1=zJj p.Thread.Id p.Ring.First (p.Ring.First - p.Sent) (vX p).1:=by
 have hf:=pO hz
 unfold zAZ
 rw [if_neg (by omega),w64 (by omega) (by omega)]
theorem zOj {t:zC} {size pol:Int} (ht:kH t=0) (hs:¬ (size<16∨size>65536)) (hp:¬ (pol≠1∧pol≠2)) :
  zDL t size pol=(⟨t,[],[],⟨pol,List.replicate size.toNat 0,0,0,0,0⟩,0,0⟩,0)∧PB (zDL t size pol).1∧vX (zDL t size pol).1=([],0):=by
 have e:zDL t size pol=(⟨t,[],[],⟨pol,List.replicate size.toNat 0,0,0,0,0⟩,0,0⟩,0):=by
  unfold zDL
  rw [if_neg (by omega),if_neg hs,if_neg hp]
 have hr:vA ⟨pol,List.replicate size.toNat 0,0,0,0,0⟩:=⟨fun x hx=>by rw [(List.mem_replicate.1 hx).2];unfold xJ;omega,by unfold yS;simp,by unfold yS;simp,by unfold yS;simp,by unfold yS;simp,by simp;omega⟩
 have hz:yZ ⟨pol,List.replicate size.toNat 0,0,0,0,0⟩=([],0):=by
  unfold yZ
  rw [if_neg (by unfold tG;simp only;exact hp),if_neg (by unfold tM;simp;omega)]
  rfl
 rw [e]
 refine ⟨rfl,⟨hr,by simp,by simp⟩,?_⟩
 have hE:evP ⟨t,[],[],⟨pol,List.replicate size.toNat 0,0,0,0,0⟩,0,0⟩=([],true):=by
  unfold evP
  simp only
  rw [zCh (by rw [hz]),hz];rfl
 rw [zHb (p:=⟨t,[],[],⟨pol,List.replicate size.toNat 0,0,0,0,0⟩,0,0⟩) ht ⟨by simp,by simp,rfl,rfl⟩ (by simp only;rw [hz]) (by unfold pH;simp) (by rw [hE]) (by rw [hE];rfl) (by rw [hE];simp only [kA];omega),hE]
end Go.Ab
