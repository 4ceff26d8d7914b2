/- Producers: what writing and draining keep. -/
import Derived.Test.YtdpgdpjoemdkjaaC10
namespace Go.Ab
open Go
set_option linter.unusedVariables false
def zAC (n:List (List Int)) (s:List zO):List (List Int)→List zL→Prop
 | [],[]=>True
 | b::r,e::q=>(∃ L,b=wD L∧zEg n s e L)∧zAC n s r q
 | _,_=>False
theorem zAC.mono {n n':List (List Int)} {s s':List zO} (hn:n <+: n') (hs:s <+: s'):∀ {l:List (List Int)} {q:List zL},zAC n s l q→zAC n' s' l q:=by
 intro l
 induction l with
 | nil=>intro q h;cases q with
  | nil=>trivial
  | cons e r=>exact h.elim
 | cons b r ih =>
  intro q h
  cases q with
  | nil=>exact h.elim
  | cons e q =>
   obtain ⟨⟨L,h1,h2⟩,h3⟩:=h
   exact ⟨⟨L,h1,h2.mono hn hs⟩,ih h3⟩
theorem zAC.drop {n:List (List Int)} {s:List zO}:∀ (k:Nat) {l:List (List Int)} {q:List zL},zAC n s l q→zAC n s (l.drop k) (q.drop k):=by
 intro k
 induction k with
 | zero=>intro l q h;simpa using h
 | succ k ih =>
  intro l q h
  cases l with
  | nil=>cases q with
   | nil=>simpa using h
   | cons e q=>exact h.elim
  | cons b r=>cases q with
   | nil=>exact h.elim
   | cons e q=>exact ih h.2
theorem zAC.snoc {n:List (List Int)} {s:List zO} {e:zL} {L:List Int} (hc:zEg n s e L):∀ {l:List (List Int)} {q:List zL},zAC n s l q→zAC n s (l++[wD L]) (q++[e]):=by
 intro l
 induction l with
 | nil=>intro q h;cases q with
  | nil=>exact ⟨⟨L,rfl,hc⟩,trivial⟩
  | cons e' q=>exact h.elim
 | cons b r ih =>
  intro q h
  cases q with
  | nil=>exact h.elim
  | cons e' q=>exact ⟨h.1,ih h.2⟩
theorem zAC.len {n:List (List Int)} {s:List zO}:∀ {l:List (List Int)} {q:List zL},zAC n s l q→l.length=q.length:=by
 intro l
 induction l with
 | nil=>intro q h;cases q with
  | nil=>rfl
  | cons e q=>exact h.elim
 | cons b r ih =>
  intro q h
  cases q with
  | nil=>exact h.elim
  | cons e q=>simp only [List.length_cons];rw [ih h.2]
theorem zRu {n:List (List Int)} {s:List zO}:∀ {l:List (List Int)},(∀ b∈l,zAx b)→(j6 n s l).2=true→zAC n s l (j6 n s l).1:=by
 intro l
 induction l with
 | nil=>intro _ _;trivial
 | cons b r ih =>
  intro hb h
  unfold j6 at h ⊢
  by_cases h1:(uZ n s b).2.2≠0∨(uZ n s b).2.1≠(b.length:Int)
  ·rw [if_pos h1] at h;cases h
  rw [if_neg h1] at h ⊢
  by_cases h2:(j6 n s r).2=true
  ·rw [if_pos h2]
   obtain ⟨_,L,hc,hl,ht⟩:=zMK (hb b (by simp)).2 (show (uZ n s b).2.2=0 by omega)
   refine ⟨⟨L,?_,hc⟩,ih (fun x hx=>hb x (by simp [hx])) h2⟩
   rw [← ht,List.take_of_length_le (by omega)]
  ·rw [if_neg h2] at h;cases h
theorem zAC.evs {n:List (List Int)} {s:List zO} (g:vW n s):∀ {l:List (List Int)} {q:List zL},zAC n s l q→j6 n s l=(q,true):=by
 intro l
 induction l with
 | nil=>intro q h;cases q with
  | nil=>rfl
  | cons e q=>exact h.elim
 | cons b r ih =>
  intro q h
  cases q with
  | nil=>exact h.elim
  | cons e q =>
   obtain ⟨⟨L,h1,h2⟩,h3⟩:=h
   have hd:=zPz (more:=[]) g h2
   rw [List.append_nil,← h1] at hd
   unfold j6
   rw [hd,ih h3,if_neg (by simp),if_pos rfl]
theorem zQa {a b:Int} (h:a≤b):∀ {l:List zL},srt b l=true→srt a l=true:=by
 intro l
 cases l with
 | nil=>intro _;rfl
 | cons e r=>intro hs;unfold srt at *;rw [Bool.and_eq_true,decide_eq_true_eq] at *;exact ⟨by omega,hs.2⟩
theorem zQv:∀ (k:Nat) {l:List zL} {a:Int},srt a l=true→srt a (l.drop k)=true∧u7 a (l.drop k)≤u7 a l:=by
 intro k
 induction k with
 | zero=>intro l a h;exact ⟨by simpa using h,by simp⟩
 | succ k ih =>
  intro l a h
  cases l with
  | nil=>exact ⟨rfl,Int.le_refl _⟩
  | cons e r =>
   unfold srt at h
   rw [Bool.and_eq_true,decide_eq_true_eq] at h
   have h1:=ih (l:=r) (a:=a) (zQa h.1 h.2)
   rw [List.drop_succ_cons]
   refine ⟨h1.1,?_⟩
   have h2:u7 a r≤u7 e.At r:=by
    cases r with
    | nil=>exact h.1
    | cons x s=>exact Int.le_refl _
   have h3:u7 a (e::r)=u7 e.At r:=rfl
   rw [h3];exact Int.le_trans h1.2 h2
theorem zQG {e:zL}:∀ {l:List zL} {a:Int},srt a l=true→u7 a l≤e.At→srt a (l++[e])=true∧u7 a (l++[e])=e.At:=by
 intro l
 induction l with
 | nil=>intro a _ h;exact ⟨by simp [srt];exact h,rfl⟩
 | cons x r ih =>
  intro a h1 h2
  unfold srt at h1
  rw [Bool.and_eq_true,decide_eq_true_eq] at h1
  have:=ih h1.2 h2
  exact ⟨by rw [List.cons_append];unfold srt;rw [this.1,yR h1.1];rfl,this.2⟩
theorem zN8 {r:zW} {b:List Int} (h:(qX r b).2.2=0):uY r b=0∧qX r b=(qY r b,(uX r b:Int),0):=by
 unfold qX at h ⊢
 split at h
 ·rename_i h1;exact absurd h h1
 ·rename_i h1;exact ⟨by omega,if_neg h1⟩
structure zRZ (p p':zK) (e:zL) (k:Nat):Prop where
 ev:evS e=0
 at_:p.Last≤e.At
 thr:p'.Thread=p.Thread
 last:p'.Last=e.At
 sent:p'.Sent=p.Sent
 first:p'.Ring.First=p.Ring.First+k
 next:p'.Ring.Next=p.Ring.Next+1
 pol:p'.Ring.Policy=p.Ring.Policy
 dat:p'.Ring.Data.length=p.Ring.Data.length
 endd:p'.Ring.End≤p.Ring.End+60
 stall:p.Ring.Policy=2→k=0
 kle:k≤(vO p).1.length
 chk:vO p'=((vO p).1.drop k++[e],0)
theorem zOC {p:zK} {e:zL} (h:wO p.Ring) (hz:(zBE p e).2=0):(vO p).2=0∧PB (zBE p e).1∧∃ k,zRZ p (zBE p e).1 e k:=by
 unfold zBE at hz ⊢
 by_cases h1:(vO p).2≠0
 ·rw [if_pos h1] at hz;exact absurd hz h1
 rw [if_neg h1] at hz ⊢
 by_cases h2:evS e≠0
 ·rw [if_pos h2] at hz;exact absurd hz h2
 rw [if_neg h2] at hz ⊢
 by_cases h3:e.At<p.Last
 ·rw [if_pos h3] at hz;cases hz
 rw [if_neg h3] at hz ⊢
 by_cases h4:(vA p.Names p.Stacks e).2.2.2≠0
 ·rw [if_pos h4] at hz;exact absurd hz h4
 rw [if_neg h4] at hz ⊢
 by_cases h5:(qX p.Ring (vA p.Names p.Stacks e).1).2.2≠0
 ·rw [if_pos h5] at hz;exact absurd hz h5
 rw [if_neg h5]
 obtain ⟨c1,c2,c3,c4,c5,c6,c7,c8⟩:=zAs (show (vO p).2=0 by omega)
 have hf:=zDX (show (vO p).2=0 by omega)
 rcases zFU (n:=p.Names) (s:=p.Stacks) (e:=e) with ⟨q1,_⟩ | ⟨q0,g,g2,pn,ps,L,hL,hc⟩
 ·exact absurd q1 h4
 have hl:=zJu q0
 obtain ⟨r1,r2⟩:=zN8 (show (qX p.Ring (vA p.Names p.Stacks e).1).2.2=0 by omega)
 obtain ⟨m1,m2⟩:=zOF h hl.2 r1
 obtain ⟨u0,u1,u2,u3,u4,u5⟩:=zKu h r1
 have hlen:=zQp (n:=p.Names) (s:=p.Stacks) (e:=e)
 have htk:(uR p.Ring).1=(y7 p.Ring).1:=by unfold uR;rw [if_neg (by omega)]
 have hK:=zRu (n:=p.Names) (s:=p.Stacks) (l:=(uR p.Ring).1) (zEP h).1 c5
 rw [htk] at hK
 have hev:(evP p).1=(j6 p.Names p.Stacks (y7 p.Ring).1).1:=by unfold evP;rw [htk]
 have hkl:=hK.len
 have hkle:uX p.Ring (vA p.Names p.Stacks e).1≤(y7 p.Ring).1.length:=zFD
 have ee:=zDf (show evS e=0 by omega)
 have hfr:=zC0 (vA p.Names p.Stacks e).1
 have hok:=zP2 (b:=(vA p.Names p.Stacks e).1) h (by omega) hl.2
 rw [r2] at hok ⊢
 simp only at hok ⊢
 refine ⟨by omega,⟨hok,by simp only;omega,by simp only;omega⟩,uX p.Ring (vA p.Names p.Stacks e).1,⟨by omega,by omega,rfl,rfl,rfl,rfl,rfl,rfl,?_,?_,?_,?_,?_⟩⟩
 ·simp only [qY,kP]
 ·simp only [qY];omega
 ·intro hp
  unfold uX
  exact zN5 (u3 hp)
 ·rw [c8,hev];omega
 ·have hgood:=j9 (r:=qY p.Ring (vA p.Names p.Stacks e).1) (by rw [m1])
  have hd:=zQv (uX p.Ring (vA p.Names p.Stacks e).1) c6
  have hs:=zQG (e:=e) hd.1 (by omega)
  have hK2:=((hK.drop (uX p.Ring (vA p.Names p.Stacks e).1)).mono pn ps).snoc hc
  have hevs:=hK2.evs g2
  have htk2:(uR (qY p.Ring (vA p.Names p.Stacks e).1)).1=(y7 p.Ring).1.drop (uX p.Ring (vA p.Names p.Stacks e).1)++[wD L]:=by
   unfold uR;rw [if_neg (by rw [m1];simp),m1,hL]
  have hE:evP ⟨p.Thread,(vA p.Names p.Stacks e).2.1,(vA p.Names p.Stacks e).2.2.1,qY p.Ring (vA p.Names p.Stacks e).1,e.At,p.Sent⟩=((evP p).1.drop (uX p.Ring (vA p.Names p.Stacks e).1)++[e],true):=by
   unfold evP
   simp only
   rw [htk2,hevs,htk]
  rw [zN3 (p:=⟨p.Thread,(vA p.Names p.Stacks e).2.1,(vA p.Names p.Stacks e).2.2.1,qY p.Ring (vA p.Names p.Stacks e).1,e.At,p.Sent⟩) c1 g2 (by simp only;rw [m1]) (by unfold nD;simp only [qY];omega) (by rw [hE]) (by rw [hE];exact hs.1) (by rw [hE,hs.2];exact Int.le_refl _),hE,c8]
theorem zOn {r:zW}:vL ⟨r.Policy,r.Data,r.End,r.End,r.Next,r.Next⟩=[]:=by
 unfold vL used ctn
 simp
theorem zO3 {r:zW} (hz:(y7 r).2=0):y7 ⟨r.Policy,r.Data,r.End,r.End,r.Next,r.Next⟩=([],0):=by
 obtain ⟨h1,h2,h3,h4⟩:=j9 hz
 have g:=zHX h2
 refine zMY (by exact h1) (zG3 ?_) (by rw [zOn];rfl) (by simp)
 unfold j4 at g ⊢
 simp only
 omega
theorem zIs {r:zW} (hz:(y7 r).2=0):uR r=((y7 r).1,⟨r.Policy,r.Data,r.End,r.End,r.Next,r.Next⟩):=by unfold uR;rw [if_neg (by omega)]
theorem zPk {r:zW} (h:wO r):wO (uR r).2:=by
 unfold uR
 split
 ·exact h
 ·exact ⟨h.1,h.2.2.1,h.2.2.1,h.2.2.2.2.1,h.2.2.2.2.1,h.2.2.2.2.2⟩
theorem zPJ {p:zK} (h:PB p):PB (zDy p).2:=by
 unfold zDy
 split
 ·exact h
 ·exact ⟨zPk h.ring,h.names,h.stacks⟩
structure zQV (p p':zK):Prop where
 thr:p'.Thread=p.Thread
 last:p'.Last=p.Last
 sent:p'.Sent=p.Ring.Next
 first:p'.Ring.First=p.Ring.Next
 next:p'.Ring.Next=p.Ring.Next
 pol:p'.Ring.Policy=p.Ring.Policy
 dat:p'.Ring.Data=p.Ring.Data
 start:p'.Ring.Start=p.Ring.End
 endd:p'.Ring.End=p.Ring.End
 names:p'.Names=p.Names
 stacks:p'.Stacks=p.Stacks
 chk:vO p'=([],0)
theorem zNO {p:zK} (hz:(vO p).2=0):zQV p (zDy p).2:=by
 obtain ⟨c1,c2,c3,c4,c5,c6,c7,c8⟩:=zAs hz
 have hf:=zDX hz
 unfold zDy
 rw [if_neg (by omega),zIs c3]
 refine ⟨rfl,rfl,rfl,rfl,rfl,rfl,rfl,rfl,rfl,rfl,rfl,?_⟩
 simp only
 have hr:=zO3 c3
 have hE:evP ⟨p.Thread,p.Names,p.Stacks,⟨p.Ring.Policy,p.Ring.Data,p.Ring.End,p.Ring.End,p.Ring.Next,p.Ring.Next⟩,p.Last,p.Ring.Next⟩=([],true):=by
  unfold evP
  simp only
  rw [zIs (by rw [hr]),hr];rfl
 rw [zN3 (p:=⟨p.Thread,p.Names,p.Stacks,⟨p.Ring.Policy,p.Ring.Data,p.Ring.End,p.Ring.End,p.Ring.Next,p.Ring.Next⟩,p.Last,p.Ring.Next⟩) c1 c2 (by simp only;rw [hr]) (by unfold nD;simp only;omega) (by rw [hE]) (by rw [hE];rfl) (by rw [hE];simp only [u7];omega),hE]
theorem zRQ:PB pr0:=⟨⟨by simp [pr0],by unfold y3 pr0;simp,by unfold y3 pr0;simp,by unfold y3 pr0;simp,by unfold y3 pr0;simp,by simp [pr0]⟩,by simp [pr0],by simp [pr0]⟩
theorem zRF {p:zK} {e:zL} (h:wO p.Ring):PB (zBE p e).1:=by
 by_cases hz:(zBE p e).2=0
 ·exact (zOC h hz).2.1
 ·have:(zBE p e).1=pr0:=by
   unfold zBE at hz ⊢
   repeat' split
   all_goals first | rfl | skip
   rename_i h1 h2 h3 h4 h5
   rw [if_neg h1,if_neg h2,if_neg h3,if_neg h4,if_neg h5] at hz
   exact absurd rfl hz
  rw [this];exact zRQ
end Go.Ab
