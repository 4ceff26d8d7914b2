/- Producers: what writing and draining keep. -/
import Derived.Test.YtdpgdpjoemdkjaaC10
namespace Go.Ab
open Go
set_option linter.unusedVariables false
def zAR (n:List (List Int)) (s:List zN):List (List Int)→List zL→Prop
 | [],[]=>True
 | b::r,e::q=>(∃ L,b=wG L∧zEl n s e L)∧zAR n s r q
 | _,_=>False
theorem zAR.mono {n n':List (List Int)} {s s':List zN} (hn:n <+: n') (hs:s <+: s'):∀ {l:List (List Int)} {q:List zL},zAR n s l q→zAR n' s' l q:=by
 intro l
 induction l with
 | nil=>intro q h;cases q with
  | nil=>trivial
  | cons e r=>exact h.elim
 | cons b r ih =>
  intro q h
  cases q with
  | nil=>exact h.elim
  | cons e q =>
   obtain ⟨⟨L,h1,h2⟩,h3⟩:=h
   exact ⟨⟨L,h1,h2.mono hn hs⟩,ih h3⟩
theorem zAR.drop {n:List (List Int)} {s:List zN}:∀ (k:Nat) {l:List (List Int)} {q:List zL},zAR n s l q→zAR n s (l.drop k) (q.drop k):=by
 intro k
 induction k with
 | zero=>intro l q h;simpa using h
 | succ k ih =>
  intro l q h
  cases l with
  | nil=>cases q with
   | nil=>simpa using h
   | cons e q=>exact h.elim
  | cons b r=>cases q with
   | nil=>exact h.elim
   | cons e q=>exact ih h.2
theorem zAR.snoc {n:List (List Int)} {s:List zN} {e:zL} {L:List Int} (hc:zEl n s e L):∀ {l:List (List Int)} {q:List zL},zAR n s l q→zAR n s (l++[wG L]) (q++[e]):=by
 intro l
 induction l with
 | nil=>intro q h;cases q with
  | nil=>exact ⟨⟨L,rfl,hc⟩,trivial⟩
  | cons e' q=>exact h.elim
 | cons b r ih =>
  intro q h
  cases q with
  | nil=>exact h.elim
  | cons e' q=>exact ⟨h.1,ih h.2⟩
theorem zAR.len {n:List (List Int)} {s:List zN}:∀ {l:List (List Int)} {q:List zL},zAR n s l q→l.length=q.length:=by
 intro l
 induction l with
 | nil=>intro q h;cases q with
  | nil=>rfl
  | cons e q=>exact h.elim
 | cons b r ih =>
  intro q h
  cases q with
  | nil=>exact h.elim
  | cons e q=>simp only [List.length_cons];rw [ih h.2]
theorem zRl {n:List (List Int)} {s:List zN}:∀ {l:List (List Int)},(∀ b∈l,zAP b)→(kO n s l).2=true→zAR n s l (kO n s l).1:=by
 intro l
 induction l with
 | nil=>intro _ _;trivial
 | cons b r ih =>
  intro hb h
  unfold kO at h ⊢
  by_cases h1:(tW n s b).2.2≠0∨(tW n s b).2.1≠(b.length:Int)
  ·rw [if_pos h1] at h;cases h
  rw [if_neg h1] at h ⊢
  by_cases h2:(kO n s r).2=true
  ·rw [if_pos h2]
   obtain ⟨_,L,hc,hl,ht⟩:=zME (hb b (by simp)).2 (show (tW n s b).2.2=0 by omega)
   refine ⟨⟨L,?_,hc⟩,ih (fun x hx=>hb x (by simp [hx])) h2⟩
   rw [← ht,List.take_of_length_le (by omega)]
  ·rw [if_neg h2] at h;cases h
theorem zAR.evs {n:List (List Int)} {s:List zN} (g:uM n s):∀ {l:List (List Int)} {q:List zL},zAR n s l q→kO n s l=(q,true):=by
 intro l
 induction l with
 | nil=>intro q h;cases q with
  | nil=>rfl
  | cons e q=>exact h.elim
 | cons b r ih =>
  intro q h
  cases q with
  | nil=>exact h.elim
  | cons e q =>
   obtain ⟨⟨L,h1,h2⟩,h3⟩:=h
   have hd:=zPW (more:=[]) g h2
   rw [List.append_nil,← h1] at hd
   unfold kO
   rw [hd,ih h3,if_neg (by simp),if_pos rfl]
theorem zQq {a b:Int} (h:a≤b):∀ {l:List zL},srt b l=true→srt a l=true:=by
 intro l
 cases l with
 | nil=>intro _;rfl
 | cons e r=>intro hs;unfold srt at *;rw [Bool.and_eq_true,decide_eq_true_eq] at *;exact ⟨by omega,hs.2⟩
theorem zQL:∀ (k:Nat) {l:List zL} {a:Int},srt a l=true→srt a (l.drop k)=true∧tV a (l.drop k)≤tV a l:=by
 intro k
 induction k with
 | zero=>intro l a h;exact ⟨by simpa using h,by simp⟩
 | succ k ih =>
  intro l a h
  cases l with
  | nil=>exact ⟨rfl,Int.le_refl _⟩
  | cons e r =>
   unfold srt at h
   rw [Bool.and_eq_true,decide_eq_true_eq] at h
   have h1:=ih (l:=r) (a:=a) (zQq h.1 h.2)
   rw [List.drop_succ_cons]
   refine ⟨h1.1,?_⟩
   have h2:tV a r≤tV e.At r:=by
    cases r with
    | nil=>exact h.1
    | cons x s=>exact Int.le_refl _
   have h3:tV a (e::r)=tV e.At r:=rfl
   rw [h3];exact Int.le_trans h1.2 h2
theorem zQZ {e:zL}:∀ {l:List zL} {a:Int},srt a l=true→tV a l≤e.At→srt a (l++[e])=true∧tV a (l++[e])=e.At:=by
 intro l
 induction l with
 | nil=>intro a _ h;exact ⟨by simp [srt];exact h,rfl⟩
 | cons x r ih =>
  intro a h1 h2
  unfold srt at h1
  rw [Bool.and_eq_true,decide_eq_true_eq] at h1
  have:=ih h1.2 h2
  exact ⟨by rw [List.cons_append];unfold srt;rw [this.1,yW h1.1];rfl,this.2⟩
theorem zOv {r:zO} {b:List Int} (h:(jV r b).2.2=0):tS r b=0∧jV r b=(jU r b,(tU r b:Int),0):=by
 unfold jV at h ⊢
 split at h
 ·rename_i h1;exact absurd h h1
 ·rename_i h1;exact ⟨by omega,if_neg h1⟩
structure zSl (p p':zG) (e:zL) (k:Nat):Prop where
 ev:evS e=0
 at_:p.Last≤e.At
 thr:p'.Thread=p.Thread
 last:p'.Last=e.At
 sent:p'.Sent=p.Sent
 first:p'.Ring.First=p.Ring.First+k
 next:p'.Ring.Next=p.Ring.Next+1
 pol:p'.Ring.Policy=p.Ring.Policy
 dat:p'.Ring.Data.length=p.Ring.Data.length
 endd:p'.Ring.End≤p.Ring.End+60
 stall:p.Ring.Policy=2→k=0
 kle:k≤(uB p).1.length
 chk:uB p'=((uB p).1.drop k++[e],0)
theorem zO9 {p:zG} {e:zL} (h:vA p.Ring) (hz:(zBC p e).2=0):(uB p).2=0∧PB (zBC p e).1∧∃ k,zSl p (zBC p e).1 e k:=by
 unfold zBC at hz ⊢
 by_cases h1:(uB p).2≠0
 ·rw [if_pos h1] at hz;exact absurd hz h1
 rw [if_neg h1] at hz ⊢
 by_cases h2:evS e≠0
 ·rw [if_pos h2] at hz;exact absurd hz h2
 rw [if_neg h2] at hz ⊢
 by_cases h3:e.At<p.Last
 ·rw [if_pos h3] at hz;cases hz
 rw [if_neg h3] at hz ⊢
 by_cases h4:(vU p.Names p.Stacks e).2.2.2≠0
 ·rw [if_pos h4] at hz;exact absurd hz h4
 rw [if_neg h4] at hz ⊢
 by_cases h5:(jV p.Ring (vU p.Names p.Stacks e).1).2.2≠0
 ·rw [if_pos h5] at hz;exact absurd hz h5
 rw [if_neg h5]
 obtain ⟨c1,c2,c3,c4,c5,c6,c7,c8⟩:=zAI (show (uB p).2=0 by omega)
 have hf:=zDO (show (uB p).2=0 by omega)
 rcases zGd (n:=p.Names) (s:=p.Stacks) (e:=e) with ⟨q1,_⟩ | ⟨q0,g,g2,pn,ps,L,hL,hc⟩
 ·exact absurd q1 h4
 have hl:=zKl q0
 obtain ⟨r1,r2⟩:=zOv (show (jV p.Ring (vU p.Names p.Stacks e).1).2.2=0 by omega)
 obtain ⟨m1,m2⟩:=zOW h hl.2 r1
 obtain ⟨u0,u1,u2,u3,u4,u5⟩:=zKM h r1
 have hlen:=zQH (n:=p.Names) (s:=p.Stacks) (e:=e)
 have htk:(tL p.Ring).1=(xB p.Ring).1:=by unfold tL;rw [if_neg (by omega)]
 have hK:=zRl (n:=p.Names) (s:=p.Stacks) (l:=(tL p.Ring).1) (zET h).1 c5
 rw [htk] at hK
 have hev:(evP p).1=(kO p.Names p.Stacks (xB p.Ring).1).1:=by unfold evP;rw [htk]
 have hkl:=hK.len
 have hkle:tU p.Ring (vU p.Names p.Stacks e).1≤(xB p.Ring).1.length:=zFG
 have ee:=zDj (show evS e=0 by omega)
 have hfr:=zCQ (vU p.Names p.Stacks e).1
 have hok:=zQM (b:=(vU p.Names p.Stacks e).1) h (by omega) hl.2
 rw [r2] at hok ⊢
 simp only at hok ⊢
 refine ⟨by omega,⟨hok,by simp only;omega,by simp only;omega⟩,tU p.Ring (vU p.Names p.Stacks e).1,⟨by omega,by omega,rfl,rfl,rfl,rfl,rfl,rfl,?_,?_,?_,?_,?_⟩⟩
 ·simp only [jU,pM]
 ·simp only [jU];omega
 ·intro hp
  unfold tU
  exact zOE (u3 hp)
 ·rw [c8,hev];omega
 ·have hgood:=kY (r:=jU p.Ring (vU p.Names p.Stacks e).1) (by rw [m1])
  have hd:=zQL (tU p.Ring (vU p.Names p.Stacks e).1) c6
  have hs:=zQZ (e:=e) hd.1 (by omega)
  have hK2:=((hK.drop (tU p.Ring (vU p.Names p.Stacks e).1)).mono pn ps).snoc hc
  have hevs:=hK2.evs g2
  have htk2:(tL (jU p.Ring (vU p.Names p.Stacks e).1)).1=(xB p.Ring).1.drop (tU p.Ring (vU p.Names p.Stacks e).1)++[wG L]:=by
   unfold tL;rw [if_neg (by rw [m1];simp),m1,hL]
  have hE:evP ⟨p.Thread,(vU p.Names p.Stacks e).2.1,(vU p.Names p.Stacks e).2.2.1,jU p.Ring (vU p.Names p.Stacks e).1,e.At,p.Sent⟩=((evP p).1.drop (tU p.Ring (vU p.Names p.Stacks e).1)++[e],true):=by
   unfold evP
   simp only
   rw [htk2,hevs,htk]
  rw [zJR (p:=⟨p.Thread,(vU p.Names p.Stacks e).2.1,(vU p.Names p.Stacks e).2.2.1,jU p.Ring (vU p.Names p.Stacks e).1,e.At,p.Sent⟩) c1 g2 (by simp only;rw [m1]) (by unfold nI;simp only [jU];omega) (by rw [hE]) (by rw [hE];exact hs.1) (by rw [hE,hs.2];exact Int.le_refl _),hE,c8]
theorem zOO {r:zO}:uA ⟨r.Policy,r.Data,r.End,r.End,r.Next,r.Next⟩=[]:=by
 unfold uA used ctn
 simp
theorem zP1 {r:zO} (hz:(xB r).2=0):xB ⟨r.Policy,r.Data,r.End,r.End,r.Next,r.Next⟩=([],0):=by
 obtain ⟨h1,h2,h3,h4⟩:=kY hz
 have g:=zIo h2
 refine zMn (by exact h1) (zHi ?_) (by rw [zOO];rfl) (by simp)
 unfold j0 at g ⊢
 simp only
 omega
theorem zGh {r:zO} (hz:(xB r).2=0):tL r=((xB r).1,⟨r.Policy,r.Data,r.End,r.End,r.Next,r.Next⟩):=by unfold tL;rw [if_neg (by omega)]
theorem zQf {r:zO} (h:vA r):vA (tL r).2:=by
 unfold tL
 split
 ·exact h
 ·exact ⟨h.1,h.2.2.1,h.2.2.1,h.2.2.2.2.1,h.2.2.2.2.1,h.2.2.2.2.2⟩
theorem zSc {p:zG} (h:PB p):PB (zDB p).2:=by
 unfold zDB
 split
 ·exact h
 ·exact ⟨zQf h.ring,h.names,h.stacks⟩
structure zRJ (p p':zG):Prop where
 thr:p'.Thread=p.Thread
 last:p'.Last=p.Last
 sent:p'.Sent=p.Ring.Next
 first:p'.Ring.First=p.Ring.Next
 next:p'.Ring.Next=p.Ring.Next
 pol:p'.Ring.Policy=p.Ring.Policy
 dat:p'.Ring.Data=p.Ring.Data
 start:p'.Ring.Start=p.Ring.End
 endd:p'.Ring.End=p.Ring.End
 names:p'.Names=p.Names
 stacks:p'.Stacks=p.Stacks
 chk:uB p'=([],0)
theorem zN6 {p:zG} (hz:(uB p).2=0):zRJ p (zDB p).2:=by
 obtain ⟨c1,c2,c3,c4,c5,c6,c7,c8⟩:=zAI hz
 have hf:=zDO hz
 unfold zDB
 rw [if_neg (by omega),zGh c3]
 refine ⟨rfl,rfl,rfl,rfl,rfl,rfl,rfl,rfl,rfl,rfl,rfl,?_⟩
 simp only
 have hr:=zP1 c3
 have hE:evP ⟨p.Thread,p.Names,p.Stacks,⟨p.Ring.Policy,p.Ring.Data,p.Ring.End,p.Ring.End,p.Ring.Next,p.Ring.Next⟩,p.Last,p.Ring.Next⟩=([],true):=by
  unfold evP
  simp only
  rw [zGh (by rw [hr]),hr];rfl
 rw [zJR (p:=⟨p.Thread,p.Names,p.Stacks,⟨p.Ring.Policy,p.Ring.Data,p.Ring.End,p.Ring.End,p.Ring.Next,p.Ring.Next⟩,p.Last,p.Ring.Next⟩) c1 c2 (by simp only;rw [hr]) (by unfold nI;simp only;omega) (by rw [hE]) (by rw [hE];rfl) (by rw [hE];simp only [tV];omega),hE]
theorem zR7 {t:yA} {size pol:Int} (ht:jT t=0) (hs:¬ (size<16∨size>65536)) (hp:¬ (pol≠1∧pol≠2)) :
  zCa t size pol=(⟨t,[],[],⟨pol,List.replicate size.toNat 0,0,0,0,0⟩,0,0⟩,0)∧PB (zCa t size pol).1∧uB (zCa t size pol).1=([],0):=by
 have e:zCa t size pol=(⟨t,[],[],⟨pol,List.replicate size.toNat 0,0,0,0,0⟩,0,0⟩,0):=by
  unfold zCa
  rw [if_neg (by omega),if_neg hs,if_neg hp]
 have hr:vA ⟨pol,List.replicate size.toNat 0,0,0,0,0⟩:=⟨fun x hx=>by rw [(List.mem_replicate.1 hx).2];unfold x7;omega,by unfold y2;simp,by unfold y2;simp,by unfold y2;simp,by unfold y2;simp,by simp;omega⟩
 have hz:xB ⟨pol,List.replicate size.toNat 0,0,0,0,0⟩=([],0):=by
  unfold xB
  rw [if_neg (by unfold jO;simp only;exact hp),if_neg (by unfold j0;simp;omega)]
  rfl
 rw [e]
 refine ⟨rfl,⟨hr,by simp,by simp⟩,?_⟩
 have hE:evP ⟨t,[],[],⟨pol,List.replicate size.toNat 0,0,0,0,0⟩,0,0⟩=([],true):=by
  unfold evP
  simp only
  rw [zGh (by rw [hz]),hz];rfl
 rw [zJR (p:=⟨t,[],[],⟨pol,List.replicate size.toNat 0,0,0,0,0⟩,0,0⟩) ht ⟨by simp,by simp,rfl,rfl⟩ (by simp only;rw [hz]) (by unfold nI;simp) (by rw [hE]) (by rw [hE];rfl) (by rw [hE];simp only [tV];omega),hE]
theorem zR3:PB pr0:=⟨⟨by simp [pr0],by unfold y2 pr0;simp,by unfold y2 pr0;simp,by unfold y2 pr0;simp,by unfold y2 pr0;simp,by simp [pr0]⟩,by simp [pr0],by simp [pr0]⟩
theorem zSi {p:zG} {e:zL} (h:vA p.Ring):PB (zBC p e).1:=by
 by_cases hz:(zBC p e).2=0
 ·exact (zO9 h hz).2.1
 ·have:(zBC p e).1=pr0:=by
   unfold zBC at hz ⊢
   repeat' split
   all_goals first | rfl | skip
   rename_i h1 h2 h3 h4 h5
   rw [if_neg h1,if_neg h2,if_neg h3,if_neg h4,if_neg h5] at hz
   exact absurd rfl hz
  rw [this];exact zR3
end Go.Ab
