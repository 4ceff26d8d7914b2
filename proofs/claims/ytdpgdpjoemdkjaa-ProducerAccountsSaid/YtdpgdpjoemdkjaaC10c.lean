/- Producers: the five laws. -/
import Derived.Test.YtdpgdpjoemdkjaaC10b
import Derived.Test.YtdpgdpjoemdkjaaR10
namespace Go.Ab
open Go
set_option linter.unusedVariables false
theorem zIZ (e:zE):∃ b,zAn 200000 e=some b:=by
 unfold zAn
 by_cases h:(decide (((e.Name.length:Nat):Int)>200)||decide (((e.Stack.length:Nat):Int)>60))=true
 ·rw [h];exact ⟨_,rfl⟩
 rw [show (decide (((e.Name.length:Nat):Int)>200)||decide (((e.Stack.length:Nat):Int)>60))=false by simpa using h,cond_false]
 have hs:e.Stack.length≤60:=by simp at h;omega
 rw [zB1 (l:=e.Stack) (t5 200000 e) (fun _ x=>if (x.length:Int)>200 then some false else none) (fun n i hi=>by
  show vE _ _ _ _=_
  unfold vE
  rw [z7 (by omega),cond_false]) (fun n i x r hd hlt=>by
  have hb:t5 200000 e (n+1) (i:Nat)=bif decide ((x.length:Int)>200) then some (.inr false) else t5 200000 e n ((i+1:Nat):Int):=by
   show vE _ _ _ _=_
   unfold vE
   rw [yH (by omega),cond_true,wL hd,Option.bind_some,uR (by omega)]
  rw [hb]
  by_cases h:(x.length:Int)>200
  ·rw [if_pos h,yH h];exact ⟨fun b h=>(by injection h with h;rw [← h];rfl),fun h=>(by cases h)⟩
  ·rw [if_neg h,z7 h];exact ⟨fun b h=>(by cases h),fun _=>rfl⟩) (by omega),Option.bind_some]
 generalize jM (fun _ x=>if ((x:List Int).length:Int)>200 then some false else none) 0 e.Stack=o
 cases o with
 | inl u=>exact ⟨_,rfl⟩
 | inr b=>exact ⟨_,rfl⟩
theorem zLm {ops:List yG}:zAO 200000 ops=some false∨(zAO 200000 ops=some true∧ops.length≤40):=by
 unfold zAO
 by_cases h:(ops.length:Int)>40
 ·rw [yH h];exact .inl rfl
 rw [z7 h,cond_false]
 have key:∀ (n i:Nat),(ops.drop i).length<n→∃ o,kN 200000 ops n (i:Nat)=some o∧(o=.inl ()∨o=.inr false):=by
  intro n
  induction n with
  | zero=>intro i h;omega
  | succ n ih =>
   intro i hn
   show ∃ o,qH _ _ _ _=some o∧_
   unfold qH
   rcases hd:ops.drop i with _ | ⟨x,r⟩
   ·have:=tY hd
    rw [z7 (by omega),cond_false];exact ⟨_,rfl,.inl rfl⟩
   have hlt:=qB hd
   rw [hd] at hn
   simp only [List.length_cons] at hn
   obtain ⟨b,hb⟩:=zIZ x.E
   rw [yH (by omega),cond_true,wL hd,Option.bind_some,hb,Option.bind_some]
   cases b
   ·exact ⟨_,rfl,.inr rfl⟩
   ·rw [Bool.not_true,cond_false,uR (by omega)]
    exact ih (i+1) (by rw [x8 hd];omega)
 obtain ⟨o,g1,g2⟩:=key 200000 0 (by simp;omega)
 rw [show kN 200000 ops 200000 0=_ from g1,Option.bind_some]
 rcases g2 with rfl | rfl
 ·exact .inr ⟨rfl,by omega⟩
 ·exact .inl rfl
theorem zGm (p:zA):(⟨⟨p.Thread.Id,p.Thread.Name,p.Thread.Domain⟩,p.Names,p.Stacks,⟨p.Ring.Policy,p.Ring.Data,p.Ring.Start,p.Ring.End,p.Ring.First,p.Ring.Next⟩,p.Last,p.Sent⟩:zA)=p:=rfl
structure PV (p:zA):Prop where
 b:PB p
 dat:p.Ring.Data.length≤1000
 chk:(xZ p).2=0
theorem PV.write {p:zA} {e:zE} (h:PV p) (hz:(zBe p e).2=0):PV (zBe p e).1:=by
 obtain ⟨_,h2,k,w⟩:=zI9 h.b.ring hz
 exact ⟨h2,by rw [w.dat];exact h.dat,by rw [w.chk]⟩
theorem PV.drain {p:zA} (h:PV p):PV (zBg p).2:=by
 have d:=zFw h.chk
 exact ⟨zMo h.b,by rw [d.dat];exact h.dat,by rw [d.chk]⟩
def thT:zC:=⟨1,[116],0⟩
theorem zMz:qD thT=0:=by decide
structure Acc (stall:Bool) (p:zA) (W:List zE):Prop where
 v:PV p
 nx:p.Ring.Next=(W.length:Int)
 ev:(xZ p).1=W.drop p.Ring.First.toNat
 em:(xZ p).1=[]→p.Sent=p.Ring.Next
 pol:stall=true→p.Ring.Policy=2∧p.Ring.First=p.Sent
theorem Acc.range {stall:Bool} {p:zA} {W:List zE} (h:Acc stall p W):0≤p.Sent∧p.Sent≤p.Ring.First∧p.Ring.First≤(W.length:Int):=by
 have:=zAd h.v.chk
 have:=h.nx
 omega
theorem Acc.write {stall:Bool} {p:zA} {W:List zE} {e:zE} (h:Acc stall p W) (hz:(zBe p e).2=0):Acc stall (zBe p e).1 (W++[e]):=by
 obtain ⟨_,h2,k,w⟩:=zI9 h.v.b.ring hz
 have hr:=h.range
 have hk:=w.kle
 rw [h.ev,List.length_drop] at hk
 refine ⟨h.v.write hz,?_,?_,?_,?_⟩
 ·rw [w.next,h.nx];simp
 ·rw [w.chk,w.first,h.ev,List.drop_drop,show (p.Ring.First+(k:Int)).toNat=p.Ring.First.toNat+k by omega,List.drop_append_of_le_length (by omega)]
 ·rw [w.chk];intro he;simp at he
 ·intro hs
  have:=h.pol hs
  rw [w.pol,w.first,w.sent,w.stall this.1]
  exact ⟨this.1,by simp;exact this.2⟩
theorem Acc.drain {stall:Bool} {p:zA} {W:List zE} (h:Acc stall p W):Acc stall (zBg p).2 W:=by
 have d:=zFw h.v.chk
 have hr:=h.range
 refine ⟨h.v.drain,by rw [d.next,h.nx],?_,?_,?_⟩
 ·rw [d.chk,d.first,h.nx];simp
 ·intro _;rw [d.sent,d.next]
 ·intro hs;rw [d.pol,d.first,d.sent];exact ⟨(h.pol hs).1,rfl⟩
theorem zCR {stall:Bool} {p:zA} {W:List zE} (h:Acc stall p W) (hW:W.length≤1000) (hs:∀ e∈W,e.Stack.length≤100000):qC 200000 (zBg p).1 W p.Sent=some ((W.length:Int),true):=by
 have hr:=h.range
 have hn:=h.nx
 unfold qC
 rw [zLj h.v.chk]
 unfold zGw
 obtain ⟨g,hg⟩:∃ g,200000=g+2:=⟨199998,rfl⟩
 have key:∀ l,uL 200000 l W 200000=uL 200000 l W (g+2):=fun l=>by rw [← hg]
 rw [key]
 by_cases hz:(xZ p).1.length=0
 ·have:=h.em (List.length_eq_zero_iff.1 hz)
  rw [if_pos hz]
  show (Option.bind (xE _ _ _ _ _ _) _)=_
  unfold xE
  rw [z7 (by simp),cond_false,Option.bind_some]
  simp only
  rw [this,hn]
 ·rw [if_neg hz]
  have hlen:((xZ p).1.length:Int)=W.length - p.Ring.First:=by rw [h.ev,List.length_drop];omega
  show (Option.bind (xE _ _ _ _ _ _) _)=_
  unfold xE
  have hsub:sub W p.Ring.First (W.length:Int)=(xZ p).1:=by rw [h.ev];exact zC4 W p.Ring.First
  rw [yH (by simp),cond_true,show yY [(⟨p.Thread.Id,p.Ring.First,p.Ring.First - p.Sent,(xZ p).1⟩:zW)] 0=some ⟨p.Thread.Id,p.Ring.First,p.Ring.First - p.Sent,(xZ p).1⟩ from rfl,Option.bind_some]
  simp only
  rw [z7 (by omega),cond_false,w64 (x:=p.Sent+(p.Ring.First - p.Sent)) (by omega) (by omega),xS (by omega),cond_false,w64 (by omega) (by omega),show p.Ring.First+((xZ p).1.length:Int)=(W.length:Int) by omega,z7 (by omega),cond_false,zBU (by omega),cond_false,yX (by omega),Option.bind_some,hsub,zDB (by omega) (fun e he=>hs e (by rw [h.ev] at he;exact List.mem_of_mem_drop he)),Option.bind_some,Option.bind_some,Bool.not_true,cond_false]
  show (Option.bind (xE _ _ _ _ _ _) _)=_
  unfold xE
  rw [z7 (by show ¬ ((1:Int)<1);omega),cond_false,Option.bind_some]
theorem zIn {e:zE} (h:evS e=0):e.Stack.length≤100000:=by
 unfold evS at h
 split at h
 ·cases h
 split at h
 ·cases h
 split at h
 ·cases h
 rename_i hb
 split at h
 ·rename_i ht;exact absurd h ht
 rename_i ht
 cases hu:yU e.Kind
 ·have:kW e=false:=by cases hx:kW e<;>simp_all
  unfold kW at this
  rw [hu] at this
  simp at this
  have h4:=this.2.2.2
  rw [h4];simp
 ·have hn:yK e.Kind=false:=by
   cases hx:yK e.Kind
   ·rfl
   ·have:=zFD e.Kind hx;rw [hu] at this;cases this
  unfold zAl at ht
  rw [hn,hu] at ht
  simp only [Bool.false_eq_true,if_false,if_true,ne_eq,Decidable.not_not] at ht
  unfold tA at ht
  by_cases h32:32<e.Stack.length
  ·rw [if_pos h32] at ht;cases ht
  ·omega
theorem zLg {stall:Bool} {ops:List yG} (hl:ops.length≤40):∀ (n i:Nat) (p:zA) (W:List zE),Acc stall p W→W.length≤i→i≤ops.length→(∀ e∈W,e.Stack.length≤100000)→(ops.drop i).length<n →
  ∃ (p':zA) (W':List zE),wN 200000 stall ops n p.Sent true (i:Nat) p.Thread.Id p.Thread.Name p.Thread.Domain p.Names p.Stacks p.Ring.Policy p.Ring.Data p.Ring.Start p.Ring.End p.Ring.First p.Ring.Next p.Last p.Sent W =
   some (p'.Sent,true,p'.Thread.Id,p'.Thread.Name,p'.Thread.Domain,p'.Names,p'.Stacks,p'.Ring.Policy,p'.Ring.Data,p'.Ring.Start,p'.Ring.End,p'.Ring.First,p'.Ring.Next,p'.Last,p'.Sent,W')∧Acc stall p' W'∧W'.length≤40∧∀ e∈W',e.Stack.length≤100000:=by
 intro n
 induction n with
 | zero=>intro i p W _ _ _ _ h;omega
 | succ n ih =>
  intro i p W hA hW hi hst hn
  show ∃ (p':zA) (W':List zE),wE _ _ _ _ _ _ _ _ _ _ _ _ _ _ _ _ _ _ _ _ _=_∧_
  unfold wE
  rcases hd:ops.drop i with _ | ⟨x,r⟩
  ·have:=tY hd
   rw [z7 (by omega),Bool.false_and,cond_false]
   exact ⟨p,W,rfl,hA,by omega,hst⟩
  have hlt:=qB hd
  rw [hd] at hn
  simp only [List.length_cons] at hn
  rw [yH (by omega),Bool.true_and,cond_true,wL hd,Option.bind_some,zGm p,Option.bind_some]
  cases hD:x.Drain
  ·rw [Bool.not_false,cond_true,zDl hA.v.b.ring,Option.bind_some]
   have lost0:∀ {q:zA} {V:List zE},Acc stall q V→(bif !stall then some true else (tH 200000 q).bind fun r_6=>some (r_6==(0:Int)))=some true:=by
    intro q V hq
    cases hs:stall
    ·rfl
    ·rw [Bool.not_true,cond_false,zDJ hq.v.b.ring,Option.bind_some]
     unfold zJB
     rw [if_neg (by rw [hq.v.chk];simp),(hq.pol hs).2,Int.sub_self];rfl
   by_cases hz:(zBe p x.E).2=0
   ·have hA':=hA.write hz
    rw [j7 hz,cond_true,Option.bind_some,yX (by simp;omega),Option.bind_some,Option.bind_some]
    simp only
    rw [zGm,lost0 hA',Option.bind_some,Option.bind_some]
    simp only
    rw [uR (by omega)]
    obtain ⟨_,_,k,w⟩:=zI9 hA.v.b.ring hz
    have hsent:=w.sent
    rw [← hsent]
    exact ih (i+1) _ _ hA' (by simp;omega) (by omega) (fun e he=>by
     rcases List.mem_append.1 he with he | he
     ·exact hst e he
     ·simp at he;subst he;exact zIn w.ev) (by rw [x8 hd];omega)
   ·rw [zBU hz,cond_false,Option.bind_some]
    simp only
    rw [zGm,lost0 hA,Option.bind_some,Option.bind_some]
    simp only
    rw [uR (by omega)]
    exact ih (i+1) _ _ hA (by omega) (by omega) hst (by rw [x8 hd];omega)
  ·have hA':=hA.drain
   have d:=zFw hA.v.chk
   rw [Bool.not_true,cond_false,zAC hA.v.b.ring hA.v.dat,Option.bind_some,zCR hA (by omega) hst,Option.bind_some,Option.bind_some]
   simp only
   rw [uR (by omega),← hA.nx,← d.sent]
   exact ih (i+1) _ _ hA' (by omega) (by omega) hst (by rw [x8 hd];omega)
theorem L10_ProducerAccounts_plain:∀ (a0:Int) (a1:Bool) (a2:List yG),z8 a0→zCO a1→zBY uP a2→∃ F,wR F a0 a1 a2=some true:=by
 intro size stall ops h0 h1 h2
 refine ⟨200000,?_⟩
 unfold wR
 rw [zMd,Option.bind_some,Bool.not_true,cond_false]
 rcases zLm (ops:=ops) with h | ⟨h,hl⟩
 ·rw [h,Option.bind_some,Option.bind_some,Bool.not_false,cond_true,Option.bind_some]
 rw [h,Option.bind_some,Option.bind_some,Bool.not_true,cond_false]
 have hpol:∃ pol:Int,(bif stall then some (2:Int) else some (1:Int))=some pol∧¬ (pol≠1∧pol≠2)∧(stall=true→pol=2):=by
  cases stall
  ·exact ⟨1,rfl,by simp,fun h=>by cases h⟩
  ·exact ⟨2,rfl,by simp,fun _=>rfl⟩
 obtain ⟨pol,hp1,hp2,hp3⟩:=hpol
 rw [hp1,Option.bind_some]
 have hs:16≤p7 16 (xL size 300)∧p7 16 (xL size 300)≤300:=by unfold p7 xL;split<;>split<;>omega
 show ((uS 200000 thT _ pol).bind _)=_
 rw [zEj,Option.bind_some]
 generalize p7 16 (xL size 300)=sz at *
 obtain ⟨e1,e2,e3⟩:=zMC (t:=thT) zMz (show ¬ (sz<16∨sz>65536) by omega) hp2
 have hV:PV (zAw thT sz pol).1:=⟨e2,by rw [e1];simp;omega,by rw [e3]⟩
 have hA:Acc stall (zAw thT sz pol).1 []:=⟨hV,by rw [e1];rfl,by rw [e3];simp,fun _=>by rw [e1],fun hst=>by rw [e1];exact ⟨hp3 hst,rfl⟩⟩
 rw [show ((zAw thT sz pol).2 != 0)=false by rw [e1];rfl,cond_false]
 obtain ⟨p',W',g1,g2,g3,g4⟩:=zLg hl 200000 0 (zAw thT sz pol).1 [] hA (by simp) (by omega) (by simp) (by simp;omega)
 have hs0:(zAw thT sz pol).1.Sent=0:=by rw [e1]
 rw [hs0] at g1
 rw [hs0,show wN 200000 stall ops 200000 0 true 0 _ _ _ _ _ _ _ _ _ _ _ _ _ _=_ from g1,Option.bind_some]
 simp only [Bool.not_true,cond_false]
 rw [zGm,zAC g2.v.b.ring g2.v.dat,Option.bind_some,zCR g2 (by omega) g4,Option.bind_some]
 simp
structure Tw (p:zA) (m:Nat):Prop where
 v:PV p
 nx:p.Ring.Next≤m
 en:p.Ring.End≤60 * (m:Int)
 pol:p.Ring.Policy=1
 dat:p.Ring.Data.length=200
end Go.Ab
