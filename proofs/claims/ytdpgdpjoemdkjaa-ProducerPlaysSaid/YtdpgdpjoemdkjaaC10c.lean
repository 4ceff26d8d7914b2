/- Producers: the five laws. -/
import Derived.Test.YtdpgdpjoemdkjaaC10b
import Derived.Test.YtdpgdpjoemdkjaaR10
namespace Go.Ab
open Go
set_option linter.unusedVariables false
theorem zOY (e:zL):∃ b,zDV 200000 e=some b:=by
 unfold zDV
 by_cases h:(decide (((e.Name.length:Nat):Int)>200)||decide (((e.Stack.length:Nat):Int)>60))=true
 ·rw [h];exact ⟨_,rfl⟩
 rw [show (decide (((e.Name.length:Nat):Int)>200)||decide (((e.Stack.length:Nat):Int)>60))=false by simpa using h,cond_false]
 have hs:e.Stack.length≤60:=by simp at h;omega
 rw [zAW (l:=e.Stack) (nR 200000 e) (fun _ x=>if (x.length:Int)>200 then some false else none) (fun n i hi=>by
  show qT _ _ _ _=_
  unfold qT
  rw [yI (by omega),cond_false]) (fun n i x r hd hlt=>by
  have hb:nR 200000 e (n+1) (i:Nat)=bif decide ((x.length:Int)>200) then some (.inr false) else nR 200000 e n ((i+1:Nat):Int):=by
   show qT _ _ _ _=_
   unfold qT
   rw [yW (by omega),cond_true,x3 hd,zbs,vS (by omega)]
  rw [hb]
  by_cases h:(x.length:Int)>200
  ·rw [if_pos h,yW h];exact ⟨fun b h=>(by injection h with h;rw [← h];rfl),fun h=>(by cases h)⟩
  ·rw [if_neg h,yI h];exact ⟨fun b h=>(by cases h),fun _=>rfl⟩) (by omega),zbs]
 generalize nP (fun _ x=>if ((x:List Int).length:Int)>200 then some false else none) 0 e.Stack=o
 cases o with
 | inl u=>exact ⟨_,rfl⟩
 | inr b=>exact ⟨_,rfl⟩
theorem zQz {ops:List xP}:zEy 200000 ops=some false∨(zEy 200000 ops=some true∧ops.length≤40):=by
 unfold zEy
 by_cases h:(ops.length:Int)>40
 ·rw [yW h];exact .inl rfl
 rw [yI h,cond_false]
 have key:∀ (n i:Nat),(ops.drop i).length<n→∃ o,zBQ 200000 ops n (i:Nat)=some o∧(o=.inl ()∨o=.inr false):=by
  intro n
  induction n with
  | zero=>intro i h;omega
  | succ n ih =>
   intro i hn
   show ∃ o,n9 _ _ _ _=some o∧_
   unfold n9
   rcases hd:ops.drop i with _ | ⟨x,r⟩
   ·have:=qR hd
    rw [yI (by omega),cond_false];exact ⟨_,rfl,.inl rfl⟩
   have hlt:=jN hd
   rw [hd] at hn
   simp only [List.length_cons] at hn
   obtain ⟨b,hb⟩:=zOY x.E
   rw [yW (by omega),cond_true,x3 hd,zbs,hb,zbs]
   cases b
   ·exact ⟨_,rfl,.inr rfl⟩
   ·rw [Bool.not_true,cond_false,vS (by omega)]
    exact ih (i+1) (by rw [wN hd];omega)
 obtain ⟨o,g1,g2⟩:=key 200000 0 (by simp;omega)
 rw [show zBQ 200000 ops 200000 0=_ from g1,zbs]
 rcases g2 with rfl | rfl
 ·exact .inr ⟨rfl,by omega⟩
 ·exact .inl rfl
theorem zLt (p:zG):(⟨⟨p.Thread.Id,p.Thread.Name,p.Thread.Domain⟩,p.Names,p.Stacks,⟨p.Ring.Policy,p.Ring.Data,p.Ring.Start,p.Ring.End,p.Ring.First,p.Ring.Next⟩,p.Last,p.Sent⟩:zG)=p:=rfl
structure PV (p:zG):Prop where
 b:PB p
 dat:p.Ring.Data.length≤1000
 chk:(uB p).2=0
theorem PV.write {p:zG} {e:zL} (h:PV p) (hz:(zBC p e).2=0):PV (zBC p e).1:=by
 obtain ⟨_,h2,k,w⟩:=zO9 h.b.ring hz
 exact ⟨h2,by rw [w.dat];exact h.dat,by rw [w.chk]⟩
theorem PV.drain {p:zG} (h:PV p):PV (zDB p).2:=by
 have d:=zN6 h.chk
 exact ⟨zSc h.b,by rw [d.dat];exact h.dat,by rw [d.chk]⟩
theorem zOy {ops:List xP} (hl:ops.length≤40):∀ (n i:Nat) (p:zG),PV p→(ops.drop i).length<n→t9 200000 ops n (i:Nat) p.Thread.Id p.Thread.Name p.Thread.Domain p.Names p.Stacks p.Ring.Policy p.Ring.Data p.Ring.Start p.Ring.End p.Ring.First p.Ring.Next p.Last p.Sent p.Thread.Id p.Thread.Name p.Thread.Domain p.Names p.Stacks p.Ring.Policy p.Ring.Data p.Ring.Start p.Ring.End p.Ring.First p.Ring.Next p.Last p.Sent=some (.inl ()):=by
 intro n
 induction n with
 | zero=>intro i p _ h;omega
 | succ n ih =>
  intro i p hV hn
  have fin:∀ q:zG,PV q→zCy 200000 q q=some true∧jM 200000 q=some 0:=fun q hq=>⟨zGy hq.b,by rw [zCg hq.b.ring,hq.chk]⟩
  show tT _ _ _ _ _ _ _ _ _ _ _ _ _ _ _ _ _ _ _ _ _ _ _ _ _ _ _ _ _ _=_
  unfold tT
  rcases hd:ops.drop i with _ | ⟨x,r⟩
  ·have:=qR hd
   rw [yI (by omega),cond_false]
  have hlt:=jN hd
  rw [hd] at hn
  simp only [List.length_cons] at hn
  have hpk:=zRY hV.b.ring
  rw [yW (by omega),cond_true,x3 hd,zbs,zLt p,zbs]
  cases hD:x.Drain
  ·rw [cond_false,zHx hV.b.ring,zbs,zbs,zMu hV.b.ring,zbs,xD rfl,cond_false,zGy (zSi hV.b.ring),zbs,zbs,Bool.not_true,cond_false]
   by_cases hz:(zBC p x.E).2=0
   ·have hW:=hV.write hz
    obtain ⟨f1,f2⟩:=fin _ hW
    rw [kZ hz,cond_true,zbs]
    simp only
    rw [zLt,f1,zbs,Bool.not_true,cond_false,f2,zbs,xD rfl,zbs,cond_false,zbs]
    simp only
    rw [vS (by omega)]
    exact ih (i+1) _ hW (by rw [wN hd];omega)
   ·obtain ⟨f1,f2⟩:=fin _ hV
    rw [zBU hz,cond_false,zbs]
    simp only
    rw [zLt,f1,zbs,Bool.not_true,cond_false,f2,zbs,xD rfl,zbs,cond_false,zbs]
    simp only
    rw [vS (by omega)]
    exact ih (i+1) _ hV (by rw [wN hd];omega)
  ·have hW:=hV.drain
   obtain ⟨f1,f2⟩:=fin _ hW
   rw [cond_true,zHA hV.b.ring hV.dat,zbs,zLw hV.b.ring hV.dat,zbs,zGm hpk.1 hpk.2,zbs,Bool.not_true,cond_false,zId hV.b.ring,zbs,zNy hV.b.ring,zbs,xD rfl,zbs,cond_false,zbs]
   simp only
   rw [zLt,f1,zbs,Bool.not_true,cond_false,f2,zbs,xD rfl,zbs,cond_false,zbs]
   simp only
   rw [vS (by omega)]
   exact ih (i+1) _ hW (by rw [wN hd];omega)
def thT:yA:=⟨1,[116],0⟩
theorem zPZ:jT thT=0:=by decide
theorem zRZ {size pol:Int} (hz:(zCa thT size pol).2=0) (hs:size≤1000):PV (zCa thT size pol).1∧uB (zCa thT size pol).1=([],0)∧zCa thT size pol=(⟨thT,[],[],⟨pol,List.replicate size.toNat 0,0,0,0,0⟩,0,0⟩,0):=by
 have:¬ (size<16∨size>65536)∧¬ (pol≠1∧pol≠2):=by
  unfold zCa at hz
  rw [if_neg (by rw [zPZ];simp)] at hz
  by_cases b:size<16∨size>65536
  ·rw [if_pos b] at hz;cases hz
  rw [if_neg b] at hz
  by_cases c:pol≠1∧pol≠2
  ·rw [if_pos c] at hz;cases hz
  ·exact ⟨b,c⟩
 obtain ⟨e1,e2,e3⟩:=zR7 zPZ this.1 this.2
 exact ⟨⟨e2,by rw [e1];simp;omega,by rw [e3]⟩,e3,e1⟩
theorem L10_ProducerPlays_plain:∀ (a0:Int) (a1:Int) (a2:List xP),y2 a0→y2 a1→zGl kW a2→∃ F,qO F a0 a1 a2=some true:=by
 intro size pol ops h0 h1 h2
 refine ⟨200000,?_⟩
 unfold qO
 rw [zRw,zbs,Bool.not_true,cond_false]
 rcases zQz (ops:=ops) with h | ⟨h,hl⟩
 ·rw [h,zbs,Bool.not_false,cond_true,zbs,cond_true,zbs]
 rw [h,zbs,Bool.not_true,cond_false,zbs]
 by_cases hs:size>300
 ·rw [yW hs,cond_true,zbs]
 rw [yI hs,cond_false]
 show ((pC 200000 thT size pol).bind _)=_
 rw [zJb,zbs]
 show ((zEs 200000 thT size pol).bind _)=_
 rw [zOt,zbs]
 by_cases hz:(zCa thT size pol).2=0
 ·obtain ⟨hV,_,_⟩:=zRZ hz (by omega)
  rw [xD hz,Bool.or_self,cond_false,show t9 200000 ops 200000 0 _ _ _ _ _ _ _ _ _ _ _ _ _ _ _ _ _ _ _ _ _ _ _ _ _ _=_ from zOy hl 200000 0 (zCa thT size pol).1 hV (by simp;omega),zbs]
 ·rw [xW hz,Bool.or_self,cond_true,BEq.rfl]
structure Acc (stall:Bool) (p:zG) (W:List zL):Prop where
 v:PV p
 nx:p.Ring.Next=(W.length:Int)
 ev:(uB p).1=W.drop p.Ring.First.toNat
 em:(uB p).1=[]→p.Sent=p.Ring.Next
 pol:stall=true→p.Ring.Policy=2∧p.Ring.First=p.Sent
theorem Acc.range {stall:Bool} {p:zG} {W:List zL} (h:Acc stall p W):0≤p.Sent∧p.Sent≤p.Ring.First∧p.Ring.First≤(W.length:Int):=by
 have:=zDO h.v.chk
 have:=h.nx
 omega
theorem Acc.write {stall:Bool} {p:zG} {W:List zL} {e:zL} (h:Acc stall p W) (hz:(zBC p e).2=0):Acc stall (zBC p e).1 (W++[e]):=by
 obtain ⟨_,h2,k,w⟩:=zO9 h.v.b.ring hz
 have hr:=h.range
 have hk:=w.kle
 rw [h.ev,List.length_drop] at hk
 refine ⟨h.v.write hz,?_,?_,?_,?_⟩
 ·rw [w.next,h.nx];simp
 ·rw [w.chk,w.first,h.ev,List.drop_drop,show (p.Ring.First+(k:Int)).toNat=p.Ring.First.toNat+k by omega,List.drop_append_of_le_length (by omega)]
 ·rw [w.chk];intro he;simp at he
 ·intro hs
  have:=h.pol hs
  rw [w.pol,w.first,w.sent,w.stall this.1]
  exact ⟨this.1,by simp;exact this.2⟩
theorem Acc.drain {stall:Bool} {p:zG} {W:List zL} (h:Acc stall p W):Acc stall (zDB p).2 W:=by
 have d:=zN6 h.v.chk
 have hr:=h.range
 refine ⟨h.v.drain,by rw [d.next,h.nx],?_,?_,?_⟩
 ·rw [d.chk,d.first,h.nx];simp
 ·intro _;rw [d.sent,d.next]
 ·intro hs;rw [d.pol,d.first,d.sent];exact ⟨(h.pol hs).1,rfl⟩
structure Tw (p:zG) (m:Nat):Prop where
 v:PV p
 nx:p.Ring.Next≤m
 en:p.Ring.End≤60 * (m:Int)
 pol:p.Ring.Policy=1
 dat:p.Ring.Data.length=200
end Go.Ab
