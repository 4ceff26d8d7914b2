/- Producers: the five laws. -/
import Derived.Test.YtdpgdpjoemdkjaaC10b
import Derived.Test.YtdpgdpjoemdkjaaR10
namespace Go.Ab
open Go
set_option linter.unusedVariables false
theorem zPx {r:zW} (h:zCn r) (hl:r.Data.length≤4000000000000000000):wO r:=by
 unfold zCn at h
 exact ⟨h.2.1.1,h.2.2.1,h.2.2.2.1,h.2.2.2.2.1,h.2.2.2.2.2,hl⟩
theorem zOP (e:zL):∃ b,zD1 200000 e=some b:=by
 unfold zD1
 by_cases h:(decide (((e.Name.length:Nat):Int)>200)||decide (((e.Stack.length:Nat):Int)>60))=true
 ·rw [h];exact ⟨_,rfl⟩
 rw [show (decide (((e.Name.length:Nat):Int)>200)||decide (((e.Stack.length:Nat):Int)>60))=false by simpa using h,cond_false]
 have hs:e.Stack.length≤60:=by simp at h;omega
 rw [zAu (l:=e.Stack) (pT 200000 e) (fun _ x=>if (x.length:Int)>200 then some false else none) (fun n i hi=>by
  show tZ _ _ _ _=_
  unfold tZ
  rw [yF (by omega),cond_false]) (fun n i x r hd hlt=>by
  have hb:pT 200000 e (n+1) (i:Nat)=bif decide ((x.length:Int)>200) then some (.inr false) else pT 200000 e n ((i+1:Nat):Int):=by
   show tZ _ _ _ _=_
   unfold tZ
   rw [yR (by omega),cond_true,xZ hd,zbs,vK (by omega)]
  rw [hb]
  by_cases h:(x.length:Int)>200
  ·rw [if_pos h,yR h];exact ⟨fun b h=>(by injection h with h;rw [← h];rfl),fun h=>(by cases h)⟩
  ·rw [if_neg h,yF h];exact ⟨fun b h=>(by cases h),fun _=>rfl⟩) (by omega),zbs]
 generalize pO (fun _ x=>if ((x:List Int).length:Int)>200 then some false else none) 0 e.Stack=o
 cases o with
 | inl u=>exact ⟨_,rfl⟩
 | inr b=>exact ⟨_,rfl⟩
theorem zN6 {p:zK} (hl:p.Names.length≤60):vP 200000 p 200000 0=some (.inl ())∨vP 200000 p 200000 0=some (.inr true):=by
 have key:∀ (n i:Nat),(p.Names.drop i).length<n→vP 200000 p n (i:Nat)=some (.inl ())∨vP 200000 p n (i:Nat)=some (.inr true):=by
  intro n
  induction n with
  | zero=>intro i h;omega
  | succ n ih =>
   intro i hn
   show vT _ _ _ _=_∨vT _ _ _ _=_
   unfold vT
   rcases hd:p.Names.drop i with _ | ⟨x,r⟩
   ·have:=qK hd
    rw [yF (by omega),cond_false];exact .inl rfl
   have hlt:=jJ hd
   rw [hd] at hn
   simp only [List.length_cons] at hn
   rw [yR (by omega),cond_true,xZ hd,zbs]
   by_cases h:(x.length:Int)>200
   ·rw [yR h];exact .inr rfl
   ·rw [yF h,cond_false,vK (by omega)];exact ih (i+1) (by rw [w8 hd];omega)
 exact key 200000 0 (by simp;omega)
theorem L10_ProducerChecks_plain:∀ (a0:zK) (a1:zL),nR a0→zAk a1→∃ F,tF F a0 a1=some true:=by
 intro p e hp he
 refine ⟨200000,?_⟩
 unfold tF
 rw [zRi,zbs,Bool.not_true,cond_false]
 obtain ⟨b,hb⟩:=zOP e
 rw [hb,zbs]
 cases b
 ·rw [Bool.not_false,cond_true,zbs,cond_true,zbs]
 rw [Bool.not_true,cond_false]
 by_cases h1:(p.Names.length:Int)>60
 ·rw [yR h1,cond_true,zbs,cond_true,zbs]
 rw [yF h1,cond_false]
 by_cases h2:(p.Stacks.length:Int)>60
 ·rw [yR h2,cond_true,zbs,cond_true,zbs]
 rw [yF h2,cond_false]
 by_cases h3:(p.Ring.Data.length:Int)>400
 ·rw [yR h3,cond_true,zbs,cond_true,zbs]
 rw [yF h3,cond_false,zbs]
 by_cases h4:(p.Thread.Name.length:Int)>200
 ·rw [yR h4,cond_true,zbs]
 rw [yF h4,cond_false]
 have hR:=zPx hp.2.2.2.1 (by omega)
 have hP:PB p:=⟨hR,by omega,by omega⟩
 rcases zN6 (p:=p) (by omega) with h | h
 ·rw [h,zbs]
  simp only
  have hpk:=zRL hR
  rw [zBJ hR,zbs,zHh hR (by omega),zbs,zMR hR (by omega),zbs,zHl hR,zbs,zLo hR,zbs,zCQ hR,zbs,xE rfl,cond_false,zIg hR,zbs,zNo hR,zbs,xE rfl,cond_false,zGc hpk.1 hpk.2,zbs,Bool.not_true,cond_false,xE rfl,cond_false,zGq (zRF hR),zbs,zbs,Bool.not_true,cond_false,zGq (zPJ hP)]
  cases ((vO p).2 != 0)<;>rfl
 ·rw [h,zbs]
structure PV (p:zK):Prop where
 b:PB p
 dat:p.Ring.Data.length≤1000
 chk:(vO p).2=0
theorem PV.write {p:zK} {e:zL} (h:PV p) (hz:(zBE p e).2=0):PV (zBE p e).1:=by
 obtain ⟨_,h2,k,w⟩:=zOC h.b.ring hz
 exact ⟨h2,by rw [w.dat];exact h.dat,by rw [w.chk]⟩
theorem PV.drain {p:zK} (h:PV p):PV (zDy p).2:=by
 have d:=zNO h.chk
 exact ⟨zPJ h.b,by rw [d.dat];exact h.dat,by rw [d.chk]⟩
structure Acc (stall:Bool) (p:zK) (W:List zL):Prop where
 v:PV p
 nx:p.Ring.Next=(W.length:Int)
 ev:(vO p).1=W.drop p.Ring.First.toNat
 em:(vO p).1=[]→p.Sent=p.Ring.Next
 pol:stall=true→p.Ring.Policy=2∧p.Ring.First=p.Sent
theorem Acc.range {stall:Bool} {p:zK} {W:List zL} (h:Acc stall p W):0≤p.Sent∧p.Sent≤p.Ring.First∧p.Ring.First≤(W.length:Int):=by
 have:=zDX h.v.chk
 have:=h.nx
 omega
theorem Acc.write {stall:Bool} {p:zK} {W:List zL} {e:zL} (h:Acc stall p W) (hz:(zBE p e).2=0):Acc stall (zBE p e).1 (W++[e]):=by
 obtain ⟨_,h2,k,w⟩:=zOC h.v.b.ring hz
 have hr:=h.range
 have hk:=w.kle
 rw [h.ev,List.length_drop] at hk
 refine ⟨h.v.write hz,?_,?_,?_,?_⟩
 ·rw [w.next,h.nx];simp
 ·rw [w.chk,w.first,h.ev,List.drop_drop,show (p.Ring.First+(k:Int)).toNat=p.Ring.First.toNat+k by omega,List.drop_append_of_le_length (by omega)]
 ·rw [w.chk];intro he;simp at he
 ·intro hs
  have:=h.pol hs
  rw [w.pol,w.first,w.sent,w.stall this.1]
  exact ⟨this.1,by simp;exact this.2⟩
theorem Acc.drain {stall:Bool} {p:zK} {W:List zL} (h:Acc stall p W):Acc stall (zDy p).2 W:=by
 have d:=zNO h.v.chk
 have hr:=h.range
 refine ⟨h.v.drain,by rw [d.next,h.nx],?_,?_,?_⟩
 ·rw [d.chk,d.first,h.nx];simp
 ·intro _;rw [d.sent,d.next]
 ·intro hs;rw [d.pol,d.first,d.sent];exact ⟨(h.pol hs).1,rfl⟩
structure Tw (p:zK) (m:Nat):Prop where
 v:PV p
 nx:p.Ring.Next≤m
 en:p.Ring.End≤60 * (m:Int)
 pol:p.Ring.Policy=1
 dat:p.Ring.Data.length=200
end Go.Ab
