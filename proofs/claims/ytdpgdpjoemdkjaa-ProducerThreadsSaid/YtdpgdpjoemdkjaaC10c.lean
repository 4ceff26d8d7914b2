/- Producers: the five laws. -/
import Derived.Test.YtdpgdpjoemdkjaaC10b
import Derived.Test.YtdpgdpjoemdkjaaR10
namespace Go.Ab
open Go
set_option linter.unusedVariables false
theorem L10_ProducerThreads_plain:∀ (a0:zC) (a1:Int) (a2:Int),t6 a0→yC a1→yC a2→∃ F,wD F a0 a1 a2=some true:=by
 intro t size pol ht h1 h2
 refine ⟨200000,?_⟩
 unfold wD
 rw [zLZ,Option.bind_some,Bool.not_true,cond_false,Option.bind_some]
 by_cases hn:(t.Name.length:Int)>200
 ·rw [yR hn,cond_true,Option.bind_some]
 have hP:=zMu (t:=t) (size:=size) (pol:=pol)
 rw [yH hn,cond_false,zEz,Option.bind_some,zI9,Option.bind_some,j1,Option.bind_some,zCo,Option.bind_some,xA rfl,cond_false,xA rfl,cond_false,zGc hP,Option.bind_some,Option.bind_some,Bool.not_true,cond_false]
 by_cases hz:(nQ t size pol).2=0
 ·rw [xA hz,cond_false,zAy hP.ring,Option.bind_some,zDR hP.ring]
  have:wY t=0∧¬ (size<16∨size>65536)∧¬ (pol≠1∧pol≠2):=by
   unfold nQ at hz
   by_cases a:wY t≠0
   ·rw [if_pos a] at hz;exact absurd hz a
   rw [if_neg a] at hz
   by_cases b:size<16∨size>65536
   ·rw [if_pos b] at hz;cases hz
   rw [if_neg b] at hz
   by_cases c:pol≠1∧pol≠2
   ·rw [if_pos c] at hz;cases hz
   ·exact ⟨by omega,b,c⟩
  obtain ⟨e1,e2,e3⟩:=zKd this.1 this.2.1 this.2.2
  unfold zJz
  rw [e3,e1]
  rfl
 ·rw [wW hz,cond_true,Option.bind_some]
structure PV (p:zA):Prop where
 b:PB p
 dat:p.Ring.Data.length≤1000
 chk:(vV p).2=0
theorem PV.write {p:zA} {e:zF} (h:PV p) (hz:(zCF p e).2=0):PV (zCF p e).1:=by
 obtain ⟨_,h2,k,w⟩:=zLy h.b.ring hz
 exact ⟨h2,by rw [w.dat];exact h.dat,by rw [w.chk]⟩
theorem PV.drain {p:zA} (h:PV p):PV (zFv p).2:=by
 have d:=zIF h.chk
 exact ⟨zMp h.b,by rw [d.dat];exact h.dat,by rw [d.chk]⟩
structure Acc (stall:Bool) (p:zA) (W:List zF):Prop where
 v:PV p
 nx:p.Ring.Next=(W.length:Int)
 ev:(vV p).1=W.drop p.Ring.First.toNat
 em:(vV p).1=[]→p.Sent=p.Ring.Next
 pol:stall=true→p.Ring.Policy=2∧p.Ring.First=p.Sent
theorem Acc.range {stall:Bool} {p:zA} {W:List zF} (h:Acc stall p W):0≤p.Sent∧p.Sent≤p.Ring.First∧p.Ring.First≤(W.length:Int):=by
 have:=zCR h.v.chk
 have:=h.nx
 omega
theorem Acc.write {stall:Bool} {p:zA} {W:List zF} {e:zF} (h:Acc stall p W) (hz:(zCF p e).2=0):Acc stall (zCF p e).1 (W++[e]):=by
 obtain ⟨_,h2,k,w⟩:=zLy h.v.b.ring hz
 have hr:=h.range
 have hk:=w.kle
 rw [h.ev,List.length_drop] at hk
 refine ⟨h.v.write hz,?_,?_,?_,?_⟩
 ·rw [w.next,h.nx];simp
 ·rw [w.chk,w.first,h.ev,List.drop_drop,show (p.Ring.First+(k:Int)).toNat=p.Ring.First.toNat+k by omega,List.drop_append_of_le_length (by omega)]
 ·rw [w.chk];intro he;simp at he
 ·intro hs
  have:=h.pol hs
  rw [w.pol,w.first,w.sent,w.stall this.1]
  exact ⟨this.1,by simp;exact this.2⟩
theorem Acc.drain {stall:Bool} {p:zA} {W:List zF} (h:Acc stall p W):Acc stall (zFv p).2 W:=by
 have d:=zIF h.v.chk
 have hr:=h.range
 refine ⟨h.v.drain,by rw [d.next,h.nx],?_,?_,?_⟩
 ·rw [d.chk,d.first,h.nx];simp
 ·intro _;rw [d.sent,d.next]
 ·intro hs;rw [d.pol,d.first,d.sent];exact ⟨(h.pol hs).1,rfl⟩
structure Tw (p:zA) (m:Nat):Prop where
 v:PV p
 nx:p.Ring.Next≤m
 en:p.Ring.End≤60 * (m:Int)
 pol:p.Ring.Policy=1
 dat:p.Ring.Data.length=200
end Go.Ab
