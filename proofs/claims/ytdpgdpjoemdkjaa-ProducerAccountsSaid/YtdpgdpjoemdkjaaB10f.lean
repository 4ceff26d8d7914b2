/- Plain laws of the functions w9 this seat's, laid anew from another seat's text. No conditions but those that the theorems name. -/
import Derived.Test.YtdpgdpjoemdkjaaP10xD
import Derived.Test.YtdpgdpjoemdkjaaB10a
import Derived.Test.YtdpgdpjoemdkjaaB10b
import Derived.Test.YtdpgdpjoemdkjaaB10c
import Derived.Test.YtdpgdpjoemdkjaaB10d
import Derived.Test.YtdpgdpjoemdkjaaB10e
namespace Go.Ab
open Go
set_option linter.unusedVariables false
def t4 (c:Bool) (d:Int) (b:List Int) (u f:Int):Int×Int×Int:=if c then q7 b u f else (d,u,f)
def ev0:zE:=⟨0,0,[],0,0,[]⟩
def y9 (b:List Int):Int×Int×Int:=q7 b 0 0
def qO (b:List Int):Int×Int×Int:=q7 b (y9 b).2.1 (y9 b).2.2
def zCn (b:List Int):Int:=if (qO b).2.2=0∧((y9 b).1<1∨(y9 b).1>12) then 10 else (qO b).2.2
def wP (b:List Int):Int×Int×Int:=t4 (yK (y9 b).1) 0 b (qO b).2.1 (zCn b)
def kM (b:List Int):Int×Int×Int:=t4 (uD (y9 b).1) 0 b (wP b).2.1 (wP b).2.2
def kL (b:List Int):Int×Int×Int:=t4 (uI (y9 b).1) 0 b (kM b).2.1 (kM b).2.2
def wY (b:List Int):Int×Int×Int:=t4 (yU (y9 b).1) (-1) b (kL b).2.1 (kL b).2.2
def zBD (names:List (List Int)) (stacks:List zI) (b:List Int):zE :=
 ⟨(qO b).1,(y9 b).1,if yK (y9 b).1 then (names[(wP b).1.toNat]?).getD [] else [],(kM b).1,(kL b).1,(pW names stacks (wY b).1).1⟩
def t7 (names:List (List Int)) (stacks:List zI) (b:List Int):zE×Int×Int :=
 if tI names stacks≠0 then (ev0,0,1) else
 if (wY b).2.2≠0 then (ev0,0,(wY b).2.2) else
 if yK (y9 b).1=true∧((wP b).1<0∨(wP b).1≥names.length) then (ev0,0,2) else
 if (wY b).1 < -1∨(wY b).1≥stacks.length then (ev0,0,2) else
 if evS (zBD names stacks b)≠0 then (ev0,0,10) else (zBD names stacks b,(wY b).2.1,0)
theorem zAE {c:Bool} {d:Int} {b:List Int} {u f:Int} (hb:∀ x∈b,yW x) (h0:0≤u) (h1:u≤b.length):u≤(t4 c d b u f).2.1∧(t4 c d b u f).2.1≤b.length:=by
 unfold t4
 split
 ·exact ⟨(p9 hb h0 h1).2.1,(p9 hb h0 h1).2.2.1⟩
 ·exact ⟨Int.le_refl _,h1⟩
theorem zCl {b:List Int} {u f:Int} (h:f≠0):q7 b u f=(0,u,f):=if_pos h
theorem zJD {c:Bool} {d:Int} {b:List Int} {u f:Int} (h:f≠0):(t4 c d b u f).2.2=f:=by
 unfold t4;split
 ·rw [zCl h]
 ·rfl
theorem zBs {c:Bool} {d:Int} {b:List Int} {u f:Int} (h:(t4 c d b u f).2.2=0):f=0:=by
 by_cases hf:f=0
 ·exact hf
 ·rw [zJD hf] at h;exact h
theorem zJg {b:List Int} (hb:∀ x∈b,yW x) :
  (0≤(y9 b).2.1∧(y9 b).2.1≤b.length)∧(0≤(qO b).2.1∧(qO b).2.1≤b.length)∧(0≤(wP b).2.1∧(wP b).2.1≤b.length)∧(0≤(kM b).2.1∧(kM b).2.1≤b.length)∧(0≤(kL b).2.1∧(kL b).2.1≤b.length)∧(0≤(wY b).2.1∧(wY b).2.1≤b.length):=by
 have k:=p9 (u:=0) (f:=0) hb (by omega) (by omega)
 have a:=p9 (u:=(y9 b).2.1) (f:=(y9 b).2.2) hb (by unfold y9;omega) (by unfold y9;omega)
 have n1:_:=zAE (c:=yK (y9 b).1) (d:=0) (u:=(qO b).2.1) (f:=zCn b) hb (by unfold qO;have:=k.2;unfold y9 at *;omega) (by unfold qO;omega)
 have ha:0≤(qO b).2.1:=by unfold qO;have:=k.2.1;unfold y9 at *;omega
 have n2:=zAE (c:=uD (y9 b).1) (d:=0) (u:=(wP b).2.1) (f:=(wP b).2.2) hb (by unfold wP;omega) (by unfold wP;omega)
 have h2:0≤(wP b).2.1:=by unfold wP;omega
 have n3:=zAE (c:=uI (y9 b).1) (d:=0) (u:=(kM b).2.1) (f:=(kM b).2.2) hb (by unfold kM;omega) (by unfold kM;omega)
 have h3:0≤(kM b).2.1:=by unfold kM;omega
 have n4:=zAE (c:=yU (y9 b).1) (d := -1) (u:=(kL b).2.1) (f:=(kL b).2.2) hb (by unfold kL;omega) (by unfold kL;omega)
 have h4:0≤(kL b).2.1:=by unfold kL;omega
 exact ⟨⟨k.2.1,k.2.2.1⟩,⟨ha,a.2.2.1⟩,⟨h2,n1.2⟩,⟨h3,n2.2⟩,⟨h4,n3.2⟩,⟨by unfold wY;omega,n4.2⟩⟩
theorem zDG {names:List (List Int)} {stacks:List zI} {b:List Int} (hb:∀ x∈b,yW x) (hl:b.length≤100000):jQ 200000 names stacks b=some (t7 names stacks b):=by
 unfold jQ t7
 rw [j5,Option.bind_some]
 by_cases hc:tI names stacks≠0
 ·rw [wA hc,if_pos hc];rfl
 rw [xS (by omega),cond_false,if_neg hc]
 obtain ⟨⟨k0,k1⟩,⟨a0,a1⟩,⟨m0,m1⟩,⟨n0,n1⟩,⟨p0,p1⟩,_⟩:=zJg hb
 rw [t8 hb hl (by omega) (by omega),Option.bind_some]
 show (y6 200000 ⟨b,(y9 b).2.1,(y9 b).2.2⟩).bind _=_
 rw [t8 hb hl k0 k1,Option.bind_some]
 have hf:(((bif (((qO b).2.2==(0:Int))&&(decide ((y9 b).1<(1:Int))||decide ((y9 b).1>(12:Int)))) then some (10:Int) else some (qO b).2.2):Option Int))=some (zCn b):=by
  unfold zCn
  by_cases h1:(qO b).2.2=0
  ·by_cases h2:(y9 b).1<1∨(y9 b).1>12
   ·rw [if_pos ⟨h1,h2⟩,zHt h2,h1];rfl
   ·rw [if_neg (fun h=>h2 h.2),zJF h2,h1];rfl
  ·rw [if_neg (fun h=>h1 h.1),show ((qO b).2.2==(0:Int))=false by simpa using h1];rfl
 refine (congrArg (fun o=>Option.bind o _) hf).trans ?_
 rw [Option.bind_some]
 show (some (yK (y9 b).1,uD (y9 b).1,uI (y9 b).1,yU (y9 b).1)).bind _=_
 rw [Option.bind_some]
 have hA:∀ (c:Bool) (d u f:Int),0≤u→u≤b.length→(bif c then (y6 200000 (⟨b,u,f⟩:yB)).bind (fun r_5=>some (r_5.1,r_5.2.b,r_5.2.used,r_5.2.fault)) else some (d,b,u,f))=some ((t4 c d b u f).1,b,(t4 c d b u f).2.1,(t4 c d b u f).2.2):=by
  intro c d u f h0 h1
  cases c
  ·rfl
  ·rw [cond_true,t8 hb hl h0 h1,Option.bind_some];rfl
 have hB:∀ (c:Bool) (d u f:Int),0≤u→u≤b.length→(bif c then (y6 200000 (⟨b,u,f⟩:yB)).bind (fun r_5=>some (r_5.2.b,r_5.2.used,r_5.2.fault,r_5.1)) else some (b,u,f,d))=some (b,(t4 c d b u f).2.1,(t4 c d b u f).2.2,(t4 c d b u f).1):=by
  intro c d u f h0 h1
  cases c
  ·rfl
  ·rw [cond_true,t8 hb hl h0 h1,Option.bind_some];rfl
 refine (congrArg (fun o=>Option.bind o _) (hA (yK (y9 b).1) 0 (qO b).2.1 (zCn b) a0 a1)).trans ?_
 rw [Option.bind_some]
 refine (congrArg (fun o=>Option.bind o _) (hB (uD (y9 b).1) 0 (wP b).2.1 (wP b).2.2 m0 m1)).trans ?_
 rw [Option.bind_some]
 refine (congrArg (fun o=>Option.bind o _) (hB (uI (y9 b).1) 0 (kM b).2.1 (kM b).2.2 n0 n1)).trans ?_
 rw [Option.bind_some]
 refine (congrArg (fun o=>Option.bind o _) (hA (yU (y9 b).1) (-1) (kL b).2.1 (kL b).2.2 p0 p1)).trans ?_
 rw [Option.bind_some]
 show (Option.bind (bif ((wY b).2.2 != 0) then _ else (bif (yK (y9 b).1&&(decide ((wP b).1<0)||decide ((wP b).1≥names.length))) then _ else (bif (decide ((wY b).1 < -1)||decide ((wY b).1≥stacks.length)) then _ else _))) _)=_
 by_cases h1:(wY b).2.2≠0
 ·rw [wA h1,if_pos h1];rfl
 rw [xS (by omega),cond_false,if_neg h1]
 by_cases h2:yK (y9 b).1=true∧((wP b).1<0∨(wP b).1≥names.length)
 ·rw [if_pos h2,h2.1,zHt h2.2];rfl
 rw [if_neg h2,show (yK (y9 b).1&&(decide ((wP b).1<0)||decide ((wP b).1≥names.length)))=false by
  cases hu:yK (y9 b).1
  ·rfl
  ·rw [Bool.true_and];exact zJF (fun h=>h2 ⟨hu,h⟩)]
 rw [cond_false]
 by_cases h3:(wY b).1 < -1∨(wY b).1≥stacks.length
 ·rw [if_pos h3,zHt h3];rfl
 rw [if_neg h3,zJF h3,cond_false,Option.bind_some]
 have hn:(((bif yK (y9 b).1 then (yY names (wP b).1).bind fun x_1=>some x_1 else some ([]:List Int)):Option (List Int)))=some (if yK (y9 b).1 then (names[(wP b).1.toNat]?).getD [] else []):=by
  cases hu:yK (y9 b).1
  ·rfl
  ·rw [hu] at h2
   simp only [true_and] at h2
   rw [cond_true,zLM (by omega),List.getElem?_eq_getElem (by omega)];rfl
 refine (congrArg (fun o=>Option.bind o _) hn).trans ?_
 rw [Option.bind_some]
 show ((q9 200000 names stacks (wY b).1).bind _)=_
 rw [zEP,Option.bind_some]
 show ((tS 200000 (zBD names stacks b)).bind _)=_
 rw [nI,Option.bind_some]
 by_cases h4:evS (zBD names stacks b)≠0
 ·rw [wA h4,if_pos h4];rfl
 ·rw [xS (by omega),if_neg h4];rfl
def zMH (b:List Int):List Int:=[(y9 b).1,(qO b).1]++(if yK (y9 b).1 then [(wP b).1] else [])++(if uD (y9 b).1 then [(kM b).1] else [])++(if uI (y9 b).1 then [(kL b).1] else [])++(if yU (y9 b).1 then [(wY b).1] else [])
end Go.Ab
