/- Plain laws of the functions uI this seat's, laid anew from another seat's text. No conditions but those that the theorems name. -/
import Derived.Test.YtdpgdpjoemdkjaaP10xD
import Derived.Test.YtdpgdpjoemdkjaaB10a
import Derived.Test.YtdpgdpjoemdkjaaB10b
import Derived.Test.YtdpgdpjoemdkjaaB10c
import Derived.Test.YtdpgdpjoemdkjaaB10d
import Derived.Test.YtdpgdpjoemdkjaaB10e
namespace Go.Ab
open Go
set_option linter.unusedVariables false
def j5 (c:Bool) (d:Int) (b:List Int) (u f:Int):Int×Int×Int:=if c then pB b u f else (d,u,f)
def ev0:zE:=⟨0,0,[],0,0,[]⟩
def wD (b:List Int):Int×Int×Int:=pB b 0 0
def kT (b:List Int):Int×Int×Int:=pB b (wD b).2.1 (wD b).2.2
def zDM (b:List Int):Int:=if (kT b).2.2=0∧((wD b).1<1∨(wD b).1>12) then 10 else (kT b).2.2
def vY (b:List Int):Int×Int×Int:=j5 (y9 (wD b).1) 0 b (kT b).2.1 (zDM b)
def zAc (b:List Int):Int×Int×Int:=j5 (tY (wD b).1) 0 b (vY b).2.1 (vY b).2.2
def n9 (b:List Int):Int×Int×Int:=j5 (qO (wD b).1) 0 b (zAc b).2.1 (zAc b).2.2
def v7 (b:List Int):Int×Int×Int:=j5 (xM (wD b).1) (-1) b (n9 b).2.1 (n9 b).2.2
def zDa (names:List (List Int)) (stacks:List zJ) (b:List Int):zE :=
 ⟨(kT b).1,(wD b).1,if y9 (wD b).1 then (names[(vY b).1.toNat]?).getD [] else [],(zAc b).1,(n9 b).1,(zA8 names stacks (v7 b).1).1⟩
def j0 (names:List (List Int)) (stacks:List zJ) (b:List Int):zE×Int×Int :=
 if jN names stacks≠0 then (ev0,0,1) else
 if (v7 b).2.2≠0 then (ev0,0,(v7 b).2.2) else
 if y9 (wD b).1=true∧((vY b).1<0∨(vY b).1≥names.length) then (ev0,0,2) else
 if (v7 b).1 < -1∨(v7 b).1≥stacks.length then (ev0,0,2) else
 if evS (zDa names stacks b)≠0 then (ev0,0,10) else (zDa names stacks b,(v7 b).2.1,0)
theorem zCf {c:Bool} {d:Int} {b:List Int} {u f:Int} (hb:∀ x∈b,xJ x) (h0:0≤u) (h1:u≤b.length):u≤(j5 c d b u f).2.1∧(j5 c d b u f).2.1≤b.length:=by
 unfold j5
 split
 ·exact ⟨(zA1 hb h0 h1).2.1,(zA1 hb h0 h1).2.2.1⟩
 ·exact ⟨Int.le_refl _,h1⟩
theorem zDQ {b:List Int} {u f:Int} (h:f≠0):pB b u f=(0,u,f):=if_pos h
theorem zK3 {c:Bool} {d:Int} {b:List Int} {u f:Int} (h:f≠0):(j5 c d b u f).2.2=f:=by
 unfold j5;split
 ·rw [zDQ h]
 ·rfl
theorem zCW {c:Bool} {d:Int} {b:List Int} {u f:Int} (h:(j5 c d b u f).2.2=0):f=0:=by
 by_cases hf:f=0
 ·exact hf
 ·rw [zK3 hf] at h;exact h
theorem zKS {b:List Int} (hb:∀ x∈b,xJ x) :
  (0≤(wD b).2.1∧(wD b).2.1≤b.length)∧(0≤(kT b).2.1∧(kT b).2.1≤b.length)∧(0≤(vY b).2.1∧(vY b).2.1≤b.length)∧(0≤(zAc b).2.1∧(zAc b).2.1≤b.length)∧(0≤(n9 b).2.1∧(n9 b).2.1≤b.length)∧(0≤(v7 b).2.1∧(v7 b).2.1≤b.length):=by
 have k:=zA1 (u:=0) (f:=0) hb (by omega) (by omega)
 have a:=zA1 (u:=(wD b).2.1) (f:=(wD b).2.2) hb (by unfold wD;omega) (by unfold wD;omega)
 have n1:_:=zCf (c:=y9 (wD b).1) (d:=0) (u:=(kT b).2.1) (f:=zDM b) hb (by unfold kT;have:=k.2;unfold wD at *;omega) (by unfold kT;omega)
 have ha:0≤(kT b).2.1:=by unfold kT;have:=k.2.1;unfold wD at *;omega
 have n2:=zCf (c:=tY (wD b).1) (d:=0) (u:=(vY b).2.1) (f:=(vY b).2.2) hb (by unfold vY;omega) (by unfold vY;omega)
 have h2:0≤(vY b).2.1:=by unfold vY;omega
 have n3:=zCf (c:=qO (wD b).1) (d:=0) (u:=(zAc b).2.1) (f:=(zAc b).2.2) hb (by unfold zAc;omega) (by unfold zAc;omega)
 have h3:0≤(zAc b).2.1:=by unfold zAc;omega
 have n4:=zCf (c:=xM (wD b).1) (d := -1) (u:=(n9 b).2.1) (f:=(n9 b).2.2) hb (by unfold n9;omega) (by unfold n9;omega)
 have h4:0≤(n9 b).2.1:=by unfold n9;omega
 exact ⟨⟨k.2.1,k.2.2.1⟩,⟨ha,a.2.2.1⟩,⟨h2,n1.2⟩,⟨h3,n2.2⟩,⟨h4,n3.2⟩,⟨by unfold v7;omega,n4.2⟩⟩
theorem zFd {names:List (List Int)} {stacks:List zJ} {b:List Int} (hb:∀ x∈b,xJ x) (hl:b.length≤100000):nK 200000 names stacks b=some (j0 names stacks b):=by
 unfold nK j0
 rw [nV,Option.bind_some]
 by_cases hc:jN names stacks≠0
 ·rw [w4 hc,if_pos hc];rfl
 rw [xS (by omega),cond_false,if_neg hc]
 obtain ⟨⟨k0,k1⟩,⟨a0,a1⟩,⟨m0,m1⟩,⟨n0,n1⟩,⟨p0,p1⟩,_⟩:=zKS hb
 rw [j9 hb hl (by omega) (by omega),Option.bind_some]
 show (wA 200000 ⟨b,(wD b).2.1,(wD b).2.2⟩).bind _=_
 rw [j9 hb hl k0 k1,Option.bind_some]
 have hf:(((bif (((kT b).2.2==(0:Int))&&(decide ((wD b).1<(1:Int))||decide ((wD b).1>(12:Int)))) then some (10:Int) else some (kT b).2.2):Option Int))=some (zDM b):=by
  unfold zDM
  by_cases h1:(kT b).2.2=0
  ·by_cases h2:(wD b).1<1∨(wD b).1>12
   ·rw [if_pos ⟨h1,h2⟩,zJy h2,h1];rfl
   ·rw [if_neg (fun h=>h2 h.2),zKz h2,h1];rfl
  ·rw [if_neg (fun h=>h1 h.1),show ((kT b).2.2==(0:Int))=false by simpa using h1];rfl
 refine (congrArg (fun o=>Option.bind o _) hf).trans ?_
 rw [Option.bind_some]
 show (some (y9 (wD b).1,tY (wD b).1,qO (wD b).1,xM (wD b).1)).bind _=_
 rw [Option.bind_some]
 have hA:∀ (c:Bool) (d u f:Int),0≤u→u≤b.length→(bif c then (wA 200000 (⟨b,u,f⟩:yY)).bind (fun r_5=>some (r_5.1,r_5.2.b,r_5.2.used,r_5.2.fault)) else some (d,b,u,f))=some ((j5 c d b u f).1,b,(j5 c d b u f).2.1,(j5 c d b u f).2.2):=by
  intro c d u f h0 h1
  cases c
  ·rfl
  ·rw [cond_true,j9 hb hl h0 h1,Option.bind_some];rfl
 have hB:∀ (c:Bool) (d u f:Int),0≤u→u≤b.length→(bif c then (wA 200000 (⟨b,u,f⟩:yY)).bind (fun r_5=>some (r_5.2.b,r_5.2.used,r_5.2.fault,r_5.1)) else some (b,u,f,d))=some (b,(j5 c d b u f).2.1,(j5 c d b u f).2.2,(j5 c d b u f).1):=by
  intro c d u f h0 h1
  cases c
  ·rfl
  ·rw [cond_true,j9 hb hl h0 h1,Option.bind_some];rfl
 refine (congrArg (fun o=>Option.bind o _) (hA (y9 (wD b).1) 0 (kT b).2.1 (zDM b) a0 a1)).trans ?_
 rw [Option.bind_some]
 refine (congrArg (fun o=>Option.bind o _) (hB (tY (wD b).1) 0 (vY b).2.1 (vY b).2.2 m0 m1)).trans ?_
 rw [Option.bind_some]
 refine (congrArg (fun o=>Option.bind o _) (hB (qO (wD b).1) 0 (zAc b).2.1 (zAc b).2.2 n0 n1)).trans ?_
 rw [Option.bind_some]
 refine (congrArg (fun o=>Option.bind o _) (hA (xM (wD b).1) (-1) (n9 b).2.1 (n9 b).2.2 p0 p1)).trans ?_
 rw [Option.bind_some]
 show (Option.bind (bif ((v7 b).2.2 != 0) then _ else (bif (y9 (wD b).1&&(decide ((vY b).1<0)||decide ((vY b).1≥names.length))) then _ else (bif (decide ((v7 b).1 < -1)||decide ((v7 b).1≥stacks.length)) then _ else _))) _)=_
 by_cases h1:(v7 b).2.2≠0
 ·rw [w4 h1,if_pos h1];rfl
 rw [xS (by omega),cond_false,if_neg h1]
 by_cases h2:y9 (wD b).1=true∧((vY b).1<0∨(vY b).1≥names.length)
 ·rw [if_pos h2,h2.1,zJy h2.2];rfl
 rw [if_neg h2,show (y9 (wD b).1&&(decide ((vY b).1<0)||decide ((vY b).1≥names.length)))=false by
  cases hu:y9 (wD b).1
  ·rfl
  ·rw [Bool.true_and];exact zKz (fun h=>h2 ⟨hu,h⟩)]
 rw [cond_false]
 by_cases h3:(v7 b).1 < -1∨(v7 b).1≥stacks.length
 ·rw [if_pos h3,zJy h3];rfl
 rw [if_neg h3,zKz h3,cond_false,Option.bind_some]
 have hn:(((bif y9 (wD b).1 then (xQ names (vY b).1).bind fun x_1=>some x_1 else some ([]:List Int)):Option (List Int)))=some (if y9 (wD b).1 then (names[(vY b).1.toNat]?).getD [] else []):=by
  cases hu:y9 (wD b).1
  ·rfl
  ·rw [hu] at h2
   simp only [true_and] at h2
   rw [cond_true,zND (by omega),List.getElem?_eq_getElem (by omega)];rfl
 refine (congrArg (fun o=>Option.bind o _) hn).trans ?_
 rw [Option.bind_some]
 show ((pJ 200000 names stacks (v7 b).1).bind _)=_
 rw [zGs,Option.bind_some]
 show ((jU 200000 (zDa names stacks b)).bind _)=_
 rw [zBw,Option.bind_some]
 by_cases h4:evS (zDa names stacks b)≠0
 ·rw [w4 h4,if_pos h4];rfl
 ·rw [xS (by omega),if_neg h4];rfl
def zOg (b:List Int):List Int:=[(wD b).1,(kT b).1]++(if y9 (wD b).1 then [(vY b).1] else [])++(if tY (wD b).1 then [(zAc b).1] else [])++(if qO (wD b).1 then [(n9 b).1] else [])++(if xM (wD b).1 then [(v7 b).1] else [])
end Go.Ab
