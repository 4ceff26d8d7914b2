/- Plain laws of the functions wP this seat's, laid anew from another seat's text. No conditions but those that the theorems name. -/
import Derived.Test.YtdpgdpjoemdkjaaP10xD
import Derived.Test.YtdpgdpjoemdkjaaB10a
import Derived.Test.YtdpgdpjoemdkjaaB10b
import Derived.Test.YtdpgdpjoemdkjaaB10c
import Derived.Test.YtdpgdpjoemdkjaaB10d
import Derived.Test.YtdpgdpjoemdkjaaB10e
namespace Go.Ab
open Go
set_option linter.unusedVariables false
def tE (c:Bool) (d:Int) (b:List Int) (u f:Int):Int×Int×Int:=if c then qR b u f else (d,u,f)
def ev0:zF:=⟨0,0,[],0,0,[]⟩
def y5 (b:List Int):Int×Int×Int:=qR b 0 0
def qA (b:List Int):Int×Int×Int:=qR b (y5 b).2.1 (y5 b).2.2
def zBY (b:List Int):Int:=if (qA b).2.2=0∧((y5 b).1<1∨(y5 b).1>12) then 10 else (qA b).2.2
def x4 (b:List Int):Int×Int×Int:=tE (yQ (y5 b).1) 0 b (qA b).2.1 (zBY b)
def j6 (b:List Int):Int×Int×Int:=tE (jE (y5 b).1) 0 b (x4 b).2.1 (x4 b).2.2
def j7 (b:List Int):Int×Int×Int:=tE (jW (y5 b).1) 0 b (j6 b).2.1 (j6 b).2.2
def wB (b:List Int):Int×Int×Int:=tE (y3 (y5 b).1) (-1) b (j7 b).2.1 (j7 b).2.2
def zBr (names:List (List Int)) (stacks:List zI) (b:List Int):zF :=
 ⟨(qA b).1,(y5 b).1,if yQ (y5 b).1 then (names[(x4 b).1.toNat]?).getD [] else [],(j6 b).1,(j7 b).1,(pU names stacks (wB b).1).1⟩
def tF (names:List (List Int)) (stacks:List zI) (b:List Int):zF×Int×Int :=
 if tC names stacks≠0 then (ev0,0,1) else
 if (wB b).2.2≠0 then (ev0,0,(wB b).2.2) else
 if yQ (y5 b).1=true∧((x4 b).1<0∨(x4 b).1≥names.length) then (ev0,0,2) else
 if (wB b).1 < -1∨(wB b).1≥stacks.length then (ev0,0,2) else
 if evS (zBr names stacks b)≠0 then (ev0,0,10) else (zBr names stacks b,(wB b).2.1,0)
theorem zAC {c:Bool} {d:Int} {b:List Int} {u f:Int} (hb:∀ x∈b,yP x) (h0:0≤u) (h1:u≤b.length):u≤(tE c d b u f).2.1∧(tE c d b u f).2.1≤b.length:=by
 unfold tE
 split
 ·exact ⟨(pT hb h0 h1).2.1,(pT hb h0 h1).2.2.1⟩
 ·exact ⟨Int.le_refl _,h1⟩
theorem zCl {b:List Int} {u f:Int} (h:f≠0):qR b u f=(0,u,f):=if_pos h
theorem zI4 {c:Bool} {d:Int} {b:List Int} {u f:Int} (h:f≠0):(tE c d b u f).2.2=f:=by
 unfold tE;split
 ·rw [zCl h]
 ·rfl
theorem zBk {c:Bool} {d:Int} {b:List Int} {u f:Int} (h:(tE c d b u f).2.2=0):f=0:=by
 by_cases hf:f=0
 ·exact hf
 ·rw [zI4 hf] at h;exact h
theorem zJb {b:List Int} (hb:∀ x∈b,yP x) :
  (0≤(y5 b).2.1∧(y5 b).2.1≤b.length)∧(0≤(qA b).2.1∧(qA b).2.1≤b.length)∧(0≤(x4 b).2.1∧(x4 b).2.1≤b.length)∧(0≤(j6 b).2.1∧(j6 b).2.1≤b.length)∧(0≤(j7 b).2.1∧(j7 b).2.1≤b.length)∧(0≤(wB b).2.1∧(wB b).2.1≤b.length):=by
 have k:=pT (u:=0) (f:=0) hb (by omega) (by omega)
 have a:=pT (u:=(y5 b).2.1) (f:=(y5 b).2.2) hb (by unfold y5;omega) (by unfold y5;omega)
 have n1:_:=zAC (c:=yQ (y5 b).1) (d:=0) (u:=(qA b).2.1) (f:=zBY b) hb (by unfold qA;have:=k.2;unfold y5 at *;omega) (by unfold qA;omega)
 have ha:0≤(qA b).2.1:=by unfold qA;have:=k.2.1;unfold y5 at *;omega
 have n2:=zAC (c:=jE (y5 b).1) (d:=0) (u:=(x4 b).2.1) (f:=(x4 b).2.2) hb (by unfold x4;omega) (by unfold x4;omega)
 have h2:0≤(x4 b).2.1:=by unfold x4;omega
 have n3:=zAC (c:=jW (y5 b).1) (d:=0) (u:=(j6 b).2.1) (f:=(j6 b).2.2) hb (by unfold j6;omega) (by unfold j6;omega)
 have h3:0≤(j6 b).2.1:=by unfold j6;omega
 have n4:=zAC (c:=y3 (y5 b).1) (d := -1) (u:=(j7 b).2.1) (f:=(j7 b).2.2) hb (by unfold j7;omega) (by unfold j7;omega)
 have h4:0≤(j7 b).2.1:=by unfold j7;omega
 exact ⟨⟨k.2.1,k.2.2.1⟩,⟨ha,a.2.2.1⟩,⟨h2,n1.2⟩,⟨h3,n2.2⟩,⟨h4,n3.2⟩,⟨by unfold wB;omega,n4.2⟩⟩
theorem zDu {names:List (List Int)} {stacks:List zI} {b:List Int} (hb:∀ x∈b,yP x) (hl:b.length≤100000):jH 200000 names stacks b=some (tF names stacks b):=by
 unfold jH tF
 rw [pW,Option.bind_some]
 by_cases hc:tC names stacks≠0
 ·rw [wW hc,if_pos hc];rfl
 rw [xA (by omega),cond_false,if_neg hc]
 obtain ⟨⟨k0,k1⟩,⟨a0,a1⟩,⟨m0,m1⟩,⟨n0,n1⟩,⟨p0,p1⟩,_⟩:=zJb hb
 rw [tM hb hl (by omega) (by omega),Option.bind_some]
 show (y1 200000 ⟨b,(y5 b).2.1,(y5 b).2.2⟩).bind _=_
 rw [tM hb hl k0 k1,Option.bind_some]
 have hf:(((bif (((qA b).2.2==(0:Int))&&(decide ((y5 b).1<(1:Int))||decide ((y5 b).1>(12:Int)))) then some (10:Int) else some (qA b).2.2):Option Int))=some (zBY b):=by
  unfold zBY
  by_cases h1:(qA b).2.2=0
  ·by_cases h2:(y5 b).1<1∨(y5 b).1>12
   ·rw [if_pos ⟨h1,h2⟩,zEX h2,h1];rfl
   ·rw [if_neg (fun h=>h2 h.2),zHD h2,h1];rfl
  ·rw [if_neg (fun h=>h1 h.1),show ((qA b).2.2==(0:Int))=false by simpa using h1];rfl
 refine (congrArg (fun o=>Option.bind o _) hf).trans ?_
 rw [Option.bind_some]
 show (some (yQ (y5 b).1,jE (y5 b).1,jW (y5 b).1,y3 (y5 b).1)).bind _=_
 rw [Option.bind_some]
 have hA:∀ (c:Bool) (d u f:Int),0≤u→u≤b.length→(bif c then (y1 200000 (⟨b,u,f⟩:yE)).bind (fun r_5=>some (r_5.1,r_5.2.b,r_5.2.used,r_5.2.fault)) else some (d,b,u,f))=some ((tE c d b u f).1,b,(tE c d b u f).2.1,(tE c d b u f).2.2):=by
  intro c d u f h0 h1
  cases c
  ·rfl
  ·rw [cond_true,tM hb hl h0 h1,Option.bind_some];rfl
 have hB:∀ (c:Bool) (d u f:Int),0≤u→u≤b.length→(bif c then (y1 200000 (⟨b,u,f⟩:yE)).bind (fun r_5=>some (r_5.2.b,r_5.2.used,r_5.2.fault,r_5.1)) else some (b,u,f,d))=some (b,(tE c d b u f).2.1,(tE c d b u f).2.2,(tE c d b u f).1):=by
  intro c d u f h0 h1
  cases c
  ·rfl
  ·rw [cond_true,tM hb hl h0 h1,Option.bind_some];rfl
 refine (congrArg (fun o=>Option.bind o _) (hA (yQ (y5 b).1) 0 (qA b).2.1 (zBY b) a0 a1)).trans ?_
 rw [Option.bind_some]
 refine (congrArg (fun o=>Option.bind o _) (hB (jE (y5 b).1) 0 (x4 b).2.1 (x4 b).2.2 m0 m1)).trans ?_
 rw [Option.bind_some]
 refine (congrArg (fun o=>Option.bind o _) (hB (jW (y5 b).1) 0 (j6 b).2.1 (j6 b).2.2 n0 n1)).trans ?_
 rw [Option.bind_some]
 refine (congrArg (fun o=>Option.bind o _) (hA (y3 (y5 b).1) (-1) (j7 b).2.1 (j7 b).2.2 p0 p1)).trans ?_
 rw [Option.bind_some]
 show (Option.bind (bif ((wB b).2.2 != 0) then _ else (bif (yQ (y5 b).1&&(decide ((x4 b).1<0)||decide ((x4 b).1≥names.length))) then _ else (bif (decide ((wB b).1 < -1)||decide ((wB b).1≥stacks.length)) then _ else _))) _)=_
 by_cases h1:(wB b).2.2≠0
 ·rw [wW h1,if_pos h1];rfl
 rw [xA (by omega),cond_false,if_neg h1]
 by_cases h2:yQ (y5 b).1=true∧((x4 b).1<0∨(x4 b).1≥names.length)
 ·rw [if_pos h2,h2.1,zEX h2.2];rfl
 rw [if_neg h2,show (yQ (y5 b).1&&(decide ((x4 b).1<0)||decide ((x4 b).1≥names.length)))=false by
  cases hu:yQ (y5 b).1
  ·rfl
  ·rw [Bool.true_and];exact zHD (fun h=>h2 ⟨hu,h⟩)]
 rw [cond_false]
 by_cases h3:(wB b).1 < -1∨(wB b).1≥stacks.length
 ·rw [if_pos h3,zEX h3];rfl
 rw [if_neg h3,zHD h3,cond_false,Option.bind_some]
 have hn:(((bif yQ (y5 b).1 then (yW names (x4 b).1).bind fun x_1=>some x_1 else some ([]:List Int)):Option (List Int)))=some (if yQ (y5 b).1 then (names[(x4 b).1.toNat]?).getD [] else []):=by
  cases hu:yQ (y5 b).1
  ·rfl
  ·rw [hu] at h2
   simp only [true_and] at h2
   rw [cond_true,zLV (by omega),List.getElem?_eq_getElem (by omega)];rfl
 refine (congrArg (fun o=>Option.bind o _) hn).trans ?_
 rw [Option.bind_some]
 show ((qN 200000 names stacks (wB b).1).bind _)=_
 rw [zEQ,Option.bind_some]
 show ((uX 200000 (zBr names stacks b)).bind _)=_
 rw [zFl,Option.bind_some]
 by_cases h4:evS (zBr names stacks b)≠0
 ·rw [wW h4,if_pos h4];rfl
 ·rw [xA (by omega),if_neg h4];rfl
def zMs (b:List Int):List Int:=[(y5 b).1,(qA b).1]++(if yQ (y5 b).1 then [(x4 b).1] else [])++(if jE (y5 b).1 then [(j6 b).1] else [])++(if jW (y5 b).1 then [(j7 b).1] else [])++(if y3 (y5 b).1 then [(wB b).1] else [])
end Go.Ab
