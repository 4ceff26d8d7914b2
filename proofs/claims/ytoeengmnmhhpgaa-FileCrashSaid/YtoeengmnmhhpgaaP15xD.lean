/- Printed: the typed Lean functions of the Go functions, or the proofs that the Go functions meet them. No conditions but those that the theorems name. -/
import Derived.Test.YtoeengmnmhhpgaaA32
namespace Go.Ab
open Go
set_option linter.unusedVariables false
structure xH where
  Id:Int
  Name:List Int
  Domain:Int
  deriving DecidableEq,Inhabited
def qL (s:xH):List AV:=[.int .i64 s.Id,.str s.Name,.int .i64 s.Domain]
def z9 (s:xH):AV:=.agg (qL s)
structure y0 where
  Id:Int
  Ppm:Int
  deriving DecidableEq,Inhabited
def rB (s:y0):List AV:=[.int .i64 s.Id,.int .i64 s.Ppm]
def z4 (s:y0):AV:=.agg (rB s)
structure AO where
  Lo:Int
  Hi:Int
  deriving DecidableEq,Inhabited
structure yQ where
  A:Int
  AtA:Int
  B:Int
  AtB:AO
  deriving DecidableEq,Inhabited
def pH (s:yQ):List AV:=[.int .i64 s.A,.int .i64 s.AtA,.int .i64 s.B,.int .i64 s.AtB.Lo,.int .i64 s.AtB.Hi]
def z5 (s:yQ):AV:=.agg (pH s)
structure zT where
  Threads:List (xH)
  Domains:List (y0)
  Snaps:List (yQ)
  deriving DecidableEq,Inhabited
def vQ (s:zT):List AV:=[.sl false 3 (List.map z9 s.Threads),.sl false 2 (List.map z4 s.Domains),.sl false 5 (List.map z5 s.Snaps)]
def nA (s:zT):AV:=.agg (vQ s)
structure y6 where
  At:Int
  Kind:Int
  Name:List Int
  N:Int
  M:Int
  Stack:List (List Int)
  deriving DecidableEq,Inhabited
def jI (s:y6):List AV:=[.int .i64 s.At,.int .i64 s.Kind,.str s.Name,.int .i64 s.N,.int .i64 s.M,.sl false 1 (List.map AV.str s.Stack)]
def wG (s:y6):AV:=.agg (jI s)
structure zQ where
  Thread:Int
  Serial:Int
  Lost:Int
  Events:List (y6)
  deriving DecidableEq,Inhabited
def wJ (s:zQ):List AV:=[.int .i64 s.Thread,.int .i64 s.Serial,.int .i64 s.Lost,.sl false 6 (List.map wG s.Events)]
def zZ (s:zQ):AV:=.agg (wJ s)
structure tK where
  Snaps:List (yQ)
  Packets:List (zQ)
  deriving DecidableEq,Inhabited
def LM (s:tK):List AV:=[.sl false 5 (List.map z5 s.Snaps),.sl false 4 (List.map zZ s.Packets)]
def tY (s:tK):AV:=.agg (LM s)
structure z8 where
  Size:Int
  Data:List (Int)
  Durable:Int
  Left:Int
  Down:Bool
  deriving DecidableEq,Inhabited
def xC (s:z8):List AV:=[.int .i64 s.Size,.sl false 1 (List.map (AV.int .u8) s.Data),.int .i64 s.Durable,.int .i64 s.Left,.bool s.Down]
def uX (s:z8):AV:=.agg (xC s)
def B4 (zM:z8) (zN:zT):Option Bool :=
  some (decide ((((zM.Data).length:Nat):Int)≤(4000:Int))&&(decide (zM.Size≤(20000:Int))&&(decide ((((zN.Threads).length:Nat):Int)≤(70:Int))&&(decide ((((zN.Domains).length:Nat):Int)≤(10:Int))&&decide ((((zN.Snaps).length:Nat):Int)≤(20:Int))))))
def CF (F:Nat) (zH:tK) (rec:Int→Option (Unit⊕Bool)) (xM:Int):Option (Unit⊕Bool) :=
  (bif decide (xM<(((zH.Packets).length:Nat):Int)) then (xI zH.Packets xM).bind fun yB =>
  (bif decide ((((yB.Events).length:Nat):Int)>(60:Int)) then some (.inr false) else
  rec (zI (xM+(1:Int)))) else
  some (.inl ()))
def C1 (F:Nat) (zH:tK):Nat→Int→Option (Unit⊕Bool)
  | 0,_=>none
  | n+1,xM=>CF F zH (C1 F zH n) xM
def DA (F:Nat) (zO:List (tK)) (rec:Int→Option (Unit⊕Bool)) (zG:Int):Option (Unit⊕Bool) :=
  (bif decide (zG<(((zO).length:Nat):Int)) then (xI zO zG).bind fun zH =>
  (bif (decide ((((zH.Snaps).length:Nat):Int)>(10:Int))||decide ((((zH.Packets).length:Nat):Int)>(8:Int))) then some (.inr false) else
  (C1 F zH F (0:Int)).bind fun (zV:Unit⊕Bool) =>
  (match zV with
  | (.inl yC) =>
  rec (zI (zG+(1:Int)))
  | (.inr xV) =>
  some (.inr xV))) else
  some (.inl ()))
def AR (F:Nat) (zO:List (tK)):Nat→Int→Option (Unit⊕Bool)
  | 0,_=>none
  | n+1,zG=>DA F zO (AR F zO n) zG
def B7 (F:Nat) (zO:List (tK)):Option Bool :=
  (AR F zO F (0:Int)).bind fun (zC:Unit⊕Bool) =>
  (match zC with
  | (.inl kD) =>
  some (decide ((((zO).length:Nat):Int)≤(6:Int)))
  | (.inr n7) =>
  some n7)
def DM (wD:Int):Option (z8×Int) :=
  (bif (decide (wD<(1:Int))||decide (wD>(1048576:Int))) then some ((⟨(0:Int),[],(0:Int),(0:Int),false⟩:z8),(2:Int)) else
  some ((⟨wD,[],(0:Int),(-1:Int),false⟩:z8),(0:Int)))
def HC:Option zT :=
  some (⟨([(⟨(1:Int),([116,49]:List Int),(0:Int)⟩:xH)]:List xH),([(⟨(0:Int),(0:Int)⟩:y0)]:List y0),[]⟩:zT)
def dF (zM:z8):Option Int :=
  (bif (decide (zM.Size<(1:Int))||(decide (zM.Size>(1048576:Int))||(decide ((((zM.Data).length:Nat):Int)>zM.Size)||(decide (zM.Durable<(0:Int))||(decide (zM.Durable>(((zM.Data).length:Nat):Int))||(decide (zM.Left<(-1:Int))||decide (zM.Left>(1048576:Int)))))))) then some (2:Int) else
  some (0:Int))
def GT (zF:List Int) (zB:Int):Option Int :=
  some (jL zF zB)
def a8 (zF:List Int) (zB:Int):Option Int :=
  (GT zF zB).bind fun zA =>
  some zA
def CO (zB:Int):Option Bool :=
  ((bif decide (zB≥(97:Int)) then (bif decide (zB≤(122:Int)) then (some true) else (bif decide (zB≥(65:Int)) then (bif decide (zB≤(90:Int)) then (some true) else (bif decide (zB≥(48:Int)) then (bif decide (zB≤(57:Int)) then (some true) else ((a8 ([95,46,58,47,60,62,36,42,126,45]:List Int) zB).bind fun zA=>some (decide (zA≥(0:Int))))) else ((a8 ([95,46,58,47,60,62,36,42,126,45]:List Int) zB).bind fun zA=>some (decide (zA≥(0:Int)))))) else (bif decide (zB≥(48:Int)) then (bif decide (zB≤(57:Int)) then (some true) else ((a8 ([95,46,58,47,60,62,36,42,126,45]:List Int) zB).bind fun zA=>some (decide (zA≥(0:Int))))) else ((a8 ([95,46,58,47,60,62,36,42,126,45]:List Int) zB).bind fun zA=>some (decide (zA≥(0:Int))))))) else (bif decide (zB≥(65:Int)) then (bif decide (zB≤(90:Int)) then (some true) else (bif decide (zB≥(48:Int)) then (bif decide (zB≤(57:Int)) then (some true) else ((a8 ([95,46,58,47,60,62,36,42,126,45]:List Int) zB).bind fun zA=>some (decide (zA≥(0:Int))))) else ((a8 ([95,46,58,47,60,62,36,42,126,45]:List Int) zB).bind fun zA=>some (decide (zA≥(0:Int)))))) else (bif decide (zB≥(48:Int)) then (bif decide (zB≤(57:Int)) then (some true) else ((a8 ([95,46,58,47,60,62,36,42,126,45]:List Int) zB).bind fun zA=>some (decide (zA≥(0:Int))))) else ((a8 ([95,46,58,47,60,62,36,42,126,45]:List Int) zB).bind fun zA=>some (decide (zA≥(0:Int)))))))).bind fun (zL:Bool) =>
  some zL
def DT (F:Nat) (zF:List Int) (rec:Int→Option (Unit⊕Int)) (zG:Int):Option (Unit⊕Int) :=
  (bif decide (zG<(((zF).length:Nat):Int)) then (xI zF zG).bind fun zB=>(CO zB).bind fun zA =>
  (bif !zA then some (.inr (3:Int)) else
  rec (zI (zG+(1:Int)))) else
  some (.inl ()))
def D6 (F:Nat) (zF:List Int):Nat→Int→Option (Unit⊕Int)
  | 0,_=>none
  | n+1,zG=>DT F zF (D6 F zF n) zG
def dB (F:Nat) (zF:List Int):Option Int :=
  (bif ((zF==([]:List Int))||decide ((((zF).length:Nat):Int)>(40:Int))) then some (3:Int) else
  (D6 F zF F (0:Int)).bind fun (zC:Unit⊕Int) =>
  (match zC with
  | (.inl yC) =>
  some (0:Int)
  | (.inr xV) =>
  some xV))
def AK (F:Nat) (jF:xH):Option Int :=
  (bif (decide (jF.Id<(0:Int))||(decide (jF.Id>(1000000000000000:Int))||(decide (jF.Domain<(0:Int))||decide (jF.Domain≥(8:Int))))) then some (2:Int) else
  (dB F jF.Name).bind fun zA =>
  some zA)
def GA (zH:y0) (zW:Int):Option Bool :=
  some (zH.Id==zW)
def gH (F:Nat) (zF:List (y0)) (zB:Int) (rec:Int→Option (Unit⊕Int)) (zG:Int):Option (Unit⊕Int) :=
  (bif decide (zG<(((zF).length:Nat):Int)) then (xI zF zG).bind fun zH=>(GA zH zB).bind fun zA =>
  (bif zA then some (.inr zG) else
  rec (zI (zG+(1:Int)))) else
  some (.inl ()))
def DF (F:Nat) (zF:List (y0)) (zB:Int):Nat→Int→Option (Unit⊕Int)
  | 0,_=>none
  | n+1,zG=>gH F zF zB (DF F zF zB n) zG
def BP (F:Nat) (zF:List (y0)) (zB:Int):Option Int :=
  (DF F zF zB F (0:Int)).bind fun (zC:Unit⊕Int) =>
  (match zC with
  | (.inl yC) =>
  some (-1:Int)
  | (.inr xV) =>
  some xV)
def gG (F:Nat) (zM:List (y0)) (id_1:Int):Option Int :=
  (BP F zM id_1).bind fun zA =>
  some zA
def gN (F:Nat) (zM:List (y0)) (rec:Int→Option (Unit⊕Int)) (zG:Int):Option (Unit⊕Int) :=
  (bif decide (zG<(((zM).length:Nat):Int)) then (xI zM zG).bind fun zH =>
  (bif (decide (zH.Id<(0:Int))||(decide (zH.Id≥(8:Int))||(decide (zH.Ppm<(0:Int))||decide (zH.Ppm>(10000:Int))))) then some (.inr (2:Int)) else
  (need ((0:Int)≤zG∧zG≤(((zM).length:Nat):Int))).bind fun _=>(gG F (sub zM (0:Int) zG) zH.Id).bind fun zA =>
  (bif decide (zA≥(0:Int)) then some (.inr (4:Int)) else
  rec (zI (zG+(1:Int))))) else
  some (.inl ()))
def A1 (F:Nat) (zM:List (y0)):Nat→Int→Option (Unit⊕Int)
  | 0,_=>none
  | n+1,zG=>gN F zM (A1 F zM n) zG
def B3 (F:Nat) (zM:List (y0)):Option Int :=
  (A1 F zM F (0:Int)).bind fun (zC:Unit⊕Int) =>
  (match zC with
  | (.inl yC) =>
  some (0:Int)
  | (.inr xV) =>
  some xV)
def rN (yF:Int):Option Bool :=
  some (decide (yF≥(0:Int))&&decide (yF≤(1000000000000:Int)))
def DL (F:Nat) (zM:List (y0)) (zH:yQ):Option Int :=
  (gG F zM zH.A).bind fun zA =>
  (((bif decide (zA<(0:Int)) then some (decide (zA<(0:Int))) else
  (gG F zM zH.B).bind fun zK =>
  some (decide (zK<(0:Int)))):Option Bool)).bind fun (zC:Bool) =>
  (bif zC then some (5:Int) else
  (bif (zH.A==zH.B) then some (1:Int) else
  (rN zH.AtA).bind fun zP =>
  (bif !zP then some (2:Int) else
  (rN zH.AtB.Lo).bind fun z0 =>
  (bif !z0 then some (2:Int) else
  (rN zH.AtB.Hi).bind fun zY =>
  (bif !zY then some (2:Int) else
  (bif decide (zH.AtB.Lo>zH.AtB.Hi) then some (2:Int) else
  some (0:Int)))))))
def l8 (F:Nat) (zM:List (y0)) (zO:List (yQ)) (rec:Int→Option (Unit⊕Int)) (zG:Int):Option (Unit⊕Int) :=
  (bif decide (zG<(((zO).length:Nat):Int)) then (xI zO zG).bind fun yB =>
  (DL F zM yB).bind fun zK =>
  (bif (zK != (0:Int)) then some (.inr zK) else
  rec (zI (zG+(1:Int)))) else
  some (.inl ()))
def C5 (F:Nat) (zM:List (y0)) (zO:List (yQ)):Nat→Int→Option (Unit⊕Int)
  | 0,_=>none
  | n+1,zG=>l8 F zM zO (C5 F zM zO n) zG
def gU (F:Nat) (zM:List (y0)) (zO:List (yQ)):Option Int :=
  (bif ((((zM).length:Nat):Int)==(0:Int)) then some (8:Int) else
  (bif (decide ((((zM).length:Nat):Int)>(8:Int))||decide ((((zO).length:Nat):Int)>(200:Int))) then some (7:Int) else
  (xI zM (0:Int)).bind fun zH =>
  (bif (!(decide (zH=(⟨(0:Int),(0:Int)⟩:y0)))) then some (10:Int) else
  (B3 F zM).bind fun zA =>
  (bif (zA != (0:Int)) then some zA else
  (C5 F zM zO F (0:Int)).bind fun (zC:Unit⊕Int) =>
  (match zC with
  | (.inl yC) =>
  some (0:Int)
  | (.inr xV) =>
  some xV)))))
def HY (zM:y0) (zW:xH):Option Bool :=
  some (zM.Id==zW.Domain)
def gT (F:Nat) (zF:List (y0)) (zB:xH) (rec:Int→Option (Unit⊕Int)) (zG:Int):Option (Unit⊕Int) :=
  (bif decide (zG<(((zF).length:Nat):Int)) then (xI zF zG).bind fun zH=>(HY zH zB).bind fun zA =>
  (bif zA then some (.inr zG) else
  rec (zI (zG+(1:Int)))) else
  some (.inl ()))
def DJ (F:Nat) (zF:List (y0)) (zB:xH):Nat→Int→Option (Unit⊕Int)
  | 0,_=>none
  | n+1,zG=>gT F zF zB (DJ F zF zB n) zG
def DC (F:Nat) (zF:List (y0)) (zB:xH):Option Int :=
  (DJ F zF zB F (0:Int)).bind fun (zC:Unit⊕Int) =>
  (match zC with
  | (.inl yC) =>
  some (-1:Int)
  | (.inr xV) =>
  some xV)
def EM (F:Nat) (zF:List (y0)) (zB:xH):Option Bool :=
  (DC F zF zB).bind fun zA =>
  some (decide (zA≥(0:Int)))
def BG (F:Nat) (zN:zT) (rec:Int→(List (Int×Bool))→Option (Unit⊕Int)) (zG:Int) (zJ:List (Int×Bool)):Option (Unit⊕Int) :=
  (bif decide (zG<(((zN.Threads).length:Nat):Int)) then (xI zN.Threads zG).bind fun zH =>
  (AK F zH).bind fun zA =>
  (bif (zA != (0:Int)) then some (.inr zA) else
  (bif ((vV zJ zH.Id).getD false) then some (.inr (4:Int)) else
  (need ((zJ).length<140737488355328)).bind fun _ =>
  rec (zI (zG+(1:Int))) (x6 zJ zH.Id true))) else
  some (.inl ()))
def oQ (F:Nat) (zN:zT):Nat→Int→(List (Int×Bool))→Option (Unit⊕Int)
  | 0,_,_=>none
  | n+1,zG,zJ=>BG F zN (oQ F zN n) zG zJ
def lQ (F:Nat) (zN:zT) (rec:Int→Option (Unit⊕Int)) (xM:Int):Option (Unit⊕Int) :=
  (bif decide (xM<(((zN.Threads).length:Nat):Int)) then (xI zN.Threads xM).bind fun yB =>
  (EM F zN.Domains yB).bind fun zP =>
  (bif !zP then some (.inr (5:Int)) else
  rec (zI (xM+(1:Int)))) else
  some (.inl ()))
def mI (F:Nat) (zN:zT):Nat→Int→Option (Unit⊕Int)
  | 0,_=>none
  | n+1,xM=>lQ F zN (mI F zN n) xM
def gE (F:Nat) (zN:zT):Option Int :=
  (bif ((((zN.Threads).length:Nat):Int)==(0:Int)) then some (8:Int) else
  (bif decide ((((zN.Threads).length:Nat):Int)>(64:Int)) then some (7:Int) else
  (oQ F zN F (0:Int) []).bind fun (zC:Unit⊕Int) =>
  (match zC with
  | (.inl yC) =>
  (gU F zN.Domains zN.Snaps).bind fun zK =>
  (bif (zK != (0:Int)) then some zK else
  (mI F zN F (0:Int)).bind fun (zV:Unit⊕Int) =>
  (match zV with
  | (.inl kD) =>
  some (0:Int)
  | (.inr n7) =>
  some n7))
  | (.inr xV) =>
  some xV)))
def CY (yF:Int):Option Int :=
  some (tX .u64 (pL .u64 (jH yF) (1:Int)) (jH (qD .i64 yF (63:Int))))
def lS (F:Nat) (rec:Int→Int→(List Int)→Option (Int×(List Int))) (wD:Int) (vC:Int) (zJ:List Int):Option (Int×(List Int)) :=
  (need ((0:Int)≤wD∧wD<((10:Nat):Int))).bind fun _=>((zJ)[(wD).toNat]?).bind fun zH =>
  (bif decide (vC<(128:Int)) then some (zI (wD+(1:Int)),(zJ).set ((wD).toNat) (kN (uF .u64 vC (127:Int)))) else
  (need ((0:Int)≤(zI ((zI (wD+(1:Int))) - (1:Int)))∧(zI ((zI (wD+(1:Int))) - (1:Int)))<((10:Nat):Int))).bind fun _=>(((zJ).set ((wD).toNat) (kN (uF .u64 vC (127:Int))))[(zI ((zI (wD+(1:Int))) - (1:Int))).toNat]?).bind fun yB=>(need ((0:Int)≤(zI ((zI (wD+(1:Int))) - (1:Int)))∧(zI ((zI (wD+(1:Int))) - (1:Int)))<((10:Nat):Int))).bind fun _=>(((zJ).set ((wD).toNat) (kN (uF .u64 vC (127:Int))))[(zI ((zI (wD+(1:Int))) - (1:Int))).toNat]?).bind fun xX =>
  rec (zI (wD+(1:Int))) (qD .u64 vC (7:Int)) (((zJ).set ((wD).toNat) (kN (uF .u64 vC (127:Int)))).set ((zI ((zI (wD+(1:Int))) - (1:Int))).toNat) (ior .u8 yB (128:Int))))
def fD (F:Nat):Nat→Int→Int→(List Int)→Option (Int×(List Int))
  | 0,_,_,_=>none
  | n+1,wD,vC,zJ=>lS F (fD F n) wD vC zJ
def uY (F:Nat) (zE:List (Int)) (yF:Int):Option (List (Int)) :=
  (CY yF).bind fun zA =>
  (fD F F (0:Int) zA (List.replicate 10 (0:Int))).bind fun (zC:(Int×(List Int))) =>
  (need ((0:Int)≤zC.1∧zC.1≤((10:Nat):Int)∧10≤(zC.2).length)).bind fun _=>(need (0≤((zC.1).toNat)∧((zC.1).toNat)≤(zC.2).length)).bind fun _=>(need (((sub zE (0:Int) (((zE).length:Nat):Int)).length+(((zC.2).take ((zC.1).toNat)).drop 0).length) * 1≤140737488355328)).bind fun _=>(need (0<(((zC.2).take ((zC.1).toNat)).drop 0).length∨(sub zE (0:Int) (((zE).length:Nat):Int)).length=0)).bind fun _ =>
  some ((sub zE (0:Int) (((zE).length:Nat):Int))++(((zC.2).take ((zC.1).toNat)).drop 0))
def rA (F:Nat) (zE:List (Int)) (zF:List Int):Option (List (Int)) :=
  (uY F zE (((zF).length:Nat):Int)).bind fun zA =>
  (need ((0:Int)≤(zI ((((zA).length:Nat):Int)+(((zF).length:Nat):Int)))∧((zI ((((zA).length:Nat):Int)+(((zF).length:Nat):Int))).toNat) * 1≤281474976710656)).bind fun _ =>
  (need (0≤((zI ((((zA).length:Nat):Int)+(((zF).length:Nat):Int))).toNat)∧((zI ((((zA).length:Nat):Int)+(((zF).length:Nat):Int))).toNat)≤((List.replicate ((zI ((((zA).length:Nat):Int)+(((zF).length:Nat):Int))).toNat) (0:Int))).length)).bind fun _ =>
  (need ((((zA).length:Nat):Int)≤(((zI ((((zA).length:Nat):Int)+(((zF).length:Nat):Int))).toNat:Nat):Int))).bind fun _=>(need (((zA).length)≤((zI ((((zA).length:Nat):Int)+(((zF).length:Nat):Int))).toNat)∧((zI ((((zA).length:Nat):Int)+(((zF).length:Nat):Int))).toNat)≤((cpy (List.replicate ((zI ((((zA).length:Nat):Int)+(((zF).length:Nat):Int))).toNat) (0:Int)) 0 ((zI ((((zA).length:Nat):Int)+(((zF).length:Nat):Int))).toNat) zA)).length)).bind fun _ =>
  some (cpy (cpy (List.replicate ((zI ((((zA).length:Nat):Int)+(((zF).length:Nat):Int))).toNat) (0:Int)) 0 ((zI ((((zA).length:Nat):Int)+(((zF).length:Nat):Int))).toNat) zA) ((zA).length) ((zI ((((zA).length:Nat):Int)+(((zF).length:Nat):Int))).toNat) zF)
def mC (F:Nat) (zF:yQ) (rec:(List Int)→Int→Option (List Int)) (cG:List Int) (zG:Int):Option (List Int) :=
  (bif decide (zG<((5:Nat):Int)) then (xI ([zF.A,zF.AtA,zF.B,zF.AtB.Lo,zF.AtB.Hi]:List Int) zG).bind fun zH =>
  (uY F cG zH).bind fun zA =>
  rec zA (zI (zG+(1:Int))) else
  some cG)
def lA (F:Nat) (zF:yQ):Nat→(List Int)→Int→Option (List Int)
  | 0,_,_=>none
  | n+1,cG,zG=>mC F zF (lA F zF n) cG zG
def gW (F:Nat) (zE:List (Int)) (zF:yQ):Option (List (Int)) :=
  (lA F zF F zE (0:Int)).bind fun (zC:(List Int)) =>
  some zC
def AD (F:Nat) (zN:zT) (rec:Int→(List Int)→Option (List Int)) (zG:Int) (zJ:List Int):Option (List Int) :=
  (bif decide (zG<(((zN.Threads).length:Nat):Int)) then (xI zN.Threads zG).bind fun zH =>
  (uY F zJ zH.Id).bind fun zK=>(rA F zK zH.Name).bind fun zP=>(uY F zP zH.Domain).bind fun z0 =>
  rec (zI (zG+(1:Int))) z0 else
  some zJ)
def gF (F:Nat) (zN:zT):Nat→Int→(List Int)→Option (List Int)
  | 0,_,_=>none
  | n+1,zG,zJ=>AD F zN (gF F zN n) zG zJ
def BO (F:Nat) (zN:zT) (rec:Int→(List Int)→Option (List Int)) (xM:Int) (z7:List Int):Option (List Int) :=
  (bif decide (xM<(((zN.Domains).length:Nat):Int)) then (xI zN.Domains xM).bind fun yB =>
  (uY F z7 yB.Id).bind fun yV=>(uY F yV yB.Ppm).bind fun xK =>
  rec (zI (xM+(1:Int))) xK else
  some z7)
def AC (F:Nat) (zN:zT):Nat→Int→(List Int)→Option (List Int)
  | 0,_,_=>none
  | n+1,xM,z7=>BO F zN (AC F zN n) xM z7
def B6 (F:Nat) (zN:zT) (rec:(List Int)→Int→Option (List Int)) (zE:List Int) (wR:Int):Option (List Int) :=
  (bif decide (wR<(((zN.Snaps).length:Nat):Int)) then (xI zN.Snaps wR).bind fun xX =>
  (gW F zE xX).bind fun yM =>
  rec yM (zI (wR+(1:Int))) else
  some zE)
def mN (F:Nat) (zN:zT):Nat→(List Int)→Int→Option (List Int)
  | 0,_,_=>none
  | n+1,zE,wR=>B6 F zN (mN F zN n) zE wR
def rH (F:Nat) (zN:zT):Option (List (Int)) :=
  (uY F [] (((zN.Threads).length:Nat):Int)).bind fun zA =>
  (gF F zN F (0:Int) zA).bind fun (zC:(List Int)) =>
  (uY F zC (((zN.Domains).length:Nat):Int)).bind fun zY =>
  (AC F zN F (0:Int) zY).bind fun (zV:(List Int)) =>
  (uY F zV (((zN.Snaps).length:Nat):Int)).bind fun yX =>
  (mN F zN F yX (0:Int)).bind fun (yZ:(List Int)) =>
  some yZ
def gO (F:Nat) (rec:Int→Int→Option Int) (xX:Int) (xM:Int):Option Int :=
  (bif decide (xM<(8:Int)) then (bif ((uF .u32 xX (1:Int))==(1:Int)) then rec (tX .u32 (qD .u32 xX (1:Int)) (3988292384:Int)) (zI (xM+(1:Int))) else
  rec (qD .u32 xX (1:Int)) (zI (xM+(1:Int)))) else
  some xX)
def fR (F:Nat):Nat→Int→Int→Option Int
  | 0,_,_=>none
  | n+1,xX,xM=>gO F (fR F n) xX xM
def AM (F:Nat) (zE:List (Int)) (rec:Int→Int→Option Int) (zH:Int) (zG:Int):Option Int :=
  (bif decide (zG<(((zE).length:Nat):Int)) then (xI zE zG).bind fun yB =>
  (fR F F (tX .u32 zH (AL yB)) (0:Int)).bind fun (zV:Int) =>
  rec zV (zI (zG+(1:Int))) else
  some zH)
def lI (F:Nat) (zE:List (Int)):Nat→Int→Int→Option Int
  | 0,_,_=>none
  | n+1,zH,zG=>AM F zE (lI F zE n) zH zG
def AP (F:Nat) (zE:List (Int)):Option Int :=
  (lI F zE F (4294967295:Int) (0:Int)).bind fun (zC:Int) =>
  some (zI (tX .u32 (4294967295:Int) zC))
def mQ (F:Nat) (j7:Int) (zE:List (Int)):Option Int :=
  (need (((([j7]:List Int)).length+(zE).length) * 1≤140737488355328)).bind fun _=>(AP F (([j7]:List Int)++zE)).bind fun zA =>
  some zA
def dH (F:Nat) (j7:Int) (zE:List (Int)):Option (List (Int)) :=
  (uY F ([j7]:List Int) (((zE).length:Nat):Int)).bind fun zA =>
  (mQ F j7 zE).bind fun zK=>(uY F zA zK).bind fun zP=>(need (((zP).length+(zE).length) * 1≤140737488355328)).bind fun _ =>
  some (zP++zE)
def rR (zF:List (Int)):Option (List (Int)) :=
  (need (((([]:List Int)).length+(zF).length) * 1≤140737488355328)).bind fun _ =>
  some ([]++zF)
def bK (zM:z8):Option (z8×Int) :=
  (dF zM).bind fun zA =>
  (bif (zA != (0:Int)) then some ((⟨(0:Int),[],(0:Int),(0:Int),false⟩:z8),zA) else
  (bif zM.Down then some (zM,(19:Int)) else
  (rR zM.Data).bind fun zK =>
  some ((⟨zM.Size,zK,zM.Durable,zM.Left,zM.Down⟩:z8),(0:Int))))
def DD (zM:z8) (zE:List (Int)):Option (z8×Int) :=
  (bK zM).bind fun zA =>
  (bif (zA.2 != (0:Int)) then some (zA.1,zA.2) else
  (bif decide ((zI ((((zA.1.Data).length:Nat):Int)+(((zE).length:Nat):Int)))>zA.1.Size) then some ((⟨(0:Int),[],(0:Int),(0:Int),false⟩:z8),(6:Int)) else
  (bif (decide (zA.1.Left≥(0:Int))&&decide (zA.1.Left<(((zE).length:Nat):Int))) then (need ((0:Int)≤zA.1.Left∧zA.1.Left≤(((zE).length:Nat):Int))).bind fun _=>(need (((zA.1.Data).length+(sub zE (0:Int) zA.1.Left).length) * 1≤140737488355328)).bind fun _ =>
  some ((⟨zA.1.Size,(zA.1.Data++(sub zE (0:Int) zA.1.Left)),zA.1.Durable,(0:Int),true⟩:z8),(19:Int)) else
  (need (((zA.1.Data).length+(zE).length) * 1≤140737488355328)).bind fun _ =>
  (bif decide (zA.1.Left≥(0:Int)) then some ((⟨zA.1.Size,(zA.1.Data++zE),zA.1.Durable,zI (zA.1.Left - (((zE).length:Nat):Int)),zA.1.Down⟩:z8),(0:Int)) else
  some ((⟨zA.1.Size,(zA.1.Data++zE),zA.1.Durable,zA.1.Left,zA.1.Down⟩:z8),(0:Int))))))
def m9 (zM:z8):Option (z8×Int) :=
  (bK zM).bind fun zA =>
  (bif (zA.2 != (0:Int)) then some (zA.1,zA.2) else
  (bif (zA.1.Left==(0:Int)) then some ((⟨zA.1.Size,zA.1.Data,zA.1.Durable,zA.1.Left,true⟩:z8),(19:Int)) else
  some ((⟨zA.1.Size,zA.1.Data,(((zA.1.Data).length:Nat):Int),zA.1.Left,zA.1.Down⟩:z8),(0:Int))))
def BA (F:Nat) (qM:List (List (Int))) (rec:Int→Int→(List Int)→Int→Int→Bool→Option ((Int×(List Int)×Int×Int×Bool)⊕(z8×Int))) (zG:Int) (zB:Int) (yL:List Int) (yG:Int) (yD:Int) (yR:Bool):Option ((Int×(List Int)×Int×Int×Bool)⊕(z8×Int)) :=
  (bif decide (zG<(((qM).length:Nat):Int)) then (xI qM zG).bind fun zH =>
  (DD (⟨zB,yL,yG,yD,yR⟩:z8) zH).bind fun zA =>
  (bif (zA.2 != (0:Int)) then some (.inr (zA.1,zA.2)) else
  rec (zI (zG+(1:Int))) zA.1.Size zA.1.Data zA.1.Durable zA.1.Left zA.1.Down) else
  some (.inl (zB,yL,yG,yD,yR)))
def BN (F:Nat) (qM:List (List (Int))):Nat→Int→Int→(List Int)→Int→Int→Bool→Option ((Int×(List Int)×Int×Int×Bool)⊕(z8×Int))
  | 0,_,_,_,_,_,_=>none
  | n+1,zG,zB,yL,yG,yD,yR=>BA F qM (BN F qM n) zG zB yL yG yD yR
def m3 (F:Nat) (zM:z8) (qM:List (List (Int))):Option (z8×Int) :=
  (BN F qM F (0:Int) zM.Size zM.Data zM.Durable zM.Left zM.Down).bind fun (zC:(Int×(List Int)×Int×Int×Bool)⊕(z8×Int)) =>
  (match zC with
  | (.inl yC) =>
  (m9 (⟨yC.1,yC.2.1,yC.2.2.1,yC.2.2.2.1,yC.2.2.2.2⟩:z8)).bind fun zK =>
  some (zK.1,zK.2)
  | (.inr xV) =>
  some xV)
def mJ (F:Nat) (zM:z8) (zN:zT):Option (z8×Int) :=
  (dF zM).bind fun zA =>
  (bif (zA != (0:Int)) then some ((⟨(0:Int),[],(0:Int),(0:Int),false⟩:z8),zA) else
  (bif decide ((((zM.Data).length:Nat):Int)>(0:Int)) then some ((⟨(0:Int),[],(0:Int),(0:Int),false⟩:z8),(18:Int)) else
  (gE F zN).bind fun zK =>
  (bif (zK != (0:Int)) then some ((⟨(0:Int),[],(0:Int),(0:Int),false⟩:z8),zK) else
  (rH F zN).bind fun zP=>(dH F (72:Int) zP).bind fun z0=>(m3 F zM ([z0]:List (List (Int)))).bind fun zY =>
  some (zY.1,zY.2))))
def DQ (vC:Int):Option Int :=
  some (tX .i64 (zI (qD .u64 vC (1:Int))) (zI (0 - (zI (uF .u64 vC (1:Int))))))
def DP (F:Nat) (zE:List (Int)) (rec:Int→Int→Option (Unit⊕(Int×Int×Int))) (vC:Int) (zG:Int):Option (Unit⊕(Int×Int×Int)) :=
  (bif decide (zG<(((zE).length:Nat):Int)) then (xI zE zG).bind fun zH =>
  (bif ((zG==(9:Int))&&decide (zH>(1:Int))) then some (.inr ((0:Int),(0:Int),(10:Int))) else
  (need ((0:Int)≤(zI ((7:Int) * zG)))).bind fun _ =>
  (bif decide (zH≥(128:Int)) then rec (ior .u64 vC (pL .u64 (jH (uF .u8 zH (127:Int))) (zI ((7:Int) * zG)))) (zI (zG+(1:Int))) else
  (bif ((zH==(0:Int))&&decide (zG>(0:Int))) then some (.inr ((0:Int),(0:Int),(10:Int))) else
  (DQ (ior .u64 vC (pL .u64 (jH (uF .u8 zH (127:Int))) (zI ((7:Int) * zG))))).bind fun zA =>
  some (.inr (zA,zI (zG+(1:Int)),(0:Int)))))) else
  some (.inl ()))
def l9 (F:Nat) (zE:List (Int)):Nat→Int→Int→Option (Unit⊕(Int×Int×Int))
  | 0,_,_=>none
  | n+1,vC,zG=>DP F zE (l9 F zE n) vC zG
def cB (F:Nat) (zE:List (Int)):Option (Int×Int×Int) :=
  (l9 F zE F (0:Int) (0:Int)).bind fun (zC:Unit⊕(Int×Int×Int)) =>
  (match zC with
  | (.inl yC) =>
  some ((0:Int),(0:Int),(8:Int))
  | (.inr xV) =>
  some xV)
def rV (F:Nat) (zE:List (Int)):Option (Int×(List (Int))×Int) :=
  (bif ((((zE).length:Nat):Int)==(0:Int)) then some ((0:Int),[],(0:Int)) else
  (need ((1:Int)≤(((zE).length:Nat):Int))).bind fun _=>(cB F (sub zE (1:Int) (((zE).length:Nat):Int))).bind fun zA =>
  (bif (zA.2.2 != (0:Int)) then some ((0:Int),[],(0:Int)) else
  (need ((0:Int)≤(zI ((1:Int)+zA.2.1))∧(zI ((1:Int)+zA.2.1))≤(((zE).length:Nat):Int))).bind fun _=>(cB F (sub zE (zI ((1:Int)+zA.2.1)) (((zE).length:Nat):Int))).bind fun zK =>
  (bif ((zK.2.2 != (0:Int))||(decide (zA.1<(0:Int))||decide (zA.1>(zI ((((zE).length:Nat):Int) - (zI ((zI ((1:Int)+zA.2.1))+zK.2.1))))))) then some ((0:Int),[],(0:Int)) else
  (need ((0:Int)≤(zI ((zI ((1:Int)+zA.2.1))+zK.2.1))∧(zI ((zI ((1:Int)+zA.2.1))+zK.2.1))≤(zI ((zI ((zI ((1:Int)+zA.2.1))+zK.2.1))+zA.1))∧(zI ((zI ((zI ((1:Int)+zA.2.1))+zK.2.1))+zA.1))≤(((zE).length:Nat):Int))).bind fun _ =>
  (xI zE (0:Int)).bind fun zH=>(mQ F zH (sub zE (zI ((zI ((1:Int)+zA.2.1))+zK.2.1)) (zI ((zI ((zI ((1:Int)+zA.2.1))+zK.2.1))+zA.1)))).bind fun zP =>
  (bif (zP != zK.1) then some ((0:Int),[],(0:Int)) else
  (xI zE (0:Int)).bind fun yB =>
  some (yB,sub zE (zI ((zI ((1:Int)+zA.2.1))+zK.2.1)) (zI ((zI ((zI ((1:Int)+zA.2.1))+zK.2.1))+zA.1)),zI ((zI ((zI ((1:Int)+zA.2.1))+zK.2.1))+zA.1))))))
structure vB where
  b:List (Int)
  bad:Bool
  deriving DecidableEq,Inhabited
def uQ (s:vB):List AV:=[.sl false 1 (List.map (AV.int .u8) s.b),.bool s.bad]
def pW (F:Nat) (zF:vB):Option (Int×vB) :=
  (cB F zF.b).bind fun zA =>
  (bif (zA.2.2 != (0:Int)) then some ((0:Int),(⟨[],true⟩:vB)) else
  (need ((0:Int)≤zA.2.1∧zA.2.1≤(((zF.b).length:Nat):Int))).bind fun _ =>
  some (zA.1,(⟨sub zF.b zA.2.1 (((zF.b).length:Nat):Int),zF.bad⟩:vB)))
def gZ (F:Nat) (zF:vB) (kE:Int):Option (Int×vB) :=
  (pW F zF).bind fun zA =>
  (bif (decide (zA.1<(0:Int))||decide (zA.1>kE)) then some ((0:Int),(⟨zA.2.b,true⟩:vB)) else
  some (zA.1,zA.2))
def r9 (F:Nat) (zE:List (Int)) (kE:Int):Option ((List Int)×Int×Int) :=
  (cB F zE).bind fun zA =>
  (bif (zA.2.2 != (0:Int)) then some (([]:List Int),(0:Int),zA.2.2) else
  (bif decide (zA.1<(0:Int)) then some (([]:List Int),(0:Int),(10:Int)) else
  (bif decide (zA.1>kE) then some (([]:List Int),(0:Int),(7:Int)) else
  (bif decide (zA.1>(zI ((((zE).length:Nat):Int) - zA.2.1))) then some (([]:List Int),(0:Int),(8:Int)) else
  (need ((0:Int)≤zA.2.1∧zA.2.1≤(zI (zA.2.1+zA.1))∧(zI (zA.2.1+zA.1))≤(((zE).length:Nat):Int))).bind fun _ =>
  some (sub zE zA.2.1 (zI (zA.2.1+zA.1)),zI (zA.2.1+zA.1),(0:Int))))))
def DY (F:Nat) (zF:vB):Option ((List Int)×vB) :=
  (r9 F zF.b (40:Int)).bind fun zA =>
  (bif (zA.2.2 != (0:Int)) then some (([]:List Int),(⟨[],true⟩:vB)) else
  (need ((0:Int)≤zA.2.1∧zA.2.1≤(((zF.b).length:Nat):Int))).bind fun _ =>
  some (zA.1,(⟨sub zF.b zA.2.1 (((zF.b).length:Nat):Int),zF.bad⟩:vB)))
def rG (F:Nat) (zF:vB):Option (yQ×vB) :=
  (pW F zF).bind fun zA=>(pW F zA.2).bind fun zK=>(pW F zK.2).bind fun zP =>
  (pW F zP.2).bind fun z0 =>
  (pW F z0.2).bind fun zY =>
  some ((⟨zA.1,zK.1,zP.1,(⟨z0.1,zY.1⟩:AO)⟩:yQ),zY.2)
def cN (zW:List (Int)) (zE:List (Int)):Option Bool :=
  some (zW==zE)
def gD (F:Nat) (zA:Int×vB) (rec:Int→(List Int)→Bool→(List xH)→Option ((List Int)×Bool×(List xH))) (zG:Int) (zB:List Int) (yL:Bool) (zJ:List xH):Option ((List Int)×Bool×(List xH)) :=
  (bif decide (zG<zA.1) then (pW F (⟨zB,yL⟩:vB)).bind fun zK=>(DY F zK.2).bind fun zP =>
  (pW F zP.2).bind fun z0=>(need (((zJ).length+(([(⟨zK.1,zP.1,z0.1⟩:xH)]:List xH)).length) * 32≤140737488355328)).bind fun _ =>
  rec (zI (zG+(1:Int))) z0.2.b z0.2.bad (zJ++([(⟨zK.1,zP.1,z0.1⟩:xH)]:List xH)) else
  some (zB,yL,zJ))
def o9 (F:Nat) (zA:Int×vB):Nat→Int→(List Int)→Bool→(List xH)→Option ((List Int)×Bool×(List xH))
  | 0,_,_,_,_=>none
  | n+1,zG,zB,yL,zJ=>gD F zA (o9 F zA n) zG zB yL zJ
def lF (F:Nat) (zY:Int×vB) (rec:Int→(List Int)→Bool→(List y0)→Option ((List Int)×Bool×(List y0))) (xM:Int) (yG:List Int) (yD:Bool) (z7:List y0):Option ((List Int)×Bool×(List y0)) :=
  (bif decide (xM<zY.1) then (pW F (⟨yG,yD⟩:vB)).bind fun yV =>
  (pW F yV.2).bind fun xK=>(need (((z7).length+(([(⟨yV.1,xK.1⟩:y0)]:List y0)).length) * 16≤140737488355328)).bind fun _ =>
  rec (zI (xM+(1:Int))) xK.2.b xK.2.bad (z7++([(⟨yV.1,xK.1⟩:y0)]:List y0)) else
  some (yG,yD,z7))
def rT (F:Nat) (zY:Int×vB):Nat→Int→(List Int)→Bool→(List y0)→Option ((List Int)×Bool×(List y0))
  | 0,_,_,_,_=>none
  | n+1,xM,yG,yD,z7=>lF F zY (rT F zY n) xM yG yD z7
def lD (F:Nat) (yX:Int×vB) (rec:Int→(List Int)→Bool→(List yQ)→Option ((List Int)×Bool×(List yQ))) (wR:Int) (yR:List Int) (xD:Bool) (xL:List yQ):Option ((List Int)×Bool×(List yQ)) :=
  (bif decide (wR<yX.1) then (rG F (⟨yR,xD⟩:vB)).bind fun yM=>(need (((xL).length+(([yM.1]:List yQ)).length) * 40≤140737488355328)).bind fun _ =>
  rec (zI (wR+(1:Int))) yM.2.b yM.2.bad (xL++([yM.1]:List yQ)) else
  some (yR,xD,xL))
def oS (F:Nat) (yX:Int×vB):Nat→Int→(List Int)→Bool→(List yQ)→Option ((List Int)×Bool×(List yQ))
  | 0,_,_,_,_=>none
  | n+1,wR,yR,xD,xL=>lD F yX (oS F yX n) wR yR xD xL
def CE (F:Nat) (zE:List (Int)):Option (zT×Bool) :=
  (gZ F (⟨zE,false⟩:vB) (64:Int)).bind fun zA =>
  (o9 F zA F (0:Int) zA.2.b zA.2.bad []).bind fun (zC:((List Int)×Bool×(List xH))) =>
  (gZ F (⟨zC.1,zC.2.1⟩:vB) (8:Int)).bind fun zY =>
  (rT F zY F (0:Int) zY.2.b zY.2.bad []).bind fun (zV:((List Int)×Bool×(List y0))) =>
  (gZ F (⟨zV.1,zV.2.1⟩:vB) (200:Int)).bind fun yX =>
  (oS F yX F (0:Int) yX.2.b yX.2.bad []).bind fun (yZ:((List Int)×Bool×(List yQ))) =>
  ((bif !yZ.2.1 then ((rH F (⟨zC.2.2,zV.2.2,yZ.2.2⟩:zT)).bind fun xF=>(cN xF zE).bind fun wN=>some wN) else (some false))).bind fun (zL:Bool) =>
  some ((⟨zC.2.2,zV.2.2,yZ.2.2⟩:zT),zL)
structure xS where
  next:Int
  last:Int
  deriving DecidableEq,Inhabited
def OL (s:xS):List AV:=[.int .i64 s.next,.int .i64 s.last]
def yY (s:xS):AV:=.agg (OL s)
structure yJ where
  head:zT
  packets:List (zQ)
  ends:Option (List (Int×xS))
  events:Int
  deriving DecidableEq,Inhabited
structure xZ where
  done:yJ
  used:Int
  deriving DecidableEq,Inhabited
def JL (zF:List (zQ)):Option (List (zQ)) :=
  (need (((([]:List zQ)).length+(zF).length) * 48≤140737488355328)).bind fun _ =>
  some ([]++zF)
def rD (zF:List (yQ)):Option (List (yQ)) :=
  (need (((([]:List yQ)).length+(zF).length) * 40≤140737488355328)).bind fun _ =>
  some ([]++zF)
def o3 (zB:yJ):Option yJ :=
  (JL zB.packets).bind fun zA =>
  (rD zB.head.Snaps).bind fun zK =>
  some (⟨(⟨zB.head.Threads,zB.head.Domains,zK⟩:zT),zA,zB.ends,zB.events⟩:yJ)
def DV (F:Nat) (zE:List (Int)):Option (yQ×Bool) :=
  (rG F (⟨zE,false⟩:vB)).bind fun zA =>
  ((bif !zA.2.bad then ((gW F [] zA.1).bind fun zK=>(cN zK zE).bind fun zP=>some zP) else (some false))).bind fun (zL:Bool) =>
  some (zA.1,zL)
structure uV where
  b:List (Int)
  used:Int
  fault:Int
  deriving DecidableEq,Inhabited
def t5 (s:uV):List AV:=[.sl false 1 (List.map (AV.int .u8) s.b),.int .i64 s.used,.int .i64 s.fault]
def aQ (F:Nat) (zH:uV):Option (Int×uV) :=
  (bif (zH.fault != (0:Int)) then some ((0:Int),zH) else
  (need ((0:Int)≤zH.used∧zH.used≤(((zH.b).length:Nat):Int))).bind fun _=>(cB F (sub zH.b zH.used (((zH.b).length:Nat):Int))).bind fun zA =>
  some (zA.1,(⟨zH.b,zI (zH.used+zA.2.1),zA.2.2⟩:uV)))
def cA (F:Nat) (zH:uV) (kE:Int):Option (Int×uV) :=
  (aQ F zH).bind fun zA =>
  (bif (zA.2.fault != (0:Int)) then some ((0:Int),zA.2) else
  (bif decide (zA.1<(0:Int)) then some ((0:Int),(⟨zA.2.b,zA.2.used,(10:Int)⟩:uV)) else
  (bif decide (zA.1>kE) then some ((0:Int),(⟨zA.2.b,zA.2.used,(7:Int)⟩:uV)) else
  some (zA.1,zA.2))))
def A6 (F:Nat) (zH:uV):Option ((List Int)×uV) :=
  (bif (zH.fault != (0:Int)) then some (([]:List Int),zH) else
  (need ((0:Int)≤zH.used∧zH.used≤(((zH.b).length:Nat):Int))).bind fun _=>(r9 F (sub zH.b zH.used (((zH.b).length:Nat):Int)) (40:Int)).bind fun zA =>
  some (zA.1,(⟨zH.b,zI (zH.used+zA.2.1),zA.2.2⟩:uV)))
structure zS where
  c0:Int
  c1:Int
  deriving DecidableEq,Inhabited
def U5 (s:zS):List AV:=[.int .i64 s.c0,.int .i64 s.c1]
def yW (s:zS):AV:=.agg (U5 s)
def gJ (F:Nat) (yE:List (List Int)) (rec:Int→(List ((List Int)×Bool))→Option (Unit⊕Int)) (zG:Int) (zJ:List ((List Int)×Bool)):Option (Unit⊕Int) :=
  (bif decide (zG<(((yE).length:Nat):Int)) then (xI yE zG).bind fun zH =>
  (dB F zH).bind fun zA =>
  (bif (zA != (0:Int)) then some (.inr zA) else
  (bif ((vV zJ zH).getD false) then some (.inr (4:Int)) else
  (need ((zJ).length<140737488355328)).bind fun _ =>
  rec (zI (zG+(1:Int))) (x6 zJ zH true))) else
  some (.inl ()))
def rS (F:Nat) (yE:List (List Int)):Nat→Int→(List ((List Int)×Bool))→Option (Unit⊕Int)
  | 0,_,_=>none
  | n+1,zG,zJ=>gJ F yE (rS F yE n) zG zJ
def BY (F:Nat) (yE:List (List Int)):Option Int :=
  (rS F yE F (0:Int) []).bind fun (zC:Unit⊕Int) =>
  (match zC with
  | (.inl yC) =>
  some (0:Int)
  | (.inr xV) =>
  some xV)
def B1 (F:Nat) (yE:List (List Int)) (yH:List (zS)) (rec:Int→(List (zS×Bool))→(List Int)→Option (Unit⊕Int)) (zG:Int) (zJ:List (zS×Bool)) (z7:List Int):Option (Unit⊕Int) :=
  (bif decide (zG<(((yH).length:Nat):Int)) then (xI yH zG).bind fun zH =>
  (bif (decide (zH.c0<(-1:Int))||(decide (zH.c0≥zG)||(decide (zH.c1<(0:Int))||decide (zH.c1≥(((yE).length:Nat):Int))))) then some (.inr (2:Int)) else
  (bif ((vV zJ zH).getD false) then some (.inr (4:Int)) else
  (need ((zJ).length<140737488355328)).bind fun _ =>
  (xI z7 zG).bind fun yB =>
  (((bif (zH.c0 != (-1:Int)) then (xI ((z7).set ((zG).toNat) (1:Int)) zG).bind fun xX=>(xI ((z7).set ((zG).toNat) (1:Int)) zH.c0).bind fun tM=>(xI ((z7).set ((zG).toNat) (1:Int)) zG).bind fun n8 =>
  some (((z7).set ((zG).toNat) (1:Int)).set ((zG).toNat) (zI (xX+tM))) else
  some ((z7).set ((zG).toNat) (1:Int))):Option (List Int))).bind fun (zV:(List Int)) =>
  (xI zV zG).bind fun n9 =>
  (bif decide (n9>(32:Int)) then some (.inr (7:Int)) else
  rec (zI (zG+(1:Int))) (x6 zJ zH true) zV))) else
  some (.inl ()))
def oM (F:Nat) (yE:List (List Int)) (yH:List (zS)):Nat→Int→(List (zS×Bool))→(List Int)→Option (Unit⊕Int)
  | 0,_,_,_=>none
  | n+1,zG,zJ,z7=>B1 F yE yH (oM F yE yH n) zG zJ z7
def cO (F:Nat) (yE:List (List Int)) (yH:List (zS)):Option Int :=
  (bif (decide ((((yE).length:Nat):Int)>(1000:Int))||decide ((((yH).length:Nat):Int)>(1000:Int))) then some (7:Int) else
  (BY F yE).bind fun zA =>
  (bif (zA != (0:Int)) then some zA else
  (need (((yH).length) * 8≤281474976710656)).bind fun _ =>
  (oM F yE yH F (0:Int) [] (List.replicate ((yH).length) (0:Int))).bind fun (zC:Unit⊕Int) =>
  (match zC with
  | (.inl yC) =>
  some (0:Int)
  | (.inr xV) =>
  some xV)))
structure jM where
  b:List (Int)
  used:Int
  fault:Int
  deriving DecidableEq,Inhabited
def cZ (s:jM):List AV:=[.sl false 1 (List.map (AV.int .u8) s.b),.int .i64 s.used,.int .i64 s.fault]
def nR (F:Nat) (zH:jM):Option (Int×jM) :=
  (bif (zH.fault != (0:Int)) then some ((0:Int),zH) else
  (need ((0:Int)≤zH.used∧zH.used≤(((zH.b).length:Nat):Int))).bind fun _=>(cB F (sub zH.b zH.used (((zH.b).length:Nat):Int))).bind fun zA =>
  some (zA.1,(⟨zH.b,zI (zH.used+zA.2.1),zA.2.2⟩:jM)))
def BJ (v7:Int):Option (Bool×Bool×Bool×Bool) :=
  some (((v7==(1:Int))||((v7==(3:Int))||(v7==(4:Int)))),decide (v7≥(4:Int)),((v7==(9:Int))||(v7==(11:Int))),((v7==(5:Int))||(v7==(11:Int))))
def BE (F:Nat) (rec:Int→Int→(List (List Int))→Option (List (List Int))) (xE:Int) (tZ:Int) (zJ:List (List Int)):Option (List (List Int)) :=
  (bif decide (xE<tZ) then (xI zJ tZ).bind fun zH=>(xI zJ xE).bind fun yB=>(xI zJ xE).bind fun xX=>(xI ((zJ).set ((xE).toNat) zH) tZ).bind fun tM =>
  rec (zI (xE+(1:Int))) (zI (tZ - (1:Int))) (((zJ).set ((xE).toNat) zH).set ((tZ).toNat) yB) else
  some zJ)
def mV (F:Nat):Nat→Int→Int→(List (List Int))→Option (List (List Int))
  | 0,_,_,_=>none
  | n+1,xE,tZ,zJ=>BE F (mV F n) xE tZ zJ
def AF (F:Nat) (zF:List (List Int)):Option (List (List Int)) :=
  (mV F F (0:Int) (zI ((((zF).length:Nat):Int) - (1:Int))) zF).bind fun (zC:(List (List Int))) =>
  some zC
def gL (F:Nat) (yE:List (List Int)) (yH:List (zS)) (rec:Int→(List (List Int))→Option (List (List Int))) (qE:Int) (zJ:List (List Int)):Option (List (List Int)) :=
  (bif (qE != (-1:Int)) then (xI yH qE).bind fun zH=>(xI yE zH.c1).bind fun yB=>(need (((zJ).length+(([yB]:List (List Int))).length) * 16≤140737488355328)).bind fun _ =>
  (xI yH qE).bind fun xX =>
  rec xX.c0 (zJ++([yB]:List (List Int))) else
  some zJ)
def CK (F:Nat) (yE:List (List Int)) (yH:List (zS)):Nat→Int→(List (List Int))→Option (List (List Int))
  | 0,_,_=>none
  | n+1,qE,zJ=>gL F yE yH (CK F yE yH n) qE zJ
def rP (F:Nat) (yE:List (List Int)) (yH:List (zS)) (xE:Int):Option ((List (List Int))×Int) :=
  (cO F yE yH).bind fun zA =>
  (bif (zA != (0:Int)) then some ([],(1:Int)) else
  (bif (decide (xE<(-1:Int))||decide (xE≥(((yH).length:Nat):Int))) then some ([],(2:Int)) else
  (CK F yE yH F xE []).bind fun (zC:(List (List Int))) =>
  (AF F zC).bind fun zK=>(need ((zK).length=(zC).length)).bind fun _ =>
  some (zK,(0:Int))))
structure wP where
  word:List Int
  name:Bool
  n:Bool
  m:Bool
  stack:Bool
  least:Int
  most:Int
  mLeast:Int
  mMost:Int
  deriving DecidableEq,Inhabited
def B2 (s:wP):List AV:=[.str s.word,.bool s.name,.bool s.n,.bool s.m,.bool s.stack,.int .i64 s.least,.int .i64 s.most,.int .i64 s.mLeast,.int .i64 s.mMost]
def cX (s:wP):AV:=.agg (B2 s)
def oG:Option (List (wP)) :=
  some ([(⟨([]:List Int),false,false,false,false,(0:Int),(0:Int),(0:Int),(0:Int)⟩:wP),(⟨([98,101,103,105,110]:List Int),true,false,false,false,(0:Int),(0:Int),(0:Int),(0:Int)⟩:wP),(⟨([101,110,100]:List Int),false,false,false,false,(0:Int),(0:Int),(0:Int),(0:Int)⟩:wP),(⟨([109,97,114,107]:List Int),true,false,false,false,(0:Int),(0:Int),(0:Int),(0:Int)⟩:wP),(⟨([99,111,117,110,116]:List Int),true,true,false,false,(-1000000000000000:Int),(1000000000000000:Int),(0:Int),(0:Int)⟩:wP),(⟨([115,97,109,112,108,101]:List Int),false,true,false,true,(1:Int),(1000000000000:Int),(0:Int),(0:Int)⟩:wP),(⟨([115,101,110,100]:List Int),false,true,false,false,(0:Int),(1000000000000000:Int),(0:Int),(0:Int)⟩:wP),(⟨([114,101,99,118]:List Int),false,true,false,false,(0:Int),(1000000000000000:Int),(0:Int),(0:Int)⟩:wP),(⟨([114,117,110]:List Int),false,true,false,false,(0:Int),(63:Int),(0:Int),(0:Int)⟩:wP),(⟨([115,116,111,112]:List Int),false,true,true,false,(0:Int),(3:Int),(0:Int),(1000000000000000:Int)⟩:wP),(⟨([119,97,107,101]:List Int),false,true,false,false,(0:Int),(1000000000000000:Int),(0:Int),(0:Int)⟩:wP),(⟨([97,108,108,111,99]:List Int),false,true,true,true,(0:Int),(1000000000000000:Int),(1:Int),(1000000000000:Int)⟩:wP),(⟨([102,114,101,101]:List Int),false,true,false,false,(0:Int),(1000000000000000:Int),(0:Int),(0:Int)⟩:wP)]:List wP)
def D0 (v7:Int):Option (wP×Bool) :=
  (oG ).bind fun zA =>
  (bif (decide (v7<(1:Int))||decide (v7≥(((zA).length:Nat):Int))) then some ((⟨([]:List Int),false,false,false,false,(0:Int),(0:Int),(0:Int),(0:Int)⟩:wP),false) else
  (xI zA v7).bind fun zH =>
  some (zH,true))
def CR (F:Nat) (zO:List (List Int)) (rec:Int→Option (Unit⊕Int)) (zG:Int):Option (Unit⊕Int) :=
  (bif decide (zG<(((zO).length:Nat):Int)) then (xI zO zG).bind fun zH =>
  (dB F zH).bind fun zA =>
  (bif (zA != (0:Int)) then some (.inr zA) else
  rec (zI (zG+(1:Int)))) else
  some (.inl ()))
def CX (F:Nat) (zO:List (List Int)):Nat→Int→Option (Unit⊕Int)
  | 0,_=>none
  | n+1,zG=>CR F zO (CX F zO n) zG
def oL (F:Nat) (zO:List (List Int)):Option Int :=
  (bif decide ((((zO).length:Nat):Int)>(32:Int)) then some (7:Int) else
  (CX F zO F (0:Int)).bind fun (zC:Unit⊕Int) =>
  (match zC with
  | (.inl yC) =>
  some (0:Int)
  | (.inr xV) =>
  some xV))
def CZ (F:Nat) (f_1:wP) (z6:y6):Option Int :=
  (bif f_1.name then (dB F z6.Name).bind fun zA =>
  some zA else
  (oL F z6.Stack).bind fun zK =>
  some zK)
def fI (F:Nat) (z6:y6):Option Int :=
  (bif (decide (z6.At<(0:Int))||decide (z6.At>(1000000000000:Int))) then some (2:Int) else
  (D0 z6.Kind).bind fun zA =>
  ((bif !zA.2 then (some true) else (bif !zA.1.name then (bif !(z6.Name==([]:List Int)) then (some true) else (bif !zA.1.n then (bif (z6.N != (0:Int)) then (some true) else (bif !zA.1.m then (bif (z6.M != (0:Int)) then (some true) else (bif !zA.1.stack then (some (decide ((((z6.Stack).length:Nat):Int)>(0:Int)))) else (some false))) else (bif !zA.1.stack then (some (decide ((((z6.Stack).length:Nat):Int)>(0:Int)))) else (some false)))) else (bif !zA.1.m then (bif (z6.M != (0:Int)) then (some true) else (bif !zA.1.stack then (some (decide ((((z6.Stack).length:Nat):Int)>(0:Int)))) else (some false))) else (bif !zA.1.stack then (some (decide ((((z6.Stack).length:Nat):Int)>(0:Int)))) else (some false))))) else (bif !zA.1.n then (bif (z6.N != (0:Int)) then (some true) else (bif !zA.1.m then (bif (z6.M != (0:Int)) then (some true) else (bif !zA.1.stack then (some (decide ((((z6.Stack).length:Nat):Int)>(0:Int)))) else (some false))) else (bif !zA.1.stack then (some (decide ((((z6.Stack).length:Nat):Int)>(0:Int)))) else (some false)))) else (bif !zA.1.m then (bif (z6.M != (0:Int)) then (some true) else (bif !zA.1.stack then (some (decide ((((z6.Stack).length:Nat):Int)>(0:Int)))) else (some false))) else (bif !zA.1.stack then (some (decide ((((z6.Stack).length:Nat):Int)>(0:Int)))) else (some false))))))).bind fun (zL:Bool) =>
  (bif zL then some (1:Int) else
  (CZ F zA.1 z6).bind fun zK =>
  (bif (zK != (0:Int)) then some zK else
  (bif (zA.1.n&&(decide (z6.N<zA.1.least)||decide (z6.N>zA.1.most))) then some (2:Int) else
  (bif ((z6.Kind==(9:Int))&&((z6.N != (2:Int))&&(z6.M != (0:Int)))) then some (1:Int) else
  (bif (zA.1.m&&(bif decide (z6.M<zA.1.mLeast) then ((z6.Kind != (9:Int))||(z6.N==(2:Int))) else (decide (z6.M>zA.1.mMost)&&((z6.Kind != (9:Int))||(z6.N==(2:Int)))))) then some (2:Int) else
  some (0:Int)))))))
def BZ (F:Nat) (yE:List (List Int)) (yH:List (zS)) (zE:List (Int)):Option (y6×Int×Int) :=
  (cO F yE yH).bind fun zA =>
  (bif (zA != (0:Int)) then some ((⟨(0:Int),(0:Int),([]:List Int),(0:Int),(0:Int),[]⟩:y6),(0:Int),(1:Int)) else
  (nR F (⟨zE,(0:Int),(0:Int)⟩:jM)).bind fun zK =>
  (nR F zK.2).bind fun zP =>
  (((bif ((zP.2.fault==(0:Int))&&(decide (zK.1<(1:Int))||decide (zK.1>(12:Int)))) then some (10:Int) else
  some zP.2.fault):Option Int)).bind fun (zC:Int) =>
  (BJ zK.1).bind fun z0 =>
  (((bif z0.1 then (nR F (⟨zP.2.b,zP.2.used,zC⟩:jM)).bind fun zY =>
  some (zY.1,zY.2.b,zY.2.used,zY.2.fault) else
  some ((0:Int),zP.2.b,zP.2.used,zC)):Option (Int×(List Int)×Int×Int))).bind fun (zV:(Int×(List Int)×Int×Int)) =>
  (((bif z0.2.1 then (nR F (⟨zV.2.1,zV.2.2.1,zV.2.2.2⟩:jM)).bind fun yV =>
  some (yV.2.b,yV.2.used,yV.2.fault,yV.1) else
  some (zV.2.1,zV.2.2.1,zV.2.2.2,(0:Int))):Option ((List Int)×Int×Int×Int))).bind fun (yZ:((List Int)×Int×Int×Int)) =>
  (((bif z0.2.2.1 then (nR F (⟨yZ.1,yZ.2.1,yZ.2.2.1⟩:jM)).bind fun xK =>
  some (xK.2.b,xK.2.used,xK.2.fault,xK.1) else
  some (yZ.1,yZ.2.1,yZ.2.2.1,(0:Int))):Option ((List Int)×Int×Int×Int))).bind fun (xY:((List Int)×Int×Int×Int)) =>
  (((bif z0.2.2.2 then (nR F (⟨xY.1,xY.2.1,xY.2.2.1⟩:jM)).bind fun yX =>
  some (yX.1,yX.2.b,yX.2.used,yX.2.fault) else
  some ((-1:Int),xY.1,xY.2.1,xY.2.2.1)):Option (Int×(List Int)×Int×Int))).bind fun (w7:(Int×(List Int)×Int×Int)) =>
  (((bif (w7.2.2.2 != (0:Int)) then some (.inr ((⟨(0:Int),(0:Int),([]:List Int),(0:Int),(0:Int),[]⟩:y6),(0:Int),w7.2.2.2)) else
  (bif (z0.1&&(decide (zV.1<(0:Int))||decide (zV.1≥(((yE).length:Nat):Int)))) then some (.inr ((⟨(0:Int),(0:Int),([]:List Int),(0:Int),(0:Int),[]⟩:y6),(0:Int),(2:Int))) else
  (bif (decide (w7.1<(-1:Int))||decide (w7.1≥(((yH).length:Nat):Int))) then some (.inr ((⟨(0:Int),(0:Int),([]:List Int),(0:Int),(0:Int),[]⟩:y6),(0:Int),(2:Int))) else
  some (.inl ())))):Option (Unit⊕(y6×Int×Int)))).bind fun (o_6:Unit⊕(y6×Int×Int)) =>
  (match o_6 with
  | (.inl yC) =>
  (((bif z0.1 then (xI yE zV.1).bind fun zH =>
  some zH else
  some ([]:List Int)):Option (List Int))).bind fun (cH:(List Int)) =>
  (rP F yE yH w7.1).bind fun yM =>
  (fI F (⟨zP.1,zK.1,cH,yZ.2.2.2,xY.2.2.2,yM.1⟩:y6)).bind fun xF =>
  (bif (xF != (0:Int)) then some ((⟨(0:Int),(0:Int),([]:List Int),(0:Int),(0:Int),[]⟩:y6),(0:Int),(10:Int)) else
  some ((⟨zP.1,zK.1,cH,yZ.2.2.2,xY.2.2.2,yM.1⟩:y6),w7.2.2.1,(0:Int)))
  | (.inr xV) =>
  some xV))
def BW (F:Nat) (zO:List (y6)) (rec:Int→Option (Unit⊕Int)) (zG:Int):Option (Unit⊕Int) :=
  (bif decide (zG<(((zO).length:Nat):Int)) then (xI zO zG).bind fun zH =>
  (fI F zH).bind fun zA =>
  (bif (zA != (0:Int)) then some (.inr zA) else
  ((bif decide (zG>(0:Int)) then ((xI zO (zI (zG - (1:Int)))).bind fun yB=>some (decide (zH.At<yB.At))) else (some false))).bind fun (zL:Bool) =>
  (bif zL then some (.inr (11:Int)) else
  rec (zI (zG+(1:Int))))) else
  some (.inl ()))
def mT (F:Nat) (zO:List (y6)):Nat→Int→Option (Unit⊕Int)
  | 0,_=>none
  | n+1,zG=>BW F zO (mT F zO n) zG
def DS (F:Nat) (zO:List (y6)):Option Int :=
  (mT F zO F (0:Int)).bind fun (zC:Unit⊕Int) =>
  (match zC with
  | (.inl yC) =>
  some (0:Int)
  | (.inr xV) =>
  some xV)
def cU (F:Nat) (zL:zQ) (rec:Int→Option (Unit⊕Int)) (zG:Int):Option (Unit⊕Int) :=
  (bif decide (zG<((3:Nat):Int)) then (xI ([zL.Thread,zL.Serial,zL.Lost]:List Int) zG).bind fun zH =>
  (bif (decide (zH<(0:Int))||decide (zH>(1000000000000000:Int))) then some (.inr (2:Int)) else
  rec (zI (zG+(1:Int)))) else
  some (.inl ()))
def D5 (F:Nat) (zL:zQ):Nat→Int→Option (Unit⊕Int)
  | 0,_=>none
  | n+1,zG=>cU F zL (D5 F zL n) zG
def fB (F:Nat) (zL:zQ):Option Int :=
  (D5 F zL F (0:Int)).bind fun (zC:Unit⊕Int) =>
  (match zC with
  | (.inl yC) =>
  (((bif decide (zL.Lost>zL.Serial) then some (decide (zL.Lost>zL.Serial)) else
  some (decide ((zI (zL.Serial+(((zL.Events).length:Nat):Int)))>(1000000000000000:Int)))):Option Bool)).bind fun (zV:Bool) =>
  (bif zV then some (2:Int) else
  (bif ((((zL.Events).length:Nat):Int)==(0:Int)) then some (8:Int) else
  (bif decide ((((zL.Events).length:Nat):Int)>(1000:Int)) then some (7:Int) else
  (DS F zL.Events).bind fun zA =>
  some zA)))
  | (.inr xV) =>
  some xV)
def lY (F:Nat) (zF:List (List Int)) (zW:List Int) (rec:Int→Option (Unit⊕Int)) (zG:Int):Option (Unit⊕Int) :=
  (bif decide (zG<(((zF).length:Nat):Int)) then (xI zF zG).bind fun zH =>
  (bif (zW==zH) then some (.inr zG) else
  rec (zI (zG+(1:Int)))) else
  some (.inl ()))
def A4 (F:Nat) (zF:List (List Int)) (zW:List Int):Nat→Int→Option (Unit⊕Int)
  | 0,_=>none
  | n+1,zG=>lY F zF zW (A4 F zF zW n) zG
def CH (F:Nat) (zF:List (List Int)) (zW:List Int):Option Int :=
  (A4 F zF zW F (0:Int)).bind fun (zC:Unit⊕Int) =>
  (match zC with
  | (.inl yC) =>
  some (-1:Int)
  | (.inr xV) =>
  some xV)
def JF (zF:List (List Int)):Option (List (List Int)) :=
  (need (((([]:List (List Int))).length+(zF).length) * 16≤140737488355328)).bind fun _ =>
  some ([]++zF)
def oE (F:Nat) (yE:List (List Int)) (zF:List Int):Option (Int×(List (List Int))×Int) :=
  (dB F zF).bind fun zA =>
  (bif (zA != (0:Int)) then some ((0:Int),yE,zA) else
  (CH F yE zF).bind fun zK =>
  (bif decide (zK≥(0:Int)) then some (zK,yE,(0:Int)) else
  (bif decide ((((yE).length:Nat):Int)≥(1000:Int)) then some ((0:Int),yE,(6:Int)) else
  (JF yE).bind fun zP=>(need (((zP).length+(([zF]:List (List Int))).length) * 16≤140737488355328)).bind fun _ =>
  some ((((yE).length:Nat):Int),(zP++([zF]:List (List Int))),(0:Int)))))
def HV (zF:List (zS)):Option (List (zS)) :=
  (need (((([]:List zS)).length+(zF).length) * 16≤140737488355328)).bind fun _ =>
  some ([]++zF)
def lK (F:Nat) (zF:List (zS)) (zW:zS) (rec:Int→Option (Unit⊕Int)) (zG:Int):Option (Unit⊕Int) :=
  (bif decide (zG<(((zF).length:Nat):Int)) then (xI zF zG).bind fun zH =>
  (bif (decide (zW=zH)) then some (.inr zG) else
  rec (zI (zG+(1:Int)))) else
  some (.inl ()))
def CM (F:Nat) (zF:List (zS)) (zW:zS):Nat→Int→Option (Unit⊕Int)
  | 0,_=>none
  | n+1,zG=>lK F zF zW (CM F zF zW n) zG
def BC (F:Nat) (zF:List (zS)) (zW:zS):Option Int :=
  (CM F zF zW F (0:Int)).bind fun (zC:Unit⊕Int) =>
  (match zC with
  | (.inl yC) =>
  some (-1:Int)
  | (.inr xV) =>
  some xV)
def BR (F:Nat) (yE:List (List Int)) (yH:List (zS)) (zO:List (List Int)) (rec:Int→(List (List Int))→Int→(List zS)→Option ((Int×(List (List Int))×(List zS))⊕(Int×(List (List Int))×(List (zS))×Int))) (wS:Int) (yF:List (List Int)) (zG:Int) (zJ:List zS):Option ((Int×(List (List Int))×(List zS))⊕(Int×(List (List Int))×(List (zS))×Int)) :=
  (bif decide (zG<(((zO).length:Nat):Int)) then (xI zO zG).bind fun zH =>
  (oE F yF zH).bind fun zP =>
  (bif (zP.2.2 != (0:Int)) then some (.inr ((0:Int),yE,yH,zP.2.2)) else
  (BC F zJ (⟨wS,zP.1⟩:zS)).bind fun z0 =>
  (bif decide (z0≥(0:Int)) then rec z0 zP.2.1 (zI (zG+(1:Int))) zJ else
  (bif decide ((((zJ).length:Nat):Int)≥(1000:Int)) then some (.inr ((0:Int),yE,yH,(6:Int))) else
  (need (((zJ).length+(([(⟨wS,zP.1⟩:zS)]:List zS)).length) * 16≤140737488355328)).bind fun _ =>
  rec (((zJ).length:Nat):Int) zP.2.1 (zI (zG+(1:Int))) (zJ++([(⟨wS,zP.1⟩:zS)]:List zS))))) else
  some (.inl (wS,yF,zJ)))
def rJ (F:Nat) (yE:List (List Int)) (yH:List (zS)) (zO:List (List Int)):Nat→Int→(List (List Int))→Int→(List zS)→Option ((Int×(List (List Int))×(List zS))⊕(Int×(List (List Int))×(List (zS))×Int))
  | 0,_,_,_,_=>none
  | n+1,wS,yF,zG,zJ=>BR F yE yH zO (rJ F yE yH zO n) wS yF zG zJ
def r7 (F:Nat) (yE:List (List Int)) (yH:List (zS)) (zO:List (List Int)):Option (Int×(List (List Int))×(List (zS))×Int) :=
  (oL F zO).bind fun zA =>
  (bif (zA != (0:Int)) then some ((0:Int),yE,yH,zA) else
  (HV yH).bind fun zK =>
  (rJ F yE yH zO F (-1:Int) yE (0:Int) zK).bind fun (zC:(Int×(List (List Int))×(List zS))⊕(Int×(List (List Int))×(List (zS))×Int)) =>
  (match zC with
  | (.inl yC) =>
  some (yC.1,yC.2.1,yC.2.2,(0:Int))
  | (.inr xV) =>
  some xV))
def D1 (F:Nat) (yE:List (List Int)) (yH:List (zS)) (z6:y6):Option ((List (Int))×(List (List Int))×(List (zS))×Int) :=
  (cO F yE yH).bind fun zA =>
  (bif (zA != (0:Int)) then some ([],[],[],(1:Int)) else
  (fI F z6).bind fun zK =>
  (bif (zK != (0:Int)) then some ([],[],[],zK) else
  (BJ z6.Kind).bind fun zP =>
  (uY F [] z6.Kind).bind fun z0=>(uY F z0 z6.At).bind fun zY =>
  (((bif zP.1 then (oE F yE z6.Name).bind fun yV =>
  (bif (yV.2.2 != (0:Int)) then some (.inr ([],[],[],yV.2.2)) else
  (uY F zY yV.1).bind fun xK =>
  some (.inl (yV.2.1,xK))) else
  some (.inl (yE,zY))):Option (((List (List Int))×(List Int))⊕((List (Int))×(List (List Int))×(List (zS))×Int)))).bind fun (zC:((List (List Int))×(List Int))⊕((List (Int))×(List (List Int))×(List (zS))×Int)) =>
  (match zC with
  | (.inl yC) =>
  (((bif zP.2.1 then (uY F yC.2 z6.N).bind fun yX =>
  some yX else
  some yC.2):Option (List Int))).bind fun (zV:(List Int)) =>
  (((bif zP.2.2.1 then (uY F zV z6.M).bind fun yM =>
  some yM else
  some zV):Option (List Int))).bind fun (yZ:(List Int)) =>
  (((bif zP.2.2.2 then (r7 F yC.1 yH z6.Stack).bind fun xF =>
  (bif (xF.2.2.2 != (0:Int)) then some (.inr ([],[],[],xF.2.2.2)) else
  (uY F yZ xF.1).bind fun wN =>
  some (.inl (xF.2.1,xF.2.2.1,wN))) else
  some (.inl (yC.1,yH,yZ))):Option (((List (List Int))×(List zS)×(List Int))⊕((List (Int))×(List (List Int))×(List (zS))×Int)))).bind fun (xY:((List (List Int))×(List zS)×(List Int))⊕((List (Int))×(List (List Int))×(List (zS))×Int)) =>
  (match xY with
  | (.inl kD) =>
  some (kD.2.2,kD.1,kD.2.1,(0:Int))
  | (.inr n7) =>
  some n7)
  | (.inr xV) =>
  some xV)))
def AJ (F:Nat) (zO:List (Int)) (rec:Int→(List Int)→Option (List Int)) (zG:Int) (zJ:List Int):Option (List Int) :=
  (bif decide (zG<(((zO).length:Nat):Int)) then (xI zO zG).bind fun zH =>
  (uY F zJ zH).bind fun zA =>
  rec (zI (zG+(1:Int))) zA else
  some zJ)
def rX (F:Nat) (zO:List (Int)):Nat→Int→(List Int)→Option (List Int)
  | 0,_,_=>none
  | n+1,zG,zJ=>AJ F zO (rX F zO n) zG zJ
def BI (F:Nat) (zO:List (Int)):Option (List (Int)) :=
  (rX F zO F (0:Int) []).bind fun (zC:(List Int)) =>
  some zC
def D3 (F:Nat) (zO:List (Int)) (rec:Int→(List Int)→Option (List Int)) (zG:Int) (zJ:List Int):Option (List Int) :=
  (bif decide (zG<(((zO).length:Nat):Int)) then (xI zO zG).bind fun zH =>
  (uY F zJ zH).bind fun zA =>
  rec (zI (zG+(1:Int))) zA else
  some zJ)
def mR (F:Nat) (zO:List (Int)):Nat→Int→(List Int)→Option (List Int)
  | 0,_,_=>none
  | n+1,zG,zJ=>D3 F zO (mR F zO n) zG zJ
def iE (F:Nat) (zE:List (Int)) (zO:List (Int)):Option (List (Int)) :=
  (mR F zO F (0:Int) zE).bind fun (zC:(List Int)) =>
  some zC
def DB (F:Nat) (zL:zQ) (rec:(List (List Int))→(List zS)→Int→(List Int)→Option (((List (List Int))×(List zS)×(List Int))⊕((List (Int))×Int))) (yE:List (List Int)) (yH:List zS) (zG:Int) (zJ:List Int):Option (((List (List Int))×(List zS)×(List Int))⊕((List (Int))×Int)) :=
  (bif decide (zG<(((zL.Events).length:Nat):Int)) then (xI zL.Events zG).bind fun zH =>
  (D1 F yE yH zH).bind fun zK =>
  (bif (zK.2.2.2 != (0:Int)) then some (.inr ([],zK.2.2.2)) else
  (need (((zJ).length+(zK.1).length) * 1≤140737488355328)).bind fun _ =>
  rec zK.2.1 zK.2.2.1 (zI (zG+(1:Int))) (zJ++zK.1)) else
  some (.inl (yE,yH,zJ)))
def oI (F:Nat) (zL:zQ):Nat→(List (List Int))→(List zS)→Int→(List Int)→Option (((List (List Int))×(List zS)×(List Int))⊕((List (Int))×Int))
  | 0,_,_,_,_=>none
  | n+1,yE,yH,zG,zJ=>DB F zL (oI F zL n) yE yH zG zJ
def DN (F:Nat) (yC:(List (List Int))×(List zS)×(List Int)) (rec:Int→(List Int)→Option (List Int)) (xM:Int) (z7:List Int):Option (List Int) :=
  (bif decide (xM<(((yC.1).length:Nat):Int)) then (xI yC.1 xM).bind fun yB =>
  (rA F z7 yB).bind fun z0 =>
  rec (zI (xM+(1:Int))) z0 else
  some z7)
def mM (F:Nat) (yC:(List (List Int))×(List zS)×(List Int)):Nat→Int→(List Int)→Option (List Int)
  | 0,_,_=>none
  | n+1,xM,z7=>DN F yC (mM F yC n) xM z7
def DU (F:Nat) (yC:(List (List Int))×(List zS)×(List Int)) (rec:Int→(List Int)→Option (List Int)) (wR:Int) (xL:List Int):Option (List Int) :=
  (bif decide (wR<(((yC.2.1).length:Nat):Int)) then (xI yC.2.1 wR).bind fun xX =>
  (iE F xL ([xX.c0,xX.c1]:List Int)).bind fun yV =>
  rec (zI (wR+(1:Int))) yV else
  some xL)
def m6 (F:Nat) (yC:(List (List Int))×(List zS)×(List Int)):Nat→Int→(List Int)→Option (List Int)
  | 0,_,_=>none
  | n+1,wR,xL=>DU F yC (m6 F yC n) wR xL
def fJ (F:Nat) (zL:zQ):Option ((List (Int))×Int) :=
  (fB F zL).bind fun zA =>
  (bif (zA != (0:Int)) then some ([],zA) else
  (oI F zL F [] [] (0:Int) []).bind fun (zC:((List (List Int))×(List zS)×(List Int))⊕((List (Int))×Int)) =>
  (match zC with
  | (.inl yC) =>
  (BI F ([zL.Thread,zL.Serial,zL.Lost,(((yC.1).length:Nat):Int)]:List Int)).bind fun zP =>
  (mM F yC F (0:Int) zP).bind fun (zV:(List Int)) =>
  (iE F zV ([(((yC.2.1).length:Nat):Int)]:List Int)).bind fun zY =>
  (m6 F yC F (0:Int) zY).bind fun (yZ:(List Int)) =>
  (iE F yZ ([(((zL.Events).length:Nat):Int)]:List Int)).bind fun xK=>(need (((xK).length+(yC.2.2).length) * 1≤140737488355328)).bind fun _ =>
  some ((xK++yC.2.2),(0:Int))
  | (.inr xV) =>
  some xV))
def lJ (F:Nat) (rec:Int→(List Int)→Int→Int→(List (List Int))→Option ((List Int)×Int×Int×(List (List Int)))) (yF:Int) (zB:List Int) (yL:Int) (yG:Int) (zJ:List (List Int)):Option ((List Int)×Int×Int×(List (List Int))) :=
  (bif (decide (yF>(0:Int))&&(yG==(0:Int))) then (A6 F (⟨zB,yL,yG⟩:uV)).bind fun zY=>(need (((zJ).length+(([zY.1]:List (List Int))).length) * 16≤140737488355328)).bind fun _ =>
  rec (zI (yF - (1:Int))) zY.2.b zY.2.used zY.2.fault (zJ++([zY.1]:List (List Int))) else
  some (zB,yL,yG,zJ))
def oU (F:Nat):Nat→Int→(List Int)→Int→Int→(List (List Int))→Option ((List Int)×Int×Int×(List (List Int)))
  | 0,_,_,_,_,_=>none
  | n+1,yF,zB,yL,yG,zJ=>lJ F (oU F n) yF zB yL yG zJ
def lP (F:Nat) (rec:Int→(List Int)→Int→Int→(List zS)→Option ((List Int)×Int×Int×(List zS))) (qX:Int) (yD:List Int) (yR:Int) (xD:Int) (z7:List zS):Option ((List Int)×Int×Int×(List zS)) :=
  (bif (decide (qX>(0:Int))&&(xD==(0:Int))) then (aQ F (⟨yD,yR,xD⟩:uV)).bind fun xK =>
  (aQ F xK.2).bind fun yX=>(need (((z7).length+(([(⟨xK.1,yX.1⟩:zS)]:List zS)).length) * 16≤140737488355328)).bind fun _ =>
  rec (zI (qX - (1:Int))) yX.2.b yX.2.used yX.2.fault (z7++([(⟨xK.1,yX.1⟩:zS)]:List zS)) else
  some (yD,yR,xD,z7))
def oC (F:Nat):Nat→Int→(List Int)→Int→Int→(List zS)→Option ((List Int)×Int×Int×(List zS))
  | 0,_,_,_,_,_=>none
  | n+1,qX,yD,yR,xD,z7=>lP F (oC F n) qX yD yR xD z7
def lC (F:Nat) (zE:List (Int)) (zC:((List Int)×Int×Int×(List (List Int)))) (zV:((List Int)×Int×Int×(List zS))) (rec:Int→Int→Int→(List y6)→Option (Int×Int×(List y6))) (bH:Int) (wT:Int) (w8:Int) (xL:List y6):Option (Int×Int×(List y6)) :=
  (bif (decide (bH>(0:Int))&&(w8==(0:Int))) then (need ((0:Int)≤wT∧wT≤(((zE).length:Nat):Int))).bind fun _=>(BZ F zC.2.2.2 zV.2.2.2 (sub zE wT (((zE).length:Nat):Int))).bind fun wN =>
  (need (((xL).length+(([wN.1]:List y6)).length) * 72≤140737488355328)).bind fun _ =>
  rec (zI (bH - (1:Int))) (zI (wT+wN.2.1)) wN.2.2 (xL++([wN.1]:List y6)) else
  some (wT,w8,xL))
def rZ (F:Nat) (zE:List (Int)) (zC:((List Int)×Int×Int×(List (List Int)))) (zV:((List Int)×Int×Int×(List zS))):Nat→Int→Int→Int→(List y6)→Option (Int×Int×(List y6))
  | 0,_,_,_,_=>none
  | n+1,bH,wT,w8,xL=>lC F zE zC zV (rZ F zE zC zV n) bH wT w8 xL
def BT (F:Nat) (zE:List (Int)):Option (zQ×Int×Int) :=
  (aQ F (⟨zE,(0:Int),(0:Int)⟩:uV)).bind fun zA =>
  (aQ F zA.2).bind fun zK =>
  (aQ F zK.2).bind fun zP =>
  (cA F zP.2 (1000:Int)).bind fun z0 =>
  (oU F F z0.1 z0.2.b z0.2.used z0.2.fault []).bind fun (zC:((List Int)×Int×Int×(List (List Int)))) =>
  (cA F (⟨zC.1,zC.2.1,zC.2.2.1⟩:uV) (1000:Int)).bind fun yV =>
  (oC F F yV.1 yV.2.b yV.2.used yV.2.fault []).bind fun (zV:((List Int)×Int×Int×(List zS))) =>
  (((bif (zV.2.2.1==(0:Int)) then (cO F zC.2.2.2 zV.2.2.2).bind fun yM =>
  some yM else
  some zV.2.2.1):Option Int)).bind fun (yZ:Int) =>
  (cA F (⟨zV.1,zV.2.1,yZ⟩:uV) (1000:Int)).bind fun xF =>
  (rZ F zE zC zV F xF.1 xF.2.used xF.2.fault []).bind fun (xY:(Int×Int×(List y6))) =>
  (((bif (xY.2.1==(0:Int)) then (fB F (⟨zA.1,zK.1,zP.1,xY.2.2⟩:zQ)).bind fun qF =>
  some qF else
  some xY.2.1):Option Int)).bind fun (w7:Int) =>
  (bif (w7 != (0:Int)) then some ((⟨(0:Int),(0:Int),(0:Int),[]⟩:zQ),(0:Int),w7) else
  (fJ F (⟨zA.1,zK.1,zP.1,xY.2.2⟩:zQ)).bind fun tO =>
  ((bif (tO.2 != (0:Int)) then (some true) else ((need ((0:Int)≤xY.1∧xY.1≤(((zE).length:Nat):Int))).bind fun _=>(cN tO.1 (sub zE (0:Int) xY.1)).bind fun qN=>some (!qN)))).bind fun (zL:Bool) =>
  (bif zL then some ((⟨(0:Int),(0:Int),(0:Int),[]⟩:zQ),(0:Int),(10:Int)) else
  some ((⟨zA.1,zK.1,zP.1,xY.2.2⟩:zQ),xY.1,(0:Int))))
def HH (jF:xH) (zW:zQ):Option Bool :=
  some (jF.Id==zW.Thread)
def gA (F:Nat) (zF:List (xH)) (zB:zQ) (rec:Int→Option (Unit⊕Int)) (zG:Int):Option (Unit⊕Int) :=
  (bif decide (zG<(((zF).length:Nat):Int)) then (xI zF zG).bind fun zH=>(HH zH zB).bind fun zA =>
  (bif zA then some (.inr zG) else
  rec (zI (zG+(1:Int)))) else
  some (.inl ()))
def DH (F:Nat) (zF:List (xH)) (zB:zQ):Nat→Int→Option (Unit⊕Int)
  | 0,_=>none
  | n+1,zG=>gA F zF zB (DH F zF zB n) zG
def GX (F:Nat) (zF:List (xH)) (zB:zQ):Option Int :=
  (DH F zF zB F (0:Int)).bind fun (zC:Unit⊕Int) =>
  (match zC with
  | (.inl yC) =>
  some (-1:Int)
  | (.inr xV) =>
  some xV)
def C7 (F:Nat) (zF:List (xH)) (zB:zQ):Option Bool :=
  (GX F zF zB).bind fun zA =>
  some (decide (zA≥(0:Int)))
def rW (F:Nat) (zB:yJ) (zL:zQ):Option (Int×yJ) :=
  (C7 F zB.head.Threads zL).bind fun zA =>
  (bif !zA then some ((5:Int),zB) else
  ((bif (zL.Serial != (zI ((((vV ((zB.ends).getD []) zL.Thread).getD (⟨(0:Int),(0:Int)⟩:xS)).next)+zL.Lost))) then (some true) else ((xI zL.Events (0:Int)).bind fun zH=>some (decide (zH.At<(((vV ((zB.ends).getD []) zL.Thread).getD (⟨(0:Int),(0:Int)⟩:xS)).last)))))).bind fun (pD:Bool) =>
  (bif pD then some ((11:Int),zB) else
  (((bif (zB.ends).isNone then some [] else
  some ((zB.ends).getD [])):Option (List (Int×xS)))).bind fun (zC:(List (Int×xS))) =>
  (xI zL.Events (zI ((((zL.Events).length:Nat):Int) - (1:Int)))).bind fun yB=>(need ((zC).length<140737488355328)).bind fun _ =>
  (need (((zB.packets).length+(([zL]:List zQ)).length) * 48≤140737488355328)).bind fun _ =>
  some ((0:Int),(⟨zB.head,(zB.packets++([zL]:List zQ)),(some (x6 zC zL.Thread (⟨zI (zL.Serial+(((zL.Events).length:Nat):Int)),yB.At⟩:xS))),zI (zB.events+(((zL.Events).length:Nat):Int))⟩:yJ))))
def g7 (F:Nat) (zE:List (Int)) (rec:Bool→Bool→Int→(List xH)→(List y0)→(List yQ)→(Option (List (Int×xS)))→Int→Int→(List zQ)→(List xH)→(List y0)→(Option (List (Int×xS)))→Int→(List yQ)→(List zQ)→Option xZ) (kF:Bool) (aA:Bool) (wS:Int) (zB:List xH) (yL:List y0) (yG:List yQ) (yD:Option (List (Int×xS))) (yR:Int) (xD:Int) (zJ:List zQ) (wT:List xH) (w8:List y0) (wZ:Option (List (Int×xS))) (v6:Int) (z7:List yQ) (xL:List zQ):Option xZ :=
  (need ((0:Int)≤wS∧wS≤(((zE).length:Nat):Int))).bind fun _=>(rV F (sub zE wS (((zE).length:Nat):Int))).bind fun zY =>
  (bif (zY.2.2==(0:Int)) then some (⟨(⟨(⟨zB,yL,yG⟩:zT),zJ,yD,yR⟩:yJ),xD⟩:xZ) else
  (bif (zY.1==(83:Int)) then (DV F zY.2.1).bind fun yV =>
  (need (((z7).length+(([yV.1]:List yQ)).length) * 40≤140737488355328)).bind fun _ =>
  ((bif !yV.2 then (some true) else (bif aA then (some true) else ((gU F w8 (z7++([yV.1]:List yQ))).bind fun xK=>some (xK != (0:Int)))))).bind fun (pD:Bool) =>
  (bif pD then some (⟨(⟨(⟨zB,yL,yG⟩:zT),zJ,yD,yR⟩:yJ),xD⟩:xZ) else
  rec true aA (zI (wS+zY.2.2)) zB yL yG yD yR xD zJ wT w8 wZ v6 (z7++([yV.1]:List yQ)) xL) else
  (bif (zY.1==(80:Int)) then (BT F zY.2.1).bind fun yX =>
  ((bif (yX.2.2 != (0:Int)) then (some (true,wT,w8,wZ,v6,z7,xL)) else (bif (yX.2.1 != (((zY.2.1).length:Nat):Int)) then (some (true,wT,w8,wZ,v6,z7,xL)) else ((rW F (⟨(⟨wT,w8,z7⟩:zT),xL,wZ,v6⟩:yJ) yX.1).bind fun yM=>bif (yM.1 != (0:Int)) then (some (true,yM.2.head.Threads,yM.2.head.Domains,yM.2.ends,yM.2.events,yM.2.head.Snaps,yM.2.packets)) else (some (decide (yM.2.events>(20000:Int)),yM.2.head.Threads,yM.2.head.Domains,yM.2.ends,yM.2.events,yM.2.head.Snaps,yM.2.packets)))))).bind fun (j8:Bool×(List xH)×(List y0)×(Option (List (Int×xS)))×Int×(List yQ)×(List zQ)) =>
  (bif j8.1 then some (⟨(⟨(⟨zB,yL,yG⟩:zT),zJ,yD,yR⟩:yJ),xD⟩:xZ) else
  rec true true (zI (wS+zY.2.2)) zB yL yG yD yR xD zJ j8.2.1 j8.2.2.1 j8.2.2.2.1 j8.2.2.2.2.1 j8.2.2.2.2.2.1 j8.2.2.2.2.2.2) else
  (bif (zY.1==(70:Int)) then (bif (decide ((((zY.2.1).length:Nat):Int)>(0:Int))||!kF) then some (⟨(⟨(⟨zB,yL,yG⟩:zT),zJ,yD,yR⟩:yJ),xD⟩:xZ) else
  (o3 (⟨(⟨wT,w8,z7⟩:zT),xL,wZ,v6⟩:yJ)).bind fun xF =>
  rec false false (zI (wS+zY.2.2)) wT w8 z7 wZ v6 (zI (wS+zY.2.2)) xL xF.head.Threads xF.head.Domains xF.ends xF.events xF.head.Snaps xF.packets) else
  some (⟨(⟨(⟨zB,yL,yG⟩:zT),zJ,yD,yR⟩:yJ),xD⟩:xZ)))))
def mU (F:Nat) (zE:List (Int)):Nat→Bool→Bool→Int→(List xH)→(List y0)→(List yQ)→(Option (List (Int×xS)))→Int→Int→(List zQ)→(List xH)→(List y0)→(Option (List (Int×xS)))→Int→(List yQ)→(List zQ)→Option xZ
  | 0,_,_,_,_,_,_,_,_,_,_,_,_,_,_,_,_=>none
  | n+1,kF,aA,wS,zB,yL,yG,yD,yR,xD,zJ,wT,w8,wZ,v6,z7,xL=>g7 F zE (mU F zE n) kF aA wS zB yL yG yD yR xD zJ wT w8 wZ v6 z7 xL
def fL (F:Nat) (zE:List (Int)):Option xZ :=
  (rV F zE).bind fun zA =>
  (CE F zA.2.1).bind fun zK =>
  ((bif (zA.2.2==(0:Int)) then (some true) else (bif (zA.1 != (72:Int)) then (some true) else (bif !zK.2 then (some true) else ((gE F zK.1).bind fun zP=>some (zP != (0:Int))))))).bind fun (zL:Bool) =>
  (bif zL then some (⟨(⟨(⟨[],[],[]⟩:zT),[],none,(0:Int)⟩:yJ),(0:Int)⟩:xZ) else
  (o3 (⟨zK.1,[],none,(0:Int)⟩:yJ)).bind fun z0 =>
  (mU F zE F false false zA.2.2 zK.1.Threads zK.1.Domains zK.1.Snaps none (0:Int) zA.2.2 [] z0.head.Threads z0.head.Domains z0.ends z0.events z0.head.Snaps z0.packets).bind fun (zC:xZ) =>
  some zC)
def gC (F:Nat) (zE:List (Int)):Option (zT×(List (zQ))×Int) :=
  (fL F zE).bind fun zA =>
  some (zA.done.head,zA.done.packets,zA.used)
def NC (F:Nat) (zW:zT) (zE:zT) (rec:Int→Option (Unit⊕Bool)) (xE:Int):Option (Unit⊕Bool) :=
  (bif decide (xE<(((zW.Threads).length:Nat):Int)) then (xI zW.Threads xE).bind fun zH=>(xI zE.Threads xE).bind fun yB =>
  (bif (!(decide (zH=yB))) then some (.inr false) else
  rec (zI (xE+(1:Int)))) else
  some (.inl ()))
def HI (F:Nat) (zW:zT) (zE:zT):Nat→Int→Option (Unit⊕Bool)
  | 0,_=>none
  | n+1,xE=>NC F zW zE (HI F zW zE n) xE
def NU (F:Nat) (zW:zT) (zE:zT) (rec:Int→Option (Unit⊕Bool)) (qE:Int):Option (Unit⊕Bool) :=
  (bif decide (qE<(((zW.Domains).length:Nat):Int)) then (xI zW.Domains qE).bind fun xX=>(xI zE.Domains qE).bind fun tM =>
  (bif (!(decide (xX=tM))) then some (.inr false) else
  rec (zI (qE+(1:Int)))) else
  some (.inl ()))
def EV (F:Nat) (zW:zT) (zE:zT):Nat→Int→Option (Unit⊕Bool)
  | 0,_=>none
  | n+1,qE=>NU F zW zE (EV F zW zE n) qE
def NT (F:Nat) (zW:zT) (zE:zT) (rec:Int→Option (Unit⊕Bool)) (aS:Int):Option (Unit⊕Bool) :=
  (bif decide (aS<(((zW.Snaps).length:Nat):Int)) then (xI zW.Snaps aS).bind fun n8=>(xI zE.Snaps aS).bind fun n9 =>
  (bif (!(decide (n8=n9))) then some (.inr false) else
  rec (zI (aS+(1:Int)))) else
  some (.inl ()))
def H7 (F:Nat) (zW:zT) (zE:zT):Nat→Int→Option (Unit⊕Bool)
  | 0,_=>none
  | n+1,aS=>NT F zW zE (H7 F zW zE n) aS
def L9 (F:Nat) (zW:zT) (zE:zT):Option Bool :=
  (bif (((((zW.Threads).length:Nat):Int) != (((zE.Threads).length:Nat):Int))||(((((zW.Domains).length:Nat):Int) != (((zE.Domains).length:Nat):Int))||((((zW.Snaps).length:Nat):Int) != (((zE.Snaps).length:Nat):Int)))) then some false else
  (HI F zW zE F (0:Int)).bind fun (zC:Unit⊕Bool) =>
  (match zC with
  | (.inl yC) =>
  (EV F zW zE F (0:Int)).bind fun (zV:Unit⊕Bool) =>
  (match zV with
  | (.inl kD) =>
  (H7 F zW zE F (0:Int)).bind fun (yZ:Unit⊕Bool) =>
  (match yZ with
  | (.inl q_5) =>
  some true
  | (.inr q_6) =>
  some q_6)
  | (.inr n7) =>
  some n7)
  | (.inr xV) =>
  some xV))
def GB (fX:Int) (wS:Int):Option zQ :=
  some (⟨(1:Int),fX,(0:Int),([(⟨wS,(3:Int),([97]:List Int),(0:Int),(0:Int),[]⟩:y6)]:List y6)⟩:zQ)
def C8 (F:Nat) (vH:List (yQ)) (rec:Int→(List (List (Int)))→Option (List (List (Int)))) (zG:Int) (zJ:List (List (Int))):Option (List (List (Int))) :=
  (bif decide (zG<(((vH).length:Nat):Int)) then (xI vH zG).bind fun zH =>
  (gW F [] zH).bind fun zA=>(dH F (83:Int) zA).bind fun zK=>(need (((zJ).length+(([zK]:List (List (Int)))).length) * 24≤140737488355328)).bind fun _ =>
  rec (zI (zG+(1:Int))) (zJ++([zK]:List (List (Int)))) else
  some zJ)
def A7 (F:Nat) (vH:List (yQ)):Nat→Int→(List (List (Int)))→Option (List (List (Int)))
  | 0,_,_=>none
  | n+1,zG,zJ=>C8 F vH (A7 F vH n) zG zJ
def CU (F:Nat) (zO:List (zQ)) (rec:Int→(List (List (Int)))→Option (List (List (Int)))) (xM:Int) (z7:List (List (Int))):Option (List (List (Int))) :=
  (bif decide (xM<(((zO).length:Nat):Int)) then (xI zO xM).bind fun yB =>
  (fJ F yB).bind fun zP =>
  (dH F (80:Int) zP.1).bind fun z0=>(need (((z7).length+(([z0]:List (List (Int)))).length) * 24≤140737488355328)).bind fun _ =>
  rec (zI (xM+(1:Int))) (z7++([z0]:List (List (Int)))) else
  some z7)
def A2 (F:Nat) (zO:List (zQ)):Nat→Int→(List (List (Int)))→Option (List (List (Int)))
  | 0,_,_=>none
  | n+1,xM,z7=>CU F zO (A2 F zO n) xM z7
def D7 (F:Nat) (zV:(List (List (Int)))) (zY:(List (Int))) (rec:Int→Int→Option Int) (wD:Int) (wR:Int):Option Int :=
  (bif decide (wR<((((zV++([zY]:List (List (Int))))).length:Nat):Int)) then (xI (zV++([zY]:List (List (Int)))) wR).bind fun xX =>
  rec (zI (wD+(((xX).length:Nat):Int))) (zI (wR+(1:Int))) else
  some wD)
def CQ (F:Nat) (zV:(List (List (Int)))) (zY:(List (Int))):Nat→Int→Int→Option Int
  | 0,_,_=>none
  | n+1,wD,wR=>D7 F zV zY (CQ F zV zY n) wD wR
def CA (F:Nat) (vH:List (yQ)) (zO:List (zQ)):Option ((List (List (Int)))×Int) :=
  (A7 F vH F (0:Int) []).bind fun (zC:(List (List (Int)))) =>
  (A2 F zO F (0:Int) zC).bind fun (zV:(List (List (Int)))) =>
  (dH F (70:Int) []).bind fun zY=>(need (((zV).length+(([zY]:List (List (Int)))).length) * 24≤140737488355328)).bind fun _ =>
  (CQ F zV zY F (0:Int) (0:Int)).bind fun (yZ:Int) =>
  some ((zV++([zY]:List (List (Int)))),yZ)
abbrev zY0:Type:=((List xH)×(List y0)×(Option (List (Int×xS)))×Int×(List yQ)×(List zQ))
def A9 (F:Nat) (zO:List (zQ)) (rec:Int→(List xH)→(List y0)→(Option (List (Int×xS)))→Int→(List yQ)→(List zQ)→Option (zY0⊕(z8×Int))) (zG:Int) (zB:List xH) (yL:List y0) (yG:Option (List (Int×xS))) (yD:Int) (zJ:List yQ) (z7:List zQ):Option (zY0⊕(z8×Int)) :=
  (bif decide (zG<(((zO).length:Nat):Int)) then (xI zO zG).bind fun zH =>
  (fB F zH).bind fun zY =>
  (bif (zY != (0:Int)) then some (.inr ((⟨(0:Int),[],(0:Int),(0:Int),false⟩:z8),zY)) else
  (rW F (⟨(⟨zB,yL,zJ⟩:zT),z7,yG,yD⟩:yJ) zH).bind fun yV =>
  (bif (yV.1 != (0:Int)) then some (.inr ((⟨(0:Int),[],(0:Int),(0:Int),false⟩:z8),yV.1)) else
  (fJ F zH).bind fun xK =>
  (bif (xK.2 != (0:Int)) then some (.inr ((⟨(0:Int),[],(0:Int),(0:Int),false⟩:z8),xK.2)) else
  rec (zI (zG+(1:Int))) yV.2.head.Threads yV.2.head.Domains yV.2.ends yV.2.events yV.2.head.Snaps yV.2.packets))) else
  some (.inl (zB,yL,yG,yD,zJ,z7)))
def C0 (F:Nat) (zO:List (zQ)):Nat→Int→(List xH)→(List y0)→(Option (List (Int×xS)))→Int→(List yQ)→(List zQ)→Option (zY0⊕(z8×Int))
  | 0,_,_,_,_,_,_,_=>none
  | n+1,zG,zB,yL,yG,yD,zJ,z7=>A9 F zO (C0 F zO n) zG zB yL yG yD zJ z7
def lU (F:Nat) (zM:z8) (vH:List (yQ)) (zO:List (zQ)):Option (z8×Int) :=
  (dF zM).bind fun zA =>
  (bif (zA != (0:Int)) then some ((⟨(0:Int),[],(0:Int),(0:Int),false⟩:z8),zA) else
  (bif zM.Down then some (zM,(19:Int)) else
  (fL F zM.Data).bind fun zK =>
  (bif ((zK.used==(0:Int))||(zK.used != (((zM.Data).length:Nat):Int))) then some ((⟨(0:Int),[],(0:Int),(0:Int),false⟩:z8),(18:Int)) else
  (bif ((zI ((((vH).length:Nat):Int)+(((zO).length:Nat):Int)))==(0:Int)) then some (zM,(0:Int)) else
  (rD zK.done.head.Snaps).bind fun zP=>(need (((zP).length+(vH).length) * 40≤140737488355328)).bind fun _ =>
  (gU F zK.done.head.Domains (zP++vH)).bind fun z0 =>
  (bif (z0 != (0:Int)) then some ((⟨(0:Int),[],(0:Int),(0:Int),false⟩:z8),z0) else
  (C0 F zO F (0:Int) zK.done.head.Threads zK.done.head.Domains zK.done.ends zK.done.events (zP++vH) zK.done.packets).bind fun (zC:zY0⊕(z8×Int)) =>
  (match zC with
  | (.inl yC) =>
  (bif decide (yC.2.2.2.1>(20000:Int)) then some ((⟨(0:Int),[],(0:Int),(0:Int),false⟩:z8),(7:Int)) else
  (CA F vH zO).bind fun yX =>
  (bif decide ((zI ((((zM.Data).length:Nat):Int)+yX.2))>zM.Size) then some ((⟨(0:Int),[],(0:Int),(0:Int),false⟩:z8),(6:Int)) else
  (m3 F zM yX.1).bind fun yM =>
  some (yM.1,yM.2)))
  | (.inr xV) =>
  some xV))))))
def AA (zM:z8) (yF:Int):Option (z8×Int) :=
  (bK zM).bind fun zA =>
  (bif (zA.2 != (0:Int)) then some (zA.1,zA.2) else
  (bif (decide (yF<(0:Int))||decide (yF>(1048576:Int))) then some ((⟨(0:Int),[],(0:Int),(0:Int),false⟩:z8),(2:Int)) else
  some ((⟨zA.1.Size,zA.1.Data,zA.1.Durable,yF,zA.1.Down⟩:z8),(0:Int))))
def iB (zM:z8) (qY:Int):Option z8 :=
  (dF zM).bind fun zA =>
  (bif (zA != (0:Int)) then some zM else
  (((bif decide (qY<(zI ((((zM.Data).length:Nat):Int) - zM.Durable))) then some (zI (zM.Durable+(nZ qY (0:Int)))) else
  some (((zM.Data).length:Nat):Int)):Option Int)).bind fun (zC:Int) =>
  (need ((0:Int)≤zC∧zC≤(((zM.Data).length:Nat):Int))).bind fun _=>(rR (sub zM.Data (0:Int) zC)).bind fun zK =>
  some (⟨zM.Size,zK,zC,(-1:Int),false⟩:z8))
def CN (zM:z8) (yF:Int):Option (z8×Int) :=
  (bK zM).bind fun zA =>
  (bif (zA.2 != (0:Int)) then some (zA.1,zA.2) else
  (bif (decide (yF<(0:Int))||decide (yF>(((zA.1.Data).length:Nat):Int))) then some ((⟨(0:Int),[],(0:Int),(0:Int),false⟩:z8),(2:Int)) else
  (need ((0:Int)≤yF∧yF≤(((zA.1.Data).length:Nat):Int))).bind fun _ =>
  some ((⟨zA.1.Size,sub zA.1.Data (0:Int) yF,aW zA.1.Durable yF,zA.1.Left,zA.1.Down⟩:z8),(0:Int))))
def rM (F:Nat) (zM:z8):Option (z8×Int) :=
  (dF zM).bind fun zA =>
  (bif (zA != (0:Int)) then some ((⟨(0:Int),[],(0:Int),(0:Int),false⟩:z8),zA) else
  (bif zM.Down then some (zM,(19:Int)) else
  (fL F zM.Data).bind fun zK =>
  (bif (zK.used==(0:Int)) then some ((⟨(0:Int),[],(0:Int),(0:Int),false⟩:z8),(10:Int)) else
  (CN zM zK.used).bind fun zP =>
  (bif (zP.2 != (0:Int)) then some (zP.1,zP.2) else
  (m9 zP.1).bind fun z0 =>
  some (z0.1,z0.2)))))
def gR (F:Nat):Option Bool :=
  (DM (1000:Int)).bind fun zA =>
  (HC ).bind fun zK=>(mJ F zA.1 zK).bind fun zP =>
  (gC F zP.1.Data).bind fun z0 =>
  ((bif (zA.2 != (0:Int)) then (some true) else (bif (zP.2 != (0:Int)) then (some true) else ((HC ).bind fun zY=>(L9 F z0.1 zY).bind fun yV=>bif !yV then (some true) else (bif ((((z0.2.1).length:Nat):Int) != (0:Int)) then (some true) else (bif (z0.2.2 != (((zP.1.Data).length:Nat):Int)) then (some true) else (some (z0.2.2==(0:Int))))))))).bind fun (zL:Bool) =>
  (bif zL then some false else
  (need ((0:Int)≤(zI (z0.2.2 - (1:Int)))∧(zI (z0.2.2 - (1:Int)))≤(((zP.1.Data).length:Nat):Int))).bind fun _=>(gC F (sub zP.1.Data (0:Int) (zI (z0.2.2 - (1:Int))))).bind fun xK =>
  (GB (0:Int) (5:Int)).bind fun yX=>(lU F zP.1 [] ([yX]:List zQ)).bind fun yM =>
  (bif ((yM.2 != (0:Int))||(xK.2.2 != (0:Int))) then some false else
  (AA zP.1 (zI ((zI ((((yM.1.Data).length:Nat):Int) - z0.2.2)) - (1:Int)))).bind fun xF =>
  (GB (0:Int) (5:Int)).bind fun wN=>(lU F xF.1 [] ([wN]:List zQ)).bind fun qF =>
  (iB qF.1 (1000:Int)).bind fun tO=>(rM F tO).bind fun qN =>
  (dH F (70:Int) []).bind fun nH =>
  ((bif (qF.2==(19:Int)) then (bif (qN.2==(0:Int)) then (bif ((((qN.1.Data).length:Nat):Int)==z0.2.2) then (bif decide ((((nH).length:Nat):Int)>(2:Int)) then ((xI nH (0:Int)).bind fun zH=>bif (zH==(70:Int)) then ((xI nH (1:Int)).bind fun yB=>some (yB==(0:Int))) else (some false)) else (some false)) else (some false)) else (some false)) else (some false))).bind fun (pD:Bool) =>
  some pD))
def lM (F:Nat) (zW:List (List Int)) (zE:List (List Int)) (rec:Int→Option (Unit⊕Bool)) (xE:Int):Option (Unit⊕Bool) :=
  (bif decide (xE<(((zW).length:Nat):Int)) then (xI zW xE).bind fun zH=>(xI zE xE).bind fun yB =>
  (bif !(zH==yB) then some (.inr false) else
  rec (zI (xE+(1:Int)))) else
  some (.inl ()))
def DO (F:Nat) (zW:List (List Int)) (zE:List (List Int)):Nat→Int→Option (Unit⊕Bool)
  | 0,_=>none
  | n+1,xE=>lM F zW zE (DO F zW zE n) xE
def AT (F:Nat) (zW:List (List Int)) (zE:List (List Int)):Option Bool :=
  (bif ((((zW).length:Nat):Int) != (((zE).length:Nat):Int)) then some false else
  (DO F zW zE F (0:Int)).bind fun (zC:Unit⊕Bool) =>
  (match zC with
  | (.inl yC) =>
  some true
  | (.inr xV) =>
  some xV))
def AQ (F:Nat) (zW:y6) (zE:y6):Option Bool :=
  ((bif (zW.At==zE.At) then (bif (zW.Kind==zE.Kind) then (bif (zW.Name==zE.Name) then (bif (zW.N==zE.N) then (bif (zW.M==zE.M) then ((AT F zW.Stack zE.Stack).bind fun zA=>some zA) else (some false)) else (some false)) else (some false)) else (some false)) else (some false))).bind fun (zL:Bool) =>
  some zL
def lZ (F:Nat) (zW:zQ) (zE:zQ) (rec:Int→Option (Unit⊕Bool)) (xE:Int):Option (Unit⊕Bool) :=
  (bif decide (xE<(((zW.Events).length:Nat):Int)) then (xI zW.Events xE).bind fun zH=>(xI zE.Events xE).bind fun yB=>(AQ F zH yB).bind fun zA =>
  (bif !zA then some (.inr false) else
  rec (zI (xE+(1:Int)))) else
  some (.inl ()))
def CT (F:Nat) (zW:zQ) (zE:zQ):Nat→Int→Option (Unit⊕Bool)
  | 0,_=>none
  | n+1,xE=>lZ F zW zE (CT F zW zE n) xE
def A0 (F:Nat) (zW:zQ) (zE:zQ):Option Bool :=
  (bif ((zW.Thread != zE.Thread)||((zW.Serial != zE.Serial)||((zW.Lost != zE.Lost)||((((zW.Events).length:Nat):Int) != (((zE.Events).length:Nat):Int))))) then some false else
  (CT F zW zE F (0:Int)).bind fun (zC:Unit⊕Bool) =>
  (match zC with
  | (.inl yC) =>
  some true
  | (.inr xV) =>
  some xV))
def i6 (F:Nat) (zW:List (zQ)) (zE:List (zQ)) (rec:Int→Option (Unit⊕Bool)) (xE:Int):Option (Unit⊕Bool) :=
  (bif decide (xE<(((zW).length:Nat):Int)) then (xI zW xE).bind fun zH=>(xI zE xE).bind fun yB=>(A0 F zH yB).bind fun zA =>
  (bif !zA then some (.inr false) else
  rec (zI (xE+(1:Int)))) else
  some (.inl ()))
def C3 (F:Nat) (zW:List (zQ)) (zE:List (zQ)):Nat→Int→Option (Unit⊕Bool)
  | 0,_=>none
  | n+1,xE=>i6 F zW zE (C3 F zW zE n) xE
def m8 (F:Nat) (zW:List (zQ)) (zE:List (zQ)):Option Bool :=
  (bif ((((zW).length:Nat):Int) != (((zE).length:Nat):Int)) then some false else
  (C3 F zW zE F (0:Int)).bind fun (zC:Unit⊕Bool) =>
  (match zC with
  | (.inl yC) =>
  some true
  | (.inr xV) =>
  some xV))
def BL (F:Nat) (zO:List (tK)) (rec:Int→Int→(List Int)→Int→Int→Bool→(List zQ)→Option ((List zQ)×Int×(List Int)×Int×Int×Bool×(List zQ))) (zG:Int) (zB:Int) (yL:List Int) (yG:Int) (yD:Int) (yR:Bool) (zJ:List zQ):Option ((List zQ)×Int×(List Int)×Int×Int×Bool×(List zQ)) :=
  (bif decide (zG<(((zO).length:Nat):Int)) then (xI zO zG).bind fun zH =>
  (lU F (⟨zB,yL,yG,yD,yR⟩:z8) zH.Snaps zH.Packets).bind fun yX =>
  (bif (yX.2==(19:Int)) then (need (((([]:List zQ)).length+(zJ).length) * 48≤140737488355328)).bind fun _=>(need (((([]++zJ)).length+(zH.Packets).length) * 48≤140737488355328)).bind fun _ =>
  some ((([]++zJ)++zH.Packets),yX.1.Size,yX.1.Data,yX.1.Durable,yX.1.Left,yX.1.Down,zJ) else
  (bif (yX.2==(0:Int)) then (need (((zJ).length+(zH.Packets).length) * 48≤140737488355328)).bind fun _ =>
  rec (zI (zG+(1:Int))) yX.1.Size yX.1.Data yX.1.Durable yX.1.Left yX.1.Down (zJ++zH.Packets) else
  rec (zI (zG+(1:Int))) zB yL yG yD yR zJ)) else
  some ([],zB,yL,yG,yD,yR,zJ))
def AU (F:Nat) (zO:List (tK)):Nat→Int→Int→(List Int)→Int→Int→Bool→(List zQ)→Option ((List zQ)×Int×(List Int)×Int×Int×Bool×(List zQ))
  | 0,_,_,_,_,_,_,_=>none
  | n+1,zG,zB,yL,yG,yD,yR,zJ=>BL F zO (AU F zO n) zG zB yL yG yD yR zJ
def iV (F:Nat) (zN:zT) (zO:List (tK)) (nI:Int) (qY:Int):Option Bool :=
  (((B4 (⟨(0:Int),[],(0:Int),(0:Int),false⟩:z8) zN).bind fun zA=>bif !zA then (some true) else ((B7 F zO).bind fun zK=>bif !zK then (some true) else (bif decide (nI<(0:Int)) then (some true) else (some (decide (nI>(50000:Int)))))))).bind fun (zL:Bool) =>
  (bif zL then (gR F).bind fun zP =>
  some zP else
  (DM (60000:Int)).bind fun z0 =>
  (mJ F z0.1 zN).bind fun zY =>
  (bif (zY.2 != (0:Int)) then (gR F).bind fun yV =>
  some yV else
  (AA zY.1 nI).bind fun xK =>
  (AU F zO F (0:Int) xK.1.Size xK.1.Data xK.1.Durable xK.1.Left xK.1.Down []).bind fun (zC:((List zQ)×Int×(List Int)×Int×Int×Bool×(List zQ))) =>
  (iB (⟨zC.2.1,zC.2.2.1,zC.2.2.2.1,zC.2.2.2.2.1,zC.2.2.2.2.2.1⟩:z8) qY).bind fun yM=>(rM F yM).bind fun xF =>
  (bif (xF.2 != (0:Int)) then some false else
  (gC F xF.1.Data).bind fun wN =>
  ((bif (wN.2.2==(((xF.1.Data).length:Nat):Int)) then (bif (wN.2.2==xF.1.Durable) then ((m8 F wN.2.1 zC.2.2.2.2.2.2).bind fun qF=>bif qF then ((gR F).bind fun tO=>some tO) else (bif zC.2.2.2.2.2.1 then ((m8 F wN.2.1 zC.1).bind fun tO=>bif tO then ((gR F).bind fun qN=>some qN) else (some false)) else (some false))) else (some false)) else (some false))).bind fun (pD:Bool) =>
  some pD)))
abbrev zMb:List Int→AV:=fun l=>AV.sl false 1 (l.map (AV.int .u8))
abbrev zL0:z8:=(⟨(0:Int),[],(0:Int),(0:Int),false⟩:z8)
abbrev zL1:yJ:=(⟨(⟨[],[],[]⟩:zT),[],none,(0:Int)⟩:yJ)
abbrev zL2:y6:=(⟨(0:Int),(0:Int),([]:List Int),(0:Int),(0:Int),[]⟩:y6)
abbrev zL3:xZ:=(⟨(⟨(⟨[],[],[]⟩:zT),[],none,(0:Int)⟩:yJ),(0:Int)⟩:xZ)
abbrev zL4:wP:=(⟨([]:List Int),false,false,false,false,(0:Int),(0:Int),(0:Int),(0:Int)⟩:wP)
abbrev zL5:wP:=(⟨([101,110,100]:List Int),false,false,false,false,(0:Int),(0:Int),(0:Int),(0:Int)⟩:wP)
abbrev zL6:wP:=(⟨([114,117,110]:List Int),false,true,false,false,(0:Int),(63:Int),(0:Int),(0:Int)⟩:wP)
abbrev zL7:wP:=(⟨([109,97,114,107]:List Int),true,false,false,false,(0:Int),(0:Int),(0:Int),(0:Int)⟩:wP)
abbrev zL8:wP:=(⟨([98,101,103,105,110]:List Int),true,false,false,false,(0:Int),(0:Int),(0:Int),(0:Int)⟩:wP)
abbrev zL9:wP:=(⟨([114,101,99,118]:List Int),false,true,false,false,(0:Int),(1000000000000000:Int),(0:Int),(0:Int)⟩:wP)
abbrev HQ:wP:=(⟨([115,116,111,112]:List Int),false,true,true,false,(0:Int),(3:Int),(0:Int),(1000000000000000:Int)⟩:wP)
abbrev GS:wP:=(⟨([119,97,107,101]:List Int),false,true,false,false,(0:Int),(1000000000000000:Int),(0:Int),(0:Int)⟩:wP)
abbrev H4:wP:=(⟨([115,101,110,100]:List Int),false,true,false,false,(0:Int),(1000000000000000:Int),(0:Int),(0:Int)⟩:wP)
abbrev EI:wP:=(⟨([102,114,101,101]:List Int),false,true,false,false,(0:Int),(1000000000000000:Int),(0:Int),(0:Int)⟩:wP)
abbrev JI:wP:=(⟨([115,97,109,112,108,101]:List Int),false,true,false,true,(1:Int),(1000000000000:Int),(0:Int),(0:Int)⟩:wP)
abbrev HB:wP:=(⟨([97,108,108,111,99]:List Int),false,true,true,true,(0:Int),(1000000000000000:Int),(1:Int),(1000000000000:Int)⟩:wP)
abbrev HM:wP:=(⟨([99,111,117,110,116]:List Int),true,true,false,false,(-1000000000000000:Int),(1000000000000000:Int),(0:Int),(0:Int)⟩:wP)
abbrev bO:yA:=Vb 67 [.nilsl,.nilsl,.own 1 0,.own 2 0,.fm true [],Ii 0,Ii 0]
abbrev dA:yA:=Vb 89 [Ii 0,Ii 0,.str ([]:List Int),Ii 0,Ii 0,.nilsl]
abbrev qQ:yA:=Vb 31 [Ii 0,.nilsl,Ii 0,Ii 0,.bool false]
abbrev pY:yA:=Vb 26 [.own 1 0,.own 2 0,.own 3 0]
abbrev jU:yA:=Vb 54 [Ii 0,Ii 0,Ii 0,.own 1 0]
abbrev zB0 (zM:z8) (zN:zT):Bool:=(decide ((lN (zM.Data))≤(4000:Int))&&(decide (zM.Size≤(20000:Int))&&(decide ((lN (zN.Threads))≤(70:Int))&&(decide ((lN (zN.Domains))≤(10:Int))&&decide ((lN (zN.Snaps))≤(20:Int))))))
abbrev zB1 (zM:z8):Bool:=(decide (zM.Size<(1:Int))||(decide (zM.Size>(1048576:Int))||(decide ((lN (zM.Data))>zM.Size)||(decide (zM.Durable<(0:Int))||(decide (zM.Durable>(lN (zM.Data)))||(decide (zM.Left<(-1:Int))||decide (zM.Left>(1048576:Int))))))))
end Go.Ab
