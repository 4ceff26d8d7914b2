/- Printed: the typed Lean functions of the Go functions, or the proofs that the Go functions meet them. No conditions but those that the theorems name. -/
import Derived.Test.YtoeengmnmhhpgaaGreatA32
import Derived.Test.YtoeengmnmhhpgaaGreatA42
namespace Go.Ab
open Go
set_option linter.unusedVariables false
structure xO where
  Size:Int
  Data:List (Int)
  Durable:Int
  Left:Int
  Down:Bool
  deriving DecidableEq,Inhabited
def xY (s:xO):List AV:=[.int .i64 s.Size,.sl false 1 (List.map (AV.int .u8) s.Data),.int .i64 s.Durable,.int .i64 s.Left,.bool s.Down]
def qN (s:xO):AV:=.agg (xY s)
def MT (w4:Int):Option (xO×Int) :=
  (bif (decide (w4<(1:Int))||decide (w4>(1048576:Int))) then some ((⟨(0:Int),[],(0:Int),(0:Int),false⟩:xO),(2:Int)) else
  some ((⟨w4,[],(0:Int),(-1:Int),false⟩:xO),(0:Int)))
structure y7 where
  Id:Int
  Name:List Int
  Domain:Int
  deriving DecidableEq,Inhabited
def jE (s:y7):List AV:=[.int .i64 s.Id,.str s.Name,.int .i64 s.Domain]
def yD (s:y7):AV:=.agg (jE s)
structure yS where
  Id:Int
  Ppm:Int
  deriving DecidableEq,Inhabited
def AX (s:yS):List AV:=[.int .i64 s.Id,.int .i64 s.Ppm]
def z5 (s:yS):AV:=.agg (AX s)
structure CF where
  Lo:Int
  Hi:Int
  deriving DecidableEq,Inhabited
structure yU where
  A:Int
  AtA:Int
  B:Int
  AtB:CF
  deriving DecidableEq,Inhabited
def kY (s:yU):List AV:=[.int .i64 s.A,.int .i64 s.AtA,.int .i64 s.B,.int .i64 s.AtB.Lo,.int .i64 s.AtB.Hi]
def z6 (s:yU):AV:=.agg (kY s)
structure yF where
  Threads:List (y7)
  Domains:List (yS)
  Snaps:List (yU)
  deriving DecidableEq,Inhabited
def w6 (s:yF):List AV:=[.sl false 3 (List.map yD s.Threads),.sl false 2 (List.map z5 s.Domains),.sl false 5 (List.map z6 s.Snaps)]
def u7 (s:yF):AV:=.agg (w6 s)
def JX:Option yF :=
  some (⟨([(⟨(1:Int),([116,49]:List Int),(0:Int)⟩:y7)]:List y7),([(⟨(0:Int),(0:Int)⟩:yS)]:List yS),[]⟩:yF)
def mP (zN:xO):Option Int :=
  (bif (decide (zN.Size<(1:Int))||(decide (zN.Size>(1048576:Int))||(decide ((((zN.Data).length:Nat):Int)>zN.Size)||(decide (zN.Durable<(0:Int))||(decide (zN.Durable>(((zN.Data).length:Nat):Int))||(decide (zN.Left<(-1:Int))||decide (zN.Left>(1048576:Int)))))))) then some (2:Int) else
  some (0:Int))
def K3 (zI:List Int) (zB:Int):Option Int :=
  some (kE zI zB)
def aY (zI:List Int) (zB:Int):Option Int :=
  (K3 zI zB).bind fun zA =>
  some zA
def ED (zB:Int):Option Bool :=
  ((bif decide (zB≥(97:Int)) then (bif decide (zB≤(122:Int)) then (some true) else (bif decide (zB≥(65:Int)) then (bif decide (zB≤(90:Int)) then (some true) else (bif decide (zB≥(48:Int)) then (bif decide (zB≤(57:Int)) then (some true) else ((aY ([95,46,58,47,60,62,36,42,126,45]:List Int) zB).bind fun zA=>some (decide (zA≥(0:Int))))) else ((aY ([95,46,58,47,60,62,36,42,126,45]:List Int) zB).bind fun zA=>some (decide (zA≥(0:Int)))))) else (bif decide (zB≥(48:Int)) then (bif decide (zB≤(57:Int)) then (some true) else ((aY ([95,46,58,47,60,62,36,42,126,45]:List Int) zB).bind fun zA=>some (decide (zA≥(0:Int))))) else ((aY ([95,46,58,47,60,62,36,42,126,45]:List Int) zB).bind fun zA=>some (decide (zA≥(0:Int))))))) else (bif decide (zB≥(65:Int)) then (bif decide (zB≤(90:Int)) then (some true) else (bif decide (zB≥(48:Int)) then (bif decide (zB≤(57:Int)) then (some true) else ((aY ([95,46,58,47,60,62,36,42,126,45]:List Int) zB).bind fun zA=>some (decide (zA≥(0:Int))))) else ((aY ([95,46,58,47,60,62,36,42,126,45]:List Int) zB).bind fun zA=>some (decide (zA≥(0:Int)))))) else (bif decide (zB≥(48:Int)) then (bif decide (zB≤(57:Int)) then (some true) else ((aY ([95,46,58,47,60,62,36,42,126,45]:List Int) zB).bind fun zA=>some (decide (zA≥(0:Int))))) else ((aY ([95,46,58,47,60,62,36,42,126,45]:List Int) zB).bind fun zA=>some (decide (zA≥(0:Int)))))))).bind fun (zK:Bool) =>
  some zK
def H3 (F:Nat) (zI:List Int) (rec:Int→Option (Unit⊕Int)) (zM:Int):Option (Unit⊕Int) :=
  (bif decide (zM<(((zI).length:Nat):Int)) then (yZ zI zM).bind fun zB=>(ED zB).bind fun zA =>
  (bif !zA then some (.inr (3:Int)) else
  rec (zG (zM+(1:Int)))) else
  some (.inl ()))
def D2 (F:Nat) (zI:List Int):Nat→Int→Option (Unit⊕Int)
  | 0,_=>none
  | n+1,zM=>H3 F zI (D2 F zI n) zM
def cR (F:Nat) (zI:List Int):Option Int :=
  (bif ((zI==([]:List Int))||decide ((((zI).length:Nat):Int)>(40:Int))) then some (3:Int) else
  (D2 F zI F (0:Int)).bind fun (zD:Unit⊕Int) =>
  (match zD with
  | (.inl zZ) =>
  some (0:Int)
  | (.inr xD) =>
  some xD))
def DU (F:Nat) (tE:y7):Option Int :=
  (bif (decide (tE.Id<(0:Int))||(decide (tE.Id>(1000000000000000:Int))||(decide (tE.Domain<(0:Int))||decide (tE.Domain≥(8:Int))))) then some (2:Int) else
  (cR F tE.Name).bind fun zA =>
  some zA)
def MG (zH:yS) (yJ:Int):Option Bool :=
  some (zH.Id==yJ)
def oL (F:Nat) (zI:List (yS)) (zB:Int) (rec:Int→Option (Unit⊕Int)) (zM:Int):Option (Unit⊕Int) :=
  (bif decide (zM<(((zI).length:Nat):Int)) then (yZ zI zM).bind fun zH=>(MG zH zB).bind fun zA =>
  (bif zA then some (.inr zM) else
  rec (zG (zM+(1:Int)))) else
  some (.inl ()))
def HH (F:Nat) (zI:List (yS)) (zB:Int):Nat→Int→Option (Unit⊕Int)
  | 0,_=>none
  | n+1,zM=>oL F zI zB (HH F zI zB n) zM
def DH (F:Nat) (zI:List (yS)) (zB:Int):Option Int :=
  (HH F zI zB F (0:Int)).bind fun (zD:Unit⊕Int) =>
  (match zD with
  | (.inl zZ) =>
  some (-1:Int)
  | (.inr xD) =>
  some xD)
def lV (F:Nat) (zN:List (yS)) (t4:Int):Option Int :=
  (DH F zN t4).bind fun zA =>
  some zA
def m6 (F:Nat) (zN:List (yS)) (rec:Int→Option (Unit⊕Int)) (zM:Int):Option (Unit⊕Int) :=
  (bif decide (zM<(((zN).length:Nat):Int)) then (yZ zN zM).bind fun zH =>
  (bif (decide (zH.Id<(0:Int))||(decide (zH.Id≥(8:Int))||(decide (zH.Ppm<(0:Int))||decide (zH.Ppm>(10000:Int))))) then some (.inr (2:Int)) else
  (need ((0:Int)≤zM∧zM≤(((zN).length:Nat):Int))).bind fun _=>(lV F (sub zN (0:Int) zM) zH.Id).bind fun zA =>
  (bif decide (zA≥(0:Int)) then some (.inr (4:Int)) else
  rec (zG (zM+(1:Int))))) else
  some (.inl ()))
def GK (F:Nat) (zN:List (yS)):Nat→Int→Option (Unit⊕Int)
  | 0,_=>none
  | n+1,zM=>m6 F zN (GK F zN n) zM
def GH (F:Nat) (zN:List (yS)):Option Int :=
  (GK F zN F (0:Int)).bind fun (zD:Unit⊕Int) =>
  (match zD with
  | (.inl zZ) =>
  some (0:Int)
  | (.inr xD) =>
  some xD)
def r5 (z7:Int):Option Bool :=
  some (decide (z7≥(0:Int))&&decide (z7≤(1000000000000:Int)))
def DY (F:Nat) (zN:List (yS)) (zH:yU):Option Int :=
  (lV F zN zH.A).bind fun zA =>
  (((bif decide (zA<(0:Int)) then some (decide (zA<(0:Int))) else
  (lV F zN zH.B).bind fun zC =>
  some (decide (zC<(0:Int)))):Option Bool)).bind fun (zD:Bool) =>
  (bif zD then some (5:Int) else
  (bif (zH.A==zH.B) then some (1:Int) else
  (r5 zH.AtA).bind fun zJ =>
  (bif !zJ then some (2:Int) else
  (r5 zH.AtB.Lo).bind fun zS =>
  (bif !zS then some (2:Int) else
  (r5 zH.AtB.Hi).bind fun zV =>
  (bif !zV then some (2:Int) else
  (bif decide (zH.AtB.Lo>zH.AtB.Hi) then some (2:Int) else
  some (0:Int)))))))
def m5 (F:Nat) (zN:List (yS)) (zO:List (yU)) (rec:Int→Option (Unit⊕Int)) (zM:Int):Option (Unit⊕Int) :=
  (bif decide (zM<(((zO).length:Nat):Int)) then (yZ zO zM).bind fun yH =>
  (DY F zN yH).bind fun zC =>
  (bif (zC != (0:Int)) then some (.inr zC) else
  rec (zG (zM+(1:Int)))) else
  some (.inl ()))
def D0 (F:Nat) (zN:List (yS)) (zO:List (yU)):Nat→Int→Option (Unit⊕Int)
  | 0,_=>none
  | n+1,zM=>m5 F zN zO (D0 F zN zO n) zM
def lP (F:Nat) (zN:List (yS)) (zO:List (yU)):Option Int :=
  (bif ((((zN).length:Nat):Int)==(0:Int)) then some (8:Int) else
  (bif (decide ((((zN).length:Nat):Int)>(8:Int))||decide ((((zO).length:Nat):Int)>(200:Int))) then some (7:Int) else
  (yZ zN (0:Int)).bind fun zH =>
  (bif (!(decide (zH=(⟨(0:Int),(0:Int)⟩:yS)))) then some (10:Int) else
  (GH F zN).bind fun zA =>
  (bif (zA != (0:Int)) then some zA else
  (D0 F zN zO F (0:Int)).bind fun (zD:Unit⊕Int) =>
  (match zD with
  | (.inl zZ) =>
  some (0:Int)
  | (.inr xD) =>
  some xD)))))
def J0 (zN:yS) (yJ:y7):Option Bool :=
  some (zN.Id==yJ.Domain)
def mF (F:Nat) (zI:List (yS)) (zB:y7) (rec:Int→Option (Unit⊕Int)) (zM:Int):Option (Unit⊕Int) :=
  (bif decide (zM<(((zI).length:Nat):Int)) then (yZ zI zM).bind fun zH=>(J0 zH zB).bind fun zA =>
  (bif zA then some (.inr zM) else
  rec (zG (zM+(1:Int)))) else
  some (.inl ()))
def GB (F:Nat) (zI:List (yS)) (zB:y7):Nat→Int→Option (Unit⊕Int)
  | 0,_=>none
  | n+1,zM=>mF F zI zB (GB F zI zB n) zM
def C6 (F:Nat) (zI:List (yS)) (zB:y7):Option Int :=
  (GB F zI zB F (0:Int)).bind fun (zD:Unit⊕Int) =>
  (match zD with
  | (.inl zZ) =>
  some (-1:Int)
  | (.inr xD) =>
  some xD)
def KL (F:Nat) (zI:List (yS)) (zB:y7):Option Bool :=
  (C6 F zI zB).bind fun zA =>
  some (decide (zA≥(0:Int)))
def GF (F:Nat) (zL:yF) (rec:Int→(List (Int×Bool))→Option (Unit⊕Int)) (zM:Int) (zF:List (Int×Bool)):Option (Unit⊕Int) :=
  (bif decide (zM<(((zL.Threads).length:Nat):Int)) then (yZ zL.Threads zM).bind fun zH =>
  (DU F zH).bind fun zA =>
  (bif (zA != (0:Int)) then some (.inr zA) else
  (bif ((uN zF zH.Id).getD false) then some (.inr (4:Int)) else
  (need ((zF).length<140737488355328)).bind fun _ =>
  rec (zG (zM+(1:Int))) (wS zF zH.Id true))) else
  some (.inl ()))
def rW (F:Nat) (zL:yF):Nat→Int→(List (Int×Bool))→Option (Unit⊕Int)
  | 0,_,_=>none
  | n+1,zM,zF=>GF F zL (rW F zL n) zM zF
def oA (F:Nat) (zL:yF) (rec:Int→Option (Unit⊕Int)) (wK:Int):Option (Unit⊕Int) :=
  (bif decide (wK<(((zL.Threads).length:Nat):Int)) then (yZ zL.Threads wK).bind fun yH =>
  (KL F zL.Domains yH).bind fun zJ =>
  (bif !zJ then some (.inr (5:Int)) else
  rec (zG (wK+(1:Int)))) else
  some (.inl ()))
def oX (F:Nat) (zL:yF):Nat→Int→Option (Unit⊕Int)
  | 0,_=>none
  | n+1,wK=>oA F zL (oX F zL n) wK
def oF (F:Nat) (zL:yF):Option Int :=
  (bif ((((zL.Threads).length:Nat):Int)==(0:Int)) then some (8:Int) else
  (bif decide ((((zL.Threads).length:Nat):Int)>(64:Int)) then some (7:Int) else
  (rW F zL F (0:Int) []).bind fun (zD:Unit⊕Int) =>
  (match zD with
  | (.inl zZ) =>
  (lP F zL.Domains zL.Snaps).bind fun zC =>
  (bif (zC != (0:Int)) then some zC else
  (oX F zL F (0:Int)).bind fun (zR:Unit⊕Int) =>
  (match zR with
  | (.inl vG) =>
  some (0:Int)
  | (.inr t5) =>
  some t5))
  | (.inr xD) =>
  some xD)))
def H4 (z7:Int):Option Int :=
  some (tJ .u64 (pX .u64 (vU z7) (1:Int)) (vU (jC .i64 z7 (63:Int))))
def oH (F:Nat) (rec:Int→Int→(List Int)→Option (Int×(List Int))) (w4:Int) (x5:Int) (zF:List Int):Option (Int×(List Int)) :=
  (need ((0:Int)≤w4∧w4<((10:Nat):Int))).bind fun _=>((zF)[(w4).toNat]?).bind fun zH =>
  (bif decide (x5<(128:Int)) then some (zG (w4+(1:Int)),(zF).set ((w4).toNat) (vJ (tK .u64 x5 (127:Int)))) else
  (need ((0:Int)≤(zG ((zG (w4+(1:Int))) - (1:Int)))∧(zG ((zG (w4+(1:Int))) - (1:Int)))<((10:Nat):Int))).bind fun _=>(((zF).set ((w4).toNat) (vJ (tK .u64 x5 (127:Int))))[(zG ((zG (w4+(1:Int))) - (1:Int))).toNat]?).bind fun yH=>(need ((0:Int)≤(zG ((zG (w4+(1:Int))) - (1:Int)))∧(zG ((zG (w4+(1:Int))) - (1:Int)))<((10:Nat):Int))).bind fun _=>(((zF).set ((w4).toNat) (vJ (tK .u64 x5 (127:Int))))[(zG ((zG (w4+(1:Int))) - (1:Int))).toNat]?).bind fun xA =>
  rec (zG (w4+(1:Int))) (jC .u64 x5 (7:Int)) (((zF).set ((w4).toNat) (vJ (tK .u64 x5 (127:Int)))).set ((zG ((zG (w4+(1:Int))) - (1:Int))).toNat) (ior .u8 yH (128:Int))))
def fZ (F:Nat):Nat→Int→Int→(List Int)→Option (Int×(List Int))
  | 0,_,_,_=>none
  | n+1,w4,x5,zF=>oH F (fZ F n) w4 x5 zF
def qD (F:Nat) (zE:List (Int)) (z7:Int):Option (List (Int)) :=
  (H4 z7).bind fun zA =>
  (fZ F F (0:Int) zA (List.replicate 10 (0:Int))).bind fun (zD:(Int×(List Int))) =>
  (need ((0:Int)≤zD.1∧zD.1≤((10:Nat):Int)∧10≤(zD.2).length)).bind fun _=>(need (0≤((zD.1).toNat)∧((zD.1).toNat)≤(zD.2).length)).bind fun _=>(need (((sub zE (0:Int) (((zE).length:Nat):Int)).length+(((zD.2).take ((zD.1).toNat)).drop 0).length) * 1≤140737488355328)).bind fun _=>(need (0<(((zD.2).take ((zD.1).toNat)).drop 0).length∨(sub zE (0:Int) (((zE).length:Nat):Int)).length=0)).bind fun _ =>
  some ((sub zE (0:Int) (((zE).length:Nat):Int))++(((zD.2).take ((zD.1).toNat)).drop 0))
def A1 (F:Nat) (zE:List (Int)) (zI:List Int):Option (List (Int)) :=
  (qD F zE (((zI).length:Nat):Int)).bind fun zA =>
  (need ((0:Int)≤(zG ((((zA).length:Nat):Int)+(((zI).length:Nat):Int)))∧((zG ((((zA).length:Nat):Int)+(((zI).length:Nat):Int))).toNat) * 1≤281474976710656)).bind fun _ =>
  (need (0≤((zG ((((zA).length:Nat):Int)+(((zI).length:Nat):Int))).toNat)∧((zG ((((zA).length:Nat):Int)+(((zI).length:Nat):Int))).toNat)≤((List.replicate ((zG ((((zA).length:Nat):Int)+(((zI).length:Nat):Int))).toNat) (0:Int))).length)).bind fun _ =>
  (need ((((zA).length:Nat):Int)≤(((zG ((((zA).length:Nat):Int)+(((zI).length:Nat):Int))).toNat:Nat):Int))).bind fun _=>(need (((zA).length)≤((zG ((((zA).length:Nat):Int)+(((zI).length:Nat):Int))).toNat)∧((zG ((((zA).length:Nat):Int)+(((zI).length:Nat):Int))).toNat)≤((cpy (List.replicate ((zG ((((zA).length:Nat):Int)+(((zI).length:Nat):Int))).toNat) (0:Int)) 0 ((zG ((((zA).length:Nat):Int)+(((zI).length:Nat):Int))).toNat) zA)).length)).bind fun _ =>
  some (cpy (cpy (List.replicate ((zG ((((zA).length:Nat):Int)+(((zI).length:Nat):Int))).toNat) (0:Int)) 0 ((zG ((((zA).length:Nat):Int)+(((zI).length:Nat):Int))).toNat) zA) ((zA).length) ((zG ((((zA).length:Nat):Int)+(((zI).length:Nat):Int))).toNat) zI)
def mE (F:Nat) (zI:yU) (rec:(List Int)→Int→Option (List Int)) (cM:List Int) (zM:Int):Option (List Int) :=
  (bif decide (zM<((5:Nat):Int)) then (yZ ([zI.A,zI.AtA,zI.B,zI.AtB.Lo,zI.AtB.Hi]:List Int) zM).bind fun zH =>
  (qD F cM zH).bind fun zA =>
  rec zA (zG (zM+(1:Int))) else
  some cM)
def lX (F:Nat) (zI:yU):Nat→(List Int)→Int→Option (List Int)
  | 0,_,_=>none
  | n+1,cM,zM=>mE F zI (lX F zI n) cM zM
def oJ (F:Nat) (zE:List (Int)) (zI:yU):Option (List (Int)) :=
  (lX F zI F zE (0:Int)).bind fun (zD:(List Int)) =>
  some zD
def JB (F:Nat) (zL:yF) (rec:Int→(List Int)→Option (List Int)) (zM:Int) (zF:List Int):Option (List Int) :=
  (bif decide (zM<(((zL.Threads).length:Nat):Int)) then (yZ zL.Threads zM).bind fun zH =>
  (qD F zF zH.Id).bind fun zC=>(A1 F zC zH.Name).bind fun zJ=>(qD F zJ zH.Domain).bind fun zS =>
  rec (zG (zM+(1:Int))) zS else
  some zF)
def mO (F:Nat) (zL:yF):Nat→Int→(List Int)→Option (List Int)
  | 0,_,_=>none
  | n+1,zM,zF=>JB F zL (mO F zL n) zM zF
def H7 (F:Nat) (zL:yF) (rec:Int→(List Int)→Option (List Int)) (wK:Int) (zY:List Int):Option (List Int) :=
  (bif decide (wK<(((zL.Domains).length:Nat):Int)) then (yZ zL.Domains wK).bind fun yH =>
  (qD F zY yH.Id).bind fun yA=>(qD F yA yH.Ppm).bind fun yV =>
  rec (zG (wK+(1:Int))) yV else
  some zY)
def AI (F:Nat) (zL:yF):Nat→Int→(List Int)→Option (List Int)
  | 0,_,_=>none
  | n+1,wK,zY=>H7 F zL (AI F zL n) wK zY
def ES (F:Nat) (zL:yF) (rec:(List Int)→Int→Option (List Int)) (zE:List Int) (vI:Int):Option (List Int) :=
  (bif decide (vI<(((zL.Snaps).length:Nat):Int)) then (yZ zL.Snaps vI).bind fun xA =>
  (oJ F zE xA).bind fun yO =>
  rec yO (zG (vI+(1:Int))) else
  some zE)
def AR (F:Nat) (zL:yF):Nat→(List Int)→Int→Option (List Int)
  | 0,_,_=>none
  | n+1,zE,vI=>ES F zL (AR F zL n) zE vI
def AK (F:Nat) (zL:yF):Option (List (Int)) :=
  (qD F [] (((zL.Threads).length:Nat):Int)).bind fun zA =>
  (mO F zL F (0:Int) zA).bind fun (zD:(List Int)) =>
  (qD F zD (((zL.Domains).length:Nat):Int)).bind fun zV =>
  (AI F zL F (0:Int) zV).bind fun (zR:(List Int)) =>
  (qD F zR (((zL.Snaps).length:Nat):Int)).bind fun yI =>
  (AR F zL F yI (0:Int)).bind fun (yL:(List Int)) =>
  some yL
def m3 (F:Nat) (rec:Int→Int→Option Int) (xA:Int) (wK:Int):Option Int :=
  (bif decide (wK<(8:Int)) then (bif ((tK .u32 xA (1:Int))==(1:Int)) then rec (tJ .u32 (jC .u32 xA (1:Int)) (3988292384:Int)) (zG (wK+(1:Int))) else
  rec (jC .u32 xA (1:Int)) (zG (wK+(1:Int)))) else
  some xA)
def d9 (F:Nat):Nat→Int→Int→Option Int
  | 0,_,_=>none
  | n+1,xA,wK=>m3 F (d9 F n) xA wK
def H9 (F:Nat) (zE:List (Int)) (rec:Int→Int→Option Int) (zH:Int) (zM:Int):Option Int :=
  (bif decide (zM<(((zE).length:Nat):Int)) then (yZ zE zM).bind fun yH =>
  (d9 F F (tJ .u32 zH (gI yH)) (0:Int)).bind fun (zR:Int) =>
  rec zR (zG (zM+(1:Int))) else
  some zH)
def oO (F:Nat) (zE:List (Int)):Nat→Int→Int→Option Int
  | 0,_,_=>none
  | n+1,zH,zM=>H9 F zE (oO F zE n) zH zM
def EG (F:Nat) (zE:List (Int)):Option Int :=
  (oO F zE F (4294967295:Int) (0:Int)).bind fun (zD:Int) =>
  some (zG (tJ .u32 (4294967295:Int) zD))
def rU (F:Nat) (jB:Int) (zE:List (Int)):Option Int :=
  (need (((([jB]:List Int)).length+(zE).length) * 1≤140737488355328)).bind fun _=>(EG F (([jB]:List Int)++zE)).bind fun zA =>
  some zA
def i9 (F:Nat) (jB:Int) (zE:List (Int)):Option (List (Int)) :=
  (qD F ([jB]:List Int) (((zE).length:Nat):Int)).bind fun zA =>
  (rU F jB zE).bind fun zC=>(qD F zA zC).bind fun zJ=>(need (((zJ).length+(zE).length) * 1≤140737488355328)).bind fun _ =>
  some (zJ++zE)
def MO (zI:List (Int)):Option (List (Int)) :=
  (need (((([]:List Int)).length+(zI).length) * 1≤140737488355328)).bind fun _ =>
  some ([]++zI)
def fI (zN:xO):Option (xO×Int) :=
  (mP zN).bind fun zA =>
  (bif (zA != (0:Int)) then some ((⟨(0:Int),[],(0:Int),(0:Int),false⟩:xO),zA) else
  (bif zN.Down then some (zN,(19:Int)) else
  (MO zN.Data).bind fun zC =>
  some ((⟨zN.Size,zC,zN.Durable,zN.Left,zN.Down⟩:xO),(0:Int))))
def QX (zN:xO) (zE:List (Int)):Option (xO×Int) :=
  (fI zN).bind fun zA =>
  (bif (zA.2 != (0:Int)) then some (zA.1,zA.2) else
  (bif decide ((zG ((((zA.1.Data).length:Nat):Int)+(((zE).length:Nat):Int)))>zA.1.Size) then some ((⟨(0:Int),[],(0:Int),(0:Int),false⟩:xO),(6:Int)) else
  (bif (decide (zA.1.Left≥(0:Int))&&decide (zA.1.Left<(((zE).length:Nat):Int))) then (need ((0:Int)≤zA.1.Left∧zA.1.Left≤(((zE).length:Nat):Int))).bind fun _=>(need (((zA.1.Data).length+(sub zE (0:Int) zA.1.Left).length) * 1≤140737488355328)).bind fun _ =>
  some ((⟨zA.1.Size,(zA.1.Data++(sub zE (0:Int) zA.1.Left)),zA.1.Durable,(0:Int),true⟩:xO),(19:Int)) else
  (need (((zA.1.Data).length+(zE).length) * 1≤140737488355328)).bind fun _ =>
  (bif decide (zA.1.Left≥(0:Int)) then some ((⟨zA.1.Size,(zA.1.Data++zE),zA.1.Durable,zG (zA.1.Left - (((zE).length:Nat):Int)),zA.1.Down⟩:xO),(0:Int)) else
  some ((⟨zA.1.Size,(zA.1.Data++zE),zA.1.Durable,zA.1.Left,zA.1.Down⟩:xO),(0:Int))))))
def J4 (zN:xO):Option (xO×Int) :=
  (fI zN).bind fun zA =>
  (bif (zA.2 != (0:Int)) then some (zA.1,zA.2) else
  (bif (zA.1.Left==(0:Int)) then some ((⟨zA.1.Size,zA.1.Data,zA.1.Durable,zA.1.Left,true⟩:xO),(19:Int)) else
  some ((⟨zA.1.Size,zA.1.Data,(((zA.1.Data).length:Nat):Int),zA.1.Left,zA.1.Down⟩:xO),(0:Int))))
def QV (F:Nat) (jQ:List (List (Int))) (rec:Int→Int→(List Int)→Int→Int→Bool→Option ((Int×(List Int)×Int×Int×Bool)⊕(xO×Int))) (zM:Int) (zB:Int) (y5:List Int) (y6:Int) (yX:Int) (xB:Bool):Option ((Int×(List Int)×Int×Int×Bool)⊕(xO×Int)) :=
  (bif decide (zM<(((jQ).length:Nat):Int)) then (yZ jQ zM).bind fun zH =>
  (QX (⟨zB,y5,y6,yX,xB⟩:xO) zH).bind fun zA =>
  (bif (zA.2 != (0:Int)) then some (.inr (zA.1,zA.2)) else
  rec (zG (zM+(1:Int))) zA.1.Size zA.1.Data zA.1.Durable zA.1.Left zA.1.Down) else
  some (.inl (zB,y5,y6,yX,xB)))
def K7 (F:Nat) (jQ:List (List (Int))):Nat→Int→Int→(List Int)→Int→Int→Bool→Option ((Int×(List Int)×Int×Int×Bool)⊕(xO×Int))
  | 0,_,_,_,_,_,_=>none
  | n+1,zM,zB,y5,y6,yX,xB=>QV F jQ (K7 F jQ n) zM zB y5 y6 yX xB
def MP (F:Nat) (zN:xO) (jQ:List (List (Int))):Option (xO×Int) :=
  (K7 F jQ F (0:Int) zN.Size zN.Data zN.Durable zN.Left zN.Down).bind fun (zD:(Int×(List Int)×Int×Int×Bool)⊕(xO×Int)) =>
  (match zD with
  | (.inl zZ) =>
  (J4 (⟨zZ.1,zZ.2.1,zZ.2.2.1,zZ.2.2.2.1,zZ.2.2.2.2⟩:xO)).bind fun zC =>
  some (zC.1,zC.2)
  | (.inr xD) =>
  some xD)
def SB (F:Nat) (zN:xO) (zL:yF):Option (xO×Int) :=
  (mP zN).bind fun zA =>
  (bif (zA != (0:Int)) then some ((⟨(0:Int),[],(0:Int),(0:Int),false⟩:xO),zA) else
  (bif decide ((((zN.Data).length:Nat):Int)>(0:Int)) then some ((⟨(0:Int),[],(0:Int),(0:Int),false⟩:xO),(18:Int)) else
  (oF F zL).bind fun zC =>
  (bif (zC != (0:Int)) then some ((⟨(0:Int),[],(0:Int),(0:Int),false⟩:xO),zC) else
  (AK F zL).bind fun zJ=>(i9 F (72:Int) zJ).bind fun zS=>(MP F zN ([zS]:List (List (Int)))).bind fun zV =>
  some (zV.1,zV.2))))
def HY (x5:Int):Option Int :=
  some (tJ .i64 (zG (jC .u64 x5 (1:Int))) (zG (0 - (zG (tK .u64 x5 (1:Int))))))
def CQ (F:Nat) (zE:List (Int)) (rec:Int→Int→Option (Unit⊕(Int×Int×Int))) (x5:Int) (zM:Int):Option (Unit⊕(Int×Int×Int)) :=
  (bif decide (zM<(((zE).length:Nat):Int)) then (yZ zE zM).bind fun zH =>
  (bif ((zM==(9:Int))&&decide (zH>(1:Int))) then some (.inr ((0:Int),(0:Int),(10:Int))) else
  (need ((0:Int)≤(zG ((7:Int) * zM)))).bind fun _ =>
  (bif decide (zH≥(128:Int)) then rec (ior .u64 x5 (pX .u64 (vU (tK .u8 zH (127:Int))) (zG ((7:Int) * zM)))) (zG (zM+(1:Int))) else
  (bif ((zH==(0:Int))&&decide (zM>(0:Int))) then some (.inr ((0:Int),(0:Int),(10:Int))) else
  (HY (ior .u64 x5 (pX .u64 (vU (tK .u8 zH (127:Int))) (zG ((7:Int) * zM))))).bind fun zA =>
  some (.inr (zA,zG (zM+(1:Int)),(0:Int)))))) else
  some (.inl ()))
def mK (F:Nat) (zE:List (Int)):Nat→Int→Int→Option (Unit⊕(Int×Int×Int))
  | 0,_,_=>none
  | n+1,x5,zM=>CQ F zE (mK F zE n) x5 zM
def cI (F:Nat) (zE:List (Int)):Option (Int×Int×Int) :=
  (mK F zE F (0:Int) (0:Int)).bind fun (zD:Unit⊕(Int×Int×Int)) =>
  (match zD with
  | (.inl zZ) =>
  some ((0:Int),(0:Int),(8:Int))
  | (.inr xD) =>
  some xD)
def rS (F:Nat) (zE:List (Int)):Option (Int×(List (Int))×Int) :=
  (bif ((((zE).length:Nat):Int)==(0:Int)) then some ((0:Int),[],(0:Int)) else
  (need ((1:Int)≤(((zE).length:Nat):Int))).bind fun _=>(cI F (sub zE (1:Int) (((zE).length:Nat):Int))).bind fun zA =>
  (bif (zA.2.2 != (0:Int)) then some ((0:Int),[],(0:Int)) else
  (need ((0:Int)≤(zG ((1:Int)+zA.2.1))∧(zG ((1:Int)+zA.2.1))≤(((zE).length:Nat):Int))).bind fun _=>(cI F (sub zE (zG ((1:Int)+zA.2.1)) (((zE).length:Nat):Int))).bind fun zC =>
  (bif ((zC.2.2 != (0:Int))||(decide (zA.1<(0:Int))||decide (zA.1>(zG ((((zE).length:Nat):Int) - (zG ((zG ((1:Int)+zA.2.1))+zC.2.1))))))) then some ((0:Int),[],(0:Int)) else
  (need ((0:Int)≤(zG ((zG ((1:Int)+zA.2.1))+zC.2.1))∧(zG ((zG ((1:Int)+zA.2.1))+zC.2.1))≤(zG ((zG ((zG ((1:Int)+zA.2.1))+zC.2.1))+zA.1))∧(zG ((zG ((zG ((1:Int)+zA.2.1))+zC.2.1))+zA.1))≤(((zE).length:Nat):Int))).bind fun _ =>
  (yZ zE (0:Int)).bind fun zH=>(rU F zH (sub zE (zG ((zG ((1:Int)+zA.2.1))+zC.2.1)) (zG ((zG ((zG ((1:Int)+zA.2.1))+zC.2.1))+zA.1)))).bind fun zJ =>
  (bif (zJ != zC.1) then some ((0:Int),[],(0:Int)) else
  (yZ zE (0:Int)).bind fun yH =>
  some (yH,sub zE (zG ((zG ((1:Int)+zA.2.1))+zC.2.1)) (zG ((zG ((zG ((1:Int)+zA.2.1))+zC.2.1))+zA.1)),zG ((zG ((zG ((1:Int)+zA.2.1))+zC.2.1))+zA.1))))))
structure v4 where
  b:List (Int)
  bad:Bool
  deriving DecidableEq,Inhabited
def tY (s:v4):List AV:=[.sl false 1 (List.map (AV.int .u8) s.b),.bool s.bad]
def nL (F:Nat) (zI:v4):Option (Int×v4) :=
  (cI F zI.b).bind fun zA =>
  (bif (zA.2.2 != (0:Int)) then some ((0:Int),(⟨[],true⟩:v4)) else
  (need ((0:Int)≤zA.2.1∧zA.2.1≤(((zI.b).length:Nat):Int))).bind fun _ =>
  some (zA.1,(⟨sub zI.b zA.2.1 (((zI.b).length:Nat):Int),zI.bad⟩:v4)))
def lD (F:Nat) (zI:v4) (tA:Int):Option (Int×v4) :=
  (nL F zI).bind fun zA =>
  (bif (decide (zA.1<(0:Int))||decide (zA.1>tA)) then some ((0:Int),(⟨zA.2.b,true⟩:v4)) else
  some (zA.1,zA.2))
def mT (F:Nat) (zE:List (Int)) (tA:Int):Option ((List Int)×Int×Int) :=
  (cI F zE).bind fun zA =>
  (bif (zA.2.2 != (0:Int)) then some (([]:List Int),(0:Int),zA.2.2) else
  (bif decide (zA.1<(0:Int)) then some (([]:List Int),(0:Int),(10:Int)) else
  (bif decide (zA.1>tA) then some (([]:List Int),(0:Int),(7:Int)) else
  (bif decide (zA.1>(zG ((((zE).length:Nat):Int) - zA.2.1))) then some (([]:List Int),(0:Int),(8:Int)) else
  (need ((0:Int)≤zA.2.1∧zA.2.1≤(zG (zA.2.1+zA.1))∧(zG (zA.2.1+zA.1))≤(((zE).length:Nat):Int))).bind fun _ =>
  some (sub zE zA.2.1 (zG (zA.2.1+zA.1)),zG (zA.2.1+zA.1),(0:Int))))))
def HM (F:Nat) (zI:v4):Option ((List Int)×v4) :=
  (mT F zI.b (40:Int)).bind fun zA =>
  (bif (zA.2.2 != (0:Int)) then some (([]:List Int),(⟨[],true⟩:v4)) else
  (need ((0:Int)≤zA.2.1∧zA.2.1≤(((zI.b).length:Nat):Int))).bind fun _ =>
  some (zA.1,(⟨sub zI.b zA.2.1 (((zI.b).length:Nat):Int),zI.bad⟩:v4)))
def AT (F:Nat) (zI:v4):Option (yU×v4) :=
  (nL F zI).bind fun zA=>(nL F zA.2).bind fun zC=>(nL F zC.2).bind fun zJ =>
  (nL F zJ.2).bind fun zS =>
  (nL F zS.2).bind fun zV =>
  some ((⟨zA.1,zC.1,zJ.1,(⟨zS.1,zV.1⟩:CF)⟩:yU),zV.2)
def dD (yJ:List (Int)) (zE:List (Int)):Option Bool :=
  some (yJ==zE)
def iI (F:Nat) (zA:Int×v4) (rec:Int→(List Int)→Bool→(List y7)→Option ((List Int)×Bool×(List y7))) (zM:Int) (zB:List Int) (y5:Bool) (zF:List y7):Option ((List Int)×Bool×(List y7)) :=
  (bif decide (zM<zA.1) then (nL F (⟨zB,y5⟩:v4)).bind fun zC=>(HM F zC.2).bind fun zJ =>
  (nL F zJ.2).bind fun zS=>(need (((zF).length+(([(⟨zC.1,zJ.1,zS.1⟩:y7)]:List y7)).length) * 32≤140737488355328)).bind fun _ =>
  rec (zG (zM+(1:Int))) zS.2.b zS.2.bad (zF++([(⟨zC.1,zJ.1,zS.1⟩:y7)]:List y7)) else
  some (zB,y5,zF))
def rF (F:Nat) (zA:Int×v4):Nat→Int→(List Int)→Bool→(List y7)→Option ((List Int)×Bool×(List y7))
  | 0,_,_,_,_=>none
  | n+1,zM,zB,y5,zF=>iI F zA (rF F zA n) zM zB y5 zF
def mA (F:Nat) (zV:Int×v4) (rec:Int→(List Int)→Bool→(List yS)→Option ((List Int)×Bool×(List yS))) (wK:Int) (y6:List Int) (yX:Bool) (zY:List yS):Option ((List Int)×Bool×(List yS)) :=
  (bif decide (wK<zV.1) then (nL F (⟨y6,yX⟩:v4)).bind fun yA =>
  (nL F yA.2).bind fun yV=>(need (((zY).length+(([(⟨yA.1,yV.1⟩:yS)]:List yS)).length) * 16≤140737488355328)).bind fun _ =>
  rec (zG (wK+(1:Int))) yV.2.b yV.2.bad (zY++([(⟨yA.1,yV.1⟩:yS)]:List yS)) else
  some (y6,yX,zY))
def BS (F:Nat) (zV:Int×v4):Nat→Int→(List Int)→Bool→(List yS)→Option ((List Int)×Bool×(List yS))
  | 0,_,_,_,_=>none
  | n+1,wK,y6,yX,zY=>mA F zV (BS F zV n) wK y6 yX zY
def lI (F:Nat) (yI:Int×v4) (rec:Int→(List Int)→Bool→(List yU)→Option ((List Int)×Bool×(List yU))) (vI:Int) (xB:List Int) (xE:Bool) (yG:List yU):Option ((List Int)×Bool×(List yU)) :=
  (bif decide (vI<yI.1) then (AT F (⟨xB,xE⟩:v4)).bind fun yO=>(need (((yG).length+(([yO.1]:List yU)).length) * 40≤140737488355328)).bind fun _ =>
  rec (zG (vI+(1:Int))) yO.2.b yO.2.bad (yG++([yO.1]:List yU)) else
  some (xB,xE,yG))
def B3 (F:Nat) (yI:Int×v4):Nat→Int→(List Int)→Bool→(List yU)→Option ((List Int)×Bool×(List yU))
  | 0,_,_,_,_=>none
  | n+1,vI,xB,xE,yG=>lI F yI (B3 F yI n) vI xB xE yG
def HI (F:Nat) (zE:List (Int)):Option (yF×Bool) :=
  (lD F (⟨zE,false⟩:v4) (64:Int)).bind fun zA =>
  (rF F zA F (0:Int) zA.2.b zA.2.bad []).bind fun (zD:((List Int)×Bool×(List y7))) =>
  (lD F (⟨zD.1,zD.2.1⟩:v4) (8:Int)).bind fun zV =>
  (BS F zV F (0:Int) zV.2.b zV.2.bad []).bind fun (zR:((List Int)×Bool×(List yS))) =>
  (lD F (⟨zR.1,zR.2.1⟩:v4) (200:Int)).bind fun yI =>
  (B3 F yI F (0:Int) yI.2.b yI.2.bad []).bind fun (yL:((List Int)×Bool×(List yU))) =>
  ((bif !yL.2.1 then ((AK F (⟨zD.2.2,zR.2.2,yL.2.2⟩:yF)).bind fun xL=>(dD xL zE).bind fun wN=>some wN) else (some false))).bind fun (zK:Bool) =>
  some ((⟨zD.2.2,zR.2.2,yL.2.2⟩:yF),zK)
structure wJ where
  next:Int
  last:Int
  deriving DecidableEq,Inhabited
def XN (s:wJ):List AV:=[.int .i64 s.next,.int .i64 s.last]
def xM (s:wJ):AV:=.agg (XN s)
structure yW where
  At:Int
  Kind:Int
  Name:List Int
  N:Int
  M:Int
  Stack:List (List Int)
  deriving DecidableEq,Inhabited
def uQ (s:yW):List AV:=[.int .i64 s.At,.int .i64 s.Kind,.str s.Name,.int .i64 s.N,.int .i64 s.M,.sl false 1 (List.map AV.str s.Stack)]
def xN (s:yW):AV:=.agg (uQ s)
structure z8 where
  Thread:Int
  Serial:Int
  Lost:Int
  Events:List (yW)
  deriving DecidableEq,Inhabited
def wG (s:z8):List AV:=[.int .i64 s.Thread,.int .i64 s.Serial,.int .i64 s.Lost,.sl false 6 (List.map xN s.Events)]
def z9 (s:z8):AV:=.agg (wG s)
structure y8 where
  head:yF
  packets:List (z8)
  ends:Option (List (Int×wJ))
  events:Int
  deriving DecidableEq,Inhabited
structure wQ where
  done:y8
  used:Int
  deriving DecidableEq,Inhabited
def LS (zI:List (z8)):Option (List (z8)) :=
  (need (((([]:List z8)).length+(zI).length) * 48≤140737488355328)).bind fun _ =>
  some ([]++zI)
def DZ (zI:List (yU)):Option (List (yU)) :=
  (need (((([]:List yU)).length+(zI).length) * 40≤140737488355328)).bind fun _ =>
  some ([]++zI)
def AH (zB:y8):Option y8 :=
  (LS zB.packets).bind fun zA =>
  (DZ zB.head.Snaps).bind fun zC =>
  some (⟨(⟨zB.head.Threads,zB.head.Domains,zC⟩:yF),zA,zB.ends,zB.events⟩:y8)
def HG (F:Nat) (zE:List (Int)):Option (yU×Bool) :=
  (AT F (⟨zE,false⟩:v4)).bind fun zA =>
  ((bif !zA.2.bad then ((oJ F [] zA.1).bind fun zC=>(dD zC zE).bind fun zJ=>some zJ) else (some false))).bind fun (zK:Bool) =>
  some (zA.1,zK)
structure qA where
  b:List (Int)
  used:Int
  fault:Int
  deriving DecidableEq,Inhabited
def q9 (s:qA):List AV:=[.sl false 1 (List.map (AV.int .u8) s.b),.int .i64 s.used,.int .i64 s.fault]
def aG (F:Nat) (zH:qA):Option (Int×qA) :=
  (bif (zH.fault != (0:Int)) then some ((0:Int),zH) else
  (need ((0:Int)≤zH.used∧zH.used≤(((zH.b).length:Nat):Int))).bind fun _=>(cI F (sub zH.b zH.used (((zH.b).length:Nat):Int))).bind fun zA =>
  some (zA.1,(⟨zH.b,zG (zH.used+zA.2.1),zA.2.2⟩:qA)))
def b8 (F:Nat) (zH:qA) (tA:Int):Option (Int×qA) :=
  (aG F zH).bind fun zA =>
  (bif (zA.2.fault != (0:Int)) then some ((0:Int),zA.2) else
  (bif decide (zA.1<(0:Int)) then some ((0:Int),(⟨zA.2.b,zA.2.used,(10:Int)⟩:qA)) else
  (bif decide (zA.1>tA) then some ((0:Int),(⟨zA.2.b,zA.2.used,(7:Int)⟩:qA)) else
  some (zA.1,zA.2))))
def EX (F:Nat) (zH:qA):Option ((List Int)×qA) :=
  (bif (zH.fault != (0:Int)) then some (([]:List Int),zH) else
  (need ((0:Int)≤zH.used∧zH.used≤(((zH.b).length:Nat):Int))).bind fun _=>(mT F (sub zH.b zH.used (((zH.b).length:Nat):Int)) (40:Int)).bind fun zA =>
  some (zA.1,(⟨zH.b,zG (zH.used+zA.2.1),zA.2.2⟩:qA)))
structure zQ where
  c0:Int
  c1:Int
  deriving DecidableEq,Inhabited
def T3 (s:zQ):List AV:=[.int .i64 s.c0,.int .i64 s.c1]
def yB (s:zQ):AV:=.agg (T3 s)
def lB (F:Nat) (zW:List (List Int)) (rec:Int→(List ((List Int)×Bool))→Option (Unit⊕Int)) (zM:Int) (zF:List ((List Int)×Bool)):Option (Unit⊕Int) :=
  (bif decide (zM<(((zW).length:Nat):Int)) then (yZ zW zM).bind fun zH =>
  (cR F zH).bind fun zA =>
  (bif (zA != (0:Int)) then some (.inr zA) else
  (bif ((uN zF zH).getD false) then some (.inr (4:Int)) else
  (need ((zF).length<140737488355328)).bind fun _ =>
  rec (zG (zM+(1:Int))) (wS zF zH true))) else
  some (.inl ()))
def rC (F:Nat) (zW:List (List Int)):Nat→Int→(List ((List Int)×Bool))→Option (Unit⊕Int)
  | 0,_,_=>none
  | n+1,zM,zF=>lB F zW (rC F zW n) zM zF
def E3 (F:Nat) (zW:List (List Int)):Option Int :=
  (rC F zW F (0:Int) []).bind fun (zD:Unit⊕Int) =>
  (match zD with
  | (.inl zZ) =>
  some (0:Int)
  | (.inr xD) =>
  some xD)
def GV (F:Nat) (zW:List (List Int)) (z0:List (zQ)) (rec:Int→(List (zQ×Bool))→(List Int)→Option (Unit⊕Int)) (zM:Int) (zF:List (zQ×Bool)) (zY:List Int):Option (Unit⊕Int) :=
  (bif decide (zM<(((z0).length:Nat):Int)) then (yZ z0 zM).bind fun zH =>
  (bif (decide (zH.c0<(-1:Int))||(decide (zH.c0≥zM)||(decide (zH.c1<(0:Int))||decide (zH.c1≥(((zW).length:Nat):Int))))) then some (.inr (2:Int)) else
  (bif ((uN zF zH).getD false) then some (.inr (4:Int)) else
  (need ((zF).length<140737488355328)).bind fun _ =>
  (yZ zY zM).bind fun yH =>
  (((bif (zH.c0 != (-1:Int)) then (yZ ((zY).set ((zM).toNat) (1:Int)) zM).bind fun xA=>(yZ ((zY).set ((zM).toNat) (1:Int)) zH.c0).bind fun wM=>(yZ ((zY).set ((zM).toNat) (1:Int)) zM).bind fun vL =>
  some (((zY).set ((zM).toNat) (1:Int)).set ((zM).toNat) (zG (xA+wM))) else
  some ((zY).set ((zM).toNat) (1:Int))):Option (List Int))).bind fun (zR:(List Int)) =>
  (yZ zR zM).bind fun tN =>
  (bif decide (tN>(32:Int)) then some (.inr (7:Int)) else
  rec (zG (zM+(1:Int))) (wS zF zH true) zR))) else
  some (.inl ()))
def oY (F:Nat) (zW:List (List Int)) (z0:List (zQ)):Nat→Int→(List (zQ×Bool))→(List Int)→Option (Unit⊕Int)
  | 0,_,_,_=>none
  | n+1,zM,zF,zY=>GV F zW z0 (oY F zW z0 n) zM zF zY
def dF (F:Nat) (zW:List (List Int)) (z0:List (zQ)):Option Int :=
  (bif (decide ((((zW).length:Nat):Int)>(1000:Int))||decide ((((z0).length:Nat):Int)>(1000:Int))) then some (7:Int) else
  (E3 F zW).bind fun zA =>
  (bif (zA != (0:Int)) then some zA else
  (need (((z0).length) * 8≤281474976710656)).bind fun _ =>
  (oY F zW z0 F (0:Int) [] (List.replicate ((z0).length) (0:Int))).bind fun (zD:Unit⊕Int) =>
  (match zD with
  | (.inl zZ) =>
  some (0:Int)
  | (.inr xD) =>
  some xD)))
structure kG where
  b:List (Int)
  used:Int
  fault:Int
  deriving DecidableEq,Inhabited
def dK (s:kG):List AV:=[.sl false 1 (List.map (AV.int .u8) s.b),.int .i64 s.used,.int .i64 s.fault]
def n8 (F:Nat) (zH:kG):Option (Int×kG) :=
  (bif (zH.fault != (0:Int)) then some ((0:Int),zH) else
  (need ((0:Int)≤zH.used∧zH.used≤(((zH.b).length:Nat):Int))).bind fun _=>(cI F (sub zH.b zH.used (((zH.b).length:Nat):Int))).bind fun zA =>
  some (zA.1,(⟨zH.b,zG (zH.used+zA.2.1),zA.2.2⟩:kG)))
def DK (xC:Int):Option (Bool×Bool×Bool×Bool) :=
  some (((xC==(1:Int))||((xC==(3:Int))||(xC==(4:Int)))),decide (xC≥(4:Int)),((xC==(9:Int))||(xC==(11:Int))),((xC==(5:Int))||(xC==(11:Int))))
def G5 (F:Nat) (rec:Int→Int→(List (List Int))→Option (List (List Int))) (zP:Int) (qY:Int) (zF:List (List Int)):Option (List (List Int)) :=
  (bif decide (zP<qY) then (yZ zF qY).bind fun zH=>(yZ zF zP).bind fun yH=>(yZ zF zP).bind fun xA=>(yZ ((zF).set ((zP).toNat) zH) qY).bind fun wM =>
  rec (zG (zP+(1:Int))) (zG (qY - (1:Int))) (((zF).set ((zP).toNat) zH).set ((qY).toNat) yH) else
  some zF)
def rH (F:Nat):Nat→Int→Int→(List (List Int))→Option (List (List Int))
  | 0,_,_,_=>none
  | n+1,zP,qY,zF=>G5 F (rH F n) zP qY zF
def JA (F:Nat) (zI:List (List Int)):Option (List (List Int)) :=
  (rH F F (0:Int) (zG ((((zI).length:Nat):Int) - (1:Int))) zI).bind fun (zD:(List (List Int))) =>
  some zD
def iV (F:Nat) (zW:List (List Int)) (z0:List (zQ)) (rec:Int→(List (List Int))→Option (List (List Int))) (xH:Int) (zF:List (List Int)):Option (List (List Int)) :=
  (bif (xH != (-1:Int)) then (yZ z0 xH).bind fun zH=>(yZ zW zH.c1).bind fun yH=>(need (((zF).length+(([yH]:List (List Int))).length) * 16≤140737488355328)).bind fun _ =>
  (yZ z0 xH).bind fun xA =>
  rec xA.c0 (zF++([yH]:List (List Int))) else
  some zF)
def HN (F:Nat) (zW:List (List Int)) (z0:List (zQ)):Nat→Int→(List (List Int))→Option (List (List Int))
  | 0,_,_=>none
  | n+1,xH,zF=>iV F zW z0 (HN F zW z0 n) xH zF
def AJ (F:Nat) (zW:List (List Int)) (z0:List (zQ)) (zP:Int):Option ((List (List Int))×Int) :=
  (dF F zW z0).bind fun zA =>
  (bif (zA != (0:Int)) then some ([],(1:Int)) else
  (bif (decide (zP<(-1:Int))||decide (zP≥(((z0).length:Nat):Int))) then some ([],(2:Int)) else
  (HN F zW z0 F zP []).bind fun (zD:(List (List Int))) =>
  (JA F zD).bind fun zC=>(need ((zC).length=(zD).length)).bind fun _ =>
  some (zC,(0:Int))))
structure vF where
  word:List Int
  name:Bool
  n:Bool
  m:Bool
  stack:Bool
  least:Int
  most:Int
  mLeast:Int
  mMost:Int
  deriving DecidableEq,Inhabited
def GT (s:vF):List AV:=[.str s.word,.bool s.name,.bool s.n,.bool s.m,.bool s.stack,.int .i64 s.least,.int .i64 s.most,.int .i64 s.mLeast,.int .i64 s.mMost]
def dA (s:vF):AV:=.agg (GT s)
def CH:Option (List (vF)) :=
  some ([(⟨([]:List Int),false,false,false,false,(0:Int),(0:Int),(0:Int),(0:Int)⟩:vF),(⟨([98,101,103,105,110]:List Int),true,false,false,false,(0:Int),(0:Int),(0:Int),(0:Int)⟩:vF),(⟨([101,110,100]:List Int),false,false,false,false,(0:Int),(0:Int),(0:Int),(0:Int)⟩:vF),(⟨([109,97,114,107]:List Int),true,false,false,false,(0:Int),(0:Int),(0:Int),(0:Int)⟩:vF),(⟨([99,111,117,110,116]:List Int),true,true,false,false,(-1000000000000000:Int),(1000000000000000:Int),(0:Int),(0:Int)⟩:vF),(⟨([115,97,109,112,108,101]:List Int),false,true,false,true,(1:Int),(1000000000000:Int),(0:Int),(0:Int)⟩:vF),(⟨([115,101,110,100]:List Int),false,true,false,false,(0:Int),(1000000000000000:Int),(0:Int),(0:Int)⟩:vF),(⟨([114,101,99,118]:List Int),false,true,false,false,(0:Int),(1000000000000000:Int),(0:Int),(0:Int)⟩:vF),(⟨([114,117,110]:List Int),false,true,false,false,(0:Int),(63:Int),(0:Int),(0:Int)⟩:vF),(⟨([115,116,111,112]:List Int),false,true,true,false,(0:Int),(3:Int),(0:Int),(1000000000000000:Int)⟩:vF),(⟨([119,97,107,101]:List Int),false,true,false,false,(0:Int),(1000000000000000:Int),(0:Int),(0:Int)⟩:vF),(⟨([97,108,108,111,99]:List Int),false,true,true,true,(0:Int),(1000000000000000:Int),(1:Int),(1000000000000:Int)⟩:vF),(⟨([102,114,101,101]:List Int),false,true,false,false,(0:Int),(1000000000000000:Int),(0:Int),(0:Int)⟩:vF)]:List vF)
def HK (xC:Int):Option (vF×Bool) :=
  (CH ).bind fun zA =>
  (bif (decide (xC<(1:Int))||decide (xC≥(((zA).length:Nat):Int))) then some ((⟨([]:List Int),false,false,false,false,(0:Int),(0:Int),(0:Int),(0:Int)⟩:vF),false) else
  (yZ zA xC).bind fun zH =>
  some (zH,true))
def CM (F:Nat) (zO:List (List Int)) (rec:Int→Option (Unit⊕Int)) (zM:Int):Option (Unit⊕Int) :=
  (bif decide (zM<(((zO).length:Nat):Int)) then (yZ zO zM).bind fun zH =>
  (cR F zH).bind fun zA =>
  (bif (zA != (0:Int)) then some (.inr zA) else
  rec (zG (zM+(1:Int)))) else
  some (.inl ()))
def GS (F:Nat) (zO:List (List Int)):Nat→Int→Option (Unit⊕Int)
  | 0,_=>none
  | n+1,zM=>CM F zO (GS F zO n) zM
def AD (F:Nat) (zO:List (List Int)):Option Int :=
  (bif decide ((((zO).length:Nat):Int)>(32:Int)) then some (7:Int) else
  (GS F zO F (0:Int)).bind fun (zD:Unit⊕Int) =>
  (match zD with
  | (.inl zZ) =>
  some (0:Int)
  | (.inr xD) =>
  some xD))
def EN (F:Nat) (f_1:vF) (zU:yW):Option Int :=
  (bif f_1.name then (cR F zU.Name).bind fun zA =>
  some zA else
  (AD F zU.Stack).bind fun zC =>
  some zC)
def fQ (F:Nat) (zU:yW):Option Int :=
  (bif (decide (zU.At<(0:Int))||decide (zU.At>(1000000000000:Int))) then some (2:Int) else
  (HK zU.Kind).bind fun zA =>
  ((bif !zA.2 then (some true) else (bif !zA.1.name then (bif !(zU.Name==([]:List Int)) then (some true) else (bif !zA.1.n then (bif (zU.N != (0:Int)) then (some true) else (bif !zA.1.m then (bif (zU.M != (0:Int)) then (some true) else (bif !zA.1.stack then (some (decide ((((zU.Stack).length:Nat):Int)>(0:Int)))) else (some false))) else (bif !zA.1.stack then (some (decide ((((zU.Stack).length:Nat):Int)>(0:Int)))) else (some false)))) else (bif !zA.1.m then (bif (zU.M != (0:Int)) then (some true) else (bif !zA.1.stack then (some (decide ((((zU.Stack).length:Nat):Int)>(0:Int)))) else (some false))) else (bif !zA.1.stack then (some (decide ((((zU.Stack).length:Nat):Int)>(0:Int)))) else (some false))))) else (bif !zA.1.n then (bif (zU.N != (0:Int)) then (some true) else (bif !zA.1.m then (bif (zU.M != (0:Int)) then (some true) else (bif !zA.1.stack then (some (decide ((((zU.Stack).length:Nat):Int)>(0:Int)))) else (some false))) else (bif !zA.1.stack then (some (decide ((((zU.Stack).length:Nat):Int)>(0:Int)))) else (some false)))) else (bif !zA.1.m then (bif (zU.M != (0:Int)) then (some true) else (bif !zA.1.stack then (some (decide ((((zU.Stack).length:Nat):Int)>(0:Int)))) else (some false))) else (bif !zA.1.stack then (some (decide ((((zU.Stack).length:Nat):Int)>(0:Int)))) else (some false))))))).bind fun (zK:Bool) =>
  (bif zK then some (1:Int) else
  (EN F zA.1 zU).bind fun zC =>
  (bif (zC != (0:Int)) then some zC else
  (bif (zA.1.n&&(decide (zU.N<zA.1.least)||decide (zU.N>zA.1.most))) then some (2:Int) else
  (bif ((zU.Kind==(9:Int))&&((zU.N != (2:Int))&&(zU.M != (0:Int)))) then some (1:Int) else
  (bif (zA.1.m&&(bif decide (zU.M<zA.1.mLeast) then ((zU.Kind != (9:Int))||(zU.N==(2:Int))) else (decide (zU.M>zA.1.mMost)&&((zU.Kind != (9:Int))||(zU.N==(2:Int)))))) then some (2:Int) else
  some (0:Int)))))))
def H6 (F:Nat) (zW:List (List Int)) (z0:List (zQ)) (zE:List (Int)):Option (yW×Int×Int) :=
  (dF F zW z0).bind fun zA =>
  (bif (zA != (0:Int)) then some ((⟨(0:Int),(0:Int),([]:List Int),(0:Int),(0:Int),[]⟩:yW),(0:Int),(1:Int)) else
  (n8 F (⟨zE,(0:Int),(0:Int)⟩:kG)).bind fun zC =>
  (n8 F zC.2).bind fun zJ =>
  (((bif ((zJ.2.fault==(0:Int))&&(decide (zC.1<(1:Int))||decide (zC.1>(12:Int)))) then some (10:Int) else
  some zJ.2.fault):Option Int)).bind fun (zD:Int) =>
  (DK zC.1).bind fun zS =>
  (((bif zS.1 then (n8 F (⟨zJ.2.b,zJ.2.used,zD⟩:kG)).bind fun zV =>
  some (zV.1,zV.2.b,zV.2.used,zV.2.fault) else
  some ((0:Int),zJ.2.b,zJ.2.used,zD)):Option (Int×(List Int)×Int×Int))).bind fun (zR:(Int×(List Int)×Int×Int)) =>
  (((bif zS.2.1 then (n8 F (⟨zR.2.1,zR.2.2.1,zR.2.2.2⟩:kG)).bind fun yA =>
  some (yA.2.b,yA.2.used,yA.2.fault,yA.1) else
  some (zR.2.1,zR.2.2.1,zR.2.2.2,(0:Int))):Option ((List Int)×Int×Int×Int))).bind fun (yL:((List Int)×Int×Int×Int)) =>
  (((bif zS.2.2.1 then (n8 F (⟨yL.1,yL.2.1,yL.2.2.1⟩:kG)).bind fun yV =>
  some (yV.2.b,yV.2.used,yV.2.fault,yV.1) else
  some (yL.1,yL.2.1,yL.2.2.1,(0:Int))):Option ((List Int)×Int×Int×Int))).bind fun (xQ:((List Int)×Int×Int×Int)) =>
  (((bif zS.2.2.2 then (n8 F (⟨xQ.1,xQ.2.1,xQ.2.2.1⟩:kG)).bind fun yI =>
  some (yI.1,yI.2.b,yI.2.used,yI.2.fault) else
  some ((-1:Int),xQ.1,xQ.2.1,xQ.2.2.1)):Option (Int×(List Int)×Int×Int))).bind fun (vQ:(Int×(List Int)×Int×Int)) =>
  (((bif (vQ.2.2.2 != (0:Int)) then some (.inr ((⟨(0:Int),(0:Int),([]:List Int),(0:Int),(0:Int),[]⟩:yW),(0:Int),vQ.2.2.2)) else
  (bif (zS.1&&(decide (zR.1<(0:Int))||decide (zR.1≥(((zW).length:Nat):Int)))) then some (.inr ((⟨(0:Int),(0:Int),([]:List Int),(0:Int),(0:Int),[]⟩:yW),(0:Int),(2:Int))) else
  (bif (decide (vQ.1<(-1:Int))||decide (vQ.1≥(((z0).length:Nat):Int))) then some (.inr ((⟨(0:Int),(0:Int),([]:List Int),(0:Int),(0:Int),[]⟩:yW),(0:Int),(2:Int))) else
  some (.inl ())))):Option (Unit⊕(yW×Int×Int)))).bind fun (o_6:Unit⊕(yW×Int×Int)) =>
  (match o_6 with
  | (.inl zZ) =>
  (((bif zS.1 then (yZ zW zR.1).bind fun zH =>
  some zH else
  some ([]:List Int)):Option (List Int))).bind fun (cN:(List Int)) =>
  (AJ F zW z0 vQ.1).bind fun yO =>
  (fQ F (⟨zJ.1,zC.1,cN,yL.2.2.2,xQ.2.2.2,yO.1⟩:yW)).bind fun xL =>
  (bif (xL != (0:Int)) then some ((⟨(0:Int),(0:Int),([]:List Int),(0:Int),(0:Int),[]⟩:yW),(0:Int),(10:Int)) else
  some ((⟨zJ.1,zC.1,cN,yL.2.2.2,xQ.2.2.2,yO.1⟩:yW),vQ.2.2.1,(0:Int)))
  | (.inr xD) =>
  some xD))
def DP (F:Nat) (zO:List (yW)) (rec:Int→Option (Unit⊕Int)) (zM:Int):Option (Unit⊕Int) :=
  (bif decide (zM<(((zO).length:Nat):Int)) then (yZ zO zM).bind fun zH =>
  (fQ F zH).bind fun zA =>
  (bif (zA != (0:Int)) then some (.inr zA) else
  ((bif decide (zM>(0:Int)) then ((yZ zO (zG (zM - (1:Int)))).bind fun yH=>some (decide (zH.At<yH.At))) else (some false))).bind fun (zK:Bool) =>
  (bif zK then some (.inr (11:Int)) else
  rec (zG (zM+(1:Int))))) else
  some (.inl ()))
def AL (F:Nat) (zO:List (yW)):Nat→Int→Option (Unit⊕Int)
  | 0,_=>none
  | n+1,zM=>DP F zO (AL F zO n) zM
def C2 (F:Nat) (zO:List (yW)):Option Int :=
  (AL F zO F (0:Int)).bind fun (zD:Unit⊕Int) =>
  (match zD with
  | (.inl zZ) =>
  some (0:Int)
  | (.inr xD) =>
  some xD)
def cS (F:Nat) (zK:z8) (rec:Int→Option (Unit⊕Int)) (zM:Int):Option (Unit⊕Int) :=
  (bif decide (zM<((3:Nat):Int)) then (yZ ([zK.Thread,zK.Serial,zK.Lost]:List Int) zM).bind fun zH =>
  (bif (decide (zH<(0:Int))||decide (zH>(1000000000000000:Int))) then some (.inr (2:Int)) else
  rec (zG (zM+(1:Int)))) else
  some (.inl ()))
def DT (F:Nat) (zK:z8):Nat→Int→Option (Unit⊕Int)
  | 0,_=>none
  | n+1,zM=>cS F zK (DT F zK n) zM
def fO (F:Nat) (zK:z8):Option Int :=
  (DT F zK F (0:Int)).bind fun (zD:Unit⊕Int) =>
  (match zD with
  | (.inl zZ) =>
  (((bif decide (zK.Lost>zK.Serial) then some (decide (zK.Lost>zK.Serial)) else
  some (decide ((zG (zK.Serial+(((zK.Events).length:Nat):Int)))>(1000000000000000:Int)))):Option Bool)).bind fun (zR:Bool) =>
  (bif zR then some (2:Int) else
  (bif ((((zK.Events).length:Nat):Int)==(0:Int)) then some (8:Int) else
  (bif decide ((((zK.Events).length:Nat):Int)>(1000:Int)) then some (7:Int) else
  (C2 F zK.Events).bind fun zA =>
  some zA)))
  | (.inr xD) =>
  some xD)
def gU (F:Nat) (zI:List (List Int)) (yJ:List Int) (rec:Int→Option (Unit⊕Int)) (zM:Int):Option (Unit⊕Int) :=
  (bif decide (zM<(((zI).length:Nat):Int)) then (yZ zI zM).bind fun zH =>
  (bif (yJ==zH) then some (.inr zM) else
  rec (zG (zM+(1:Int)))) else
  some (.inl ()))
def C8 (F:Nat) (zI:List (List Int)) (yJ:List Int):Nat→Int→Option (Unit⊕Int)
  | 0,_=>none
  | n+1,zM=>gU F zI yJ (C8 F zI yJ n) zM
def ET (F:Nat) (zI:List (List Int)) (yJ:List Int):Option Int :=
  (C8 F zI yJ F (0:Int)).bind fun (zD:Unit⊕Int) =>
  (match zD with
  | (.inl zZ) =>
  some (-1:Int)
  | (.inr xD) =>
  some xD)
def JM (zI:List (List Int)):Option (List (List Int)) :=
  (need (((([]:List (List Int))).length+(zI).length) * 16≤140737488355328)).bind fun _ =>
  some ([]++zI)
def CA (F:Nat) (zW:List (List Int)) (zI:List Int):Option (Int×(List (List Int))×Int) :=
  (cR F zI).bind fun zA =>
  (bif (zA != (0:Int)) then some ((0:Int),zW,zA) else
  (ET F zW zI).bind fun zC =>
  (bif decide (zC≥(0:Int)) then some (zC,zW,(0:Int)) else
  (bif decide ((((zW).length:Nat):Int)≥(1000:Int)) then some ((0:Int),zW,(6:Int)) else
  (JM zW).bind fun zJ=>(need (((zJ).length+(([zI]:List (List Int))).length) * 16≤140737488355328)).bind fun _ =>
  some ((((zW).length:Nat):Int),(zJ++([zI]:List (List Int))),(0:Int)))))
def KH (zI:List (zQ)):Option (List (zQ)) :=
  (need (((([]:List zQ)).length+(zI).length) * 16≤140737488355328)).bind fun _ =>
  some ([]++zI)
def mB (F:Nat) (zI:List (zQ)) (yJ:zQ) (rec:Int→Option (Unit⊕Int)) (zM:Int):Option (Unit⊕Int) :=
  (bif decide (zM<(((zI).length:Nat):Int)) then (yZ zI zM).bind fun zH =>
  (bif (decide (yJ=zH)) then some (.inr zM) else
  rec (zG (zM+(1:Int)))) else
  some (.inl ()))
def GD (F:Nat) (zI:List (zQ)) (yJ:zQ):Nat→Int→Option (Unit⊕Int)
  | 0,_=>none
  | n+1,zM=>mB F zI yJ (GD F zI yJ n) zM
def CO (F:Nat) (zI:List (zQ)) (yJ:zQ):Option Int :=
  (GD F zI yJ F (0:Int)).bind fun (zD:Unit⊕Int) =>
  (match zD with
  | (.inl zZ) =>
  some (-1:Int)
  | (.inr xD) =>
  some xD)
def G0 (F:Nat) (zW:List (List Int)) (z0:List (zQ)) (zO:List (List Int)) (rec:Int→(List (List Int))→Int→(List zQ)→Option ((Int×(List (List Int))×(List zQ))⊕(Int×(List (List Int))×(List (zQ))×Int))) (xI:Int) (z7:List (List Int)) (zM:Int) (zF:List zQ):Option ((Int×(List (List Int))×(List zQ))⊕(Int×(List (List Int))×(List (zQ))×Int)) :=
  (bif decide (zM<(((zO).length:Nat):Int)) then (yZ zO zM).bind fun zH =>
  (CA F z7 zH).bind fun zJ =>
  (bif (zJ.2.2 != (0:Int)) then some (.inr ((0:Int),zW,z0,zJ.2.2)) else
  (CO F zF (⟨xI,zJ.1⟩:zQ)).bind fun zS =>
  (bif decide (zS≥(0:Int)) then rec zS zJ.2.1 (zG (zM+(1:Int))) zF else
  (bif decide ((((zF).length:Nat):Int)≥(1000:Int)) then some (.inr ((0:Int),zW,z0,(6:Int))) else
  (need (((zF).length+(([(⟨xI,zJ.1⟩:zQ)]:List zQ)).length) * 16≤140737488355328)).bind fun _ =>
  rec (((zF).length:Nat):Int) zJ.2.1 (zG (zM+(1:Int))) (zF++([(⟨xI,zJ.1⟩:zQ)]:List zQ))))) else
  some (.inl (xI,z7,zF)))
def B9 (F:Nat) (zW:List (List Int)) (z0:List (zQ)) (zO:List (List Int)):Nat→Int→(List (List Int))→Int→(List zQ)→Option ((Int×(List (List Int))×(List zQ))⊕(Int×(List (List Int))×(List (zQ))×Int))
  | 0,_,_,_,_=>none
  | n+1,xI,z7,zM,zF=>G0 F zW z0 zO (B9 F zW z0 zO n) xI z7 zM zF
def AB (F:Nat) (zW:List (List Int)) (z0:List (zQ)) (zO:List (List Int)):Option (Int×(List (List Int))×(List (zQ))×Int) :=
  (AD F zO).bind fun zA =>
  (bif (zA != (0:Int)) then some ((0:Int),zW,z0,zA) else
  (KH z0).bind fun zC =>
  (B9 F zW z0 zO F (-1:Int) zW (0:Int) zC).bind fun (zD:(Int×(List (List Int))×(List zQ))⊕(Int×(List (List Int))×(List (zQ))×Int)) =>
  (match zD with
  | (.inl zZ) =>
  some (zZ.1,zZ.2.1,zZ.2.2,(0:Int))
  | (.inr xD) =>
  some xD))
abbrev zY1:Type:=((List (Int))×(List (List Int))×(List (zQ))×Int)
def HL (F:Nat) (zW:List (List Int)) (z0:List (zQ)) (zU:yW):Option zY1 :=
  (dF F zW z0).bind fun zA =>
  (bif (zA != (0:Int)) then some ([],[],[],(1:Int)) else
  (fQ F zU).bind fun zC =>
  (bif (zC != (0:Int)) then some ([],[],[],zC) else
  (DK zU.Kind).bind fun zJ =>
  (qD F [] zU.Kind).bind fun zS=>(qD F zS zU.At).bind fun zV =>
  (((bif zJ.1 then (CA F zW zU.Name).bind fun yA =>
  (bif (yA.2.2 != (0:Int)) then some (.inr ([],[],[],yA.2.2)) else
  (qD F zV yA.1).bind fun yV =>
  some (.inl (yA.2.1,yV))) else
  some (.inl (zW,zV))):Option (((List (List Int))×(List Int))⊕zY1))).bind fun (zD:((List (List Int))×(List Int))⊕zY1) =>
  (match zD with
  | (.inl zZ) =>
  (((bif zJ.2.1 then (qD F zZ.2 zU.N).bind fun yI =>
  some yI else
  some zZ.2):Option (List Int))).bind fun (zR:(List Int)) =>
  (((bif zJ.2.2.1 then (qD F zR zU.M).bind fun yO =>
  some yO else
  some zR):Option (List Int))).bind fun (yL:(List Int)) =>
  (((bif zJ.2.2.2 then (AB F zZ.1 z0 zU.Stack).bind fun xL =>
  (bif (xL.2.2.2 != (0:Int)) then some (.inr ([],[],[],xL.2.2.2)) else
  (qD F yL xL.1).bind fun wN =>
  some (.inl (xL.2.1,xL.2.2.1,wN))) else
  some (.inl (zZ.1,z0,yL))):Option (((List (List Int))×(List zQ)×(List Int))⊕zY1))).bind fun (xQ:((List (List Int))×(List zQ)×(List Int))⊕zY1) =>
  (match xQ with
  | (.inl vG) =>
  some (vG.2.2,vG.1,vG.2.1,(0:Int))
  | (.inr t5) =>
  some t5)
  | (.inr xD) =>
  some xD)))
def DQ (F:Nat) (zO:List (Int)) (rec:Int→(List Int)→Option (List Int)) (zM:Int) (zF:List Int):Option (List Int) :=
  (bif decide (zM<(((zO).length:Nat):Int)) then (yZ zO zM).bind fun zH =>
  (qD F zF zH).bind fun zA =>
  rec (zG (zM+(1:Int))) zA else
  some zF)
def rX (F:Nat) (zO:List (Int)):Nat→Int→(List Int)→Option (List Int)
  | 0,_,_=>none
  | n+1,zM,zF=>DQ F zO (rX F zO n) zM zF
def HW (F:Nat) (zO:List (Int)):Option (List (Int)) :=
  (rX F zO F (0:Int) []).bind fun (zD:(List Int)) =>
  some zD
def DE (F:Nat) (zO:List (Int)) (rec:Int→(List Int)→Option (List Int)) (zM:Int) (zF:List Int):Option (List Int) :=
  (bif decide (zM<(((zO).length:Nat):Int)) then (yZ zO zM).bind fun zH =>
  (qD F zF zH).bind fun zA =>
  rec (zG (zM+(1:Int))) zA else
  some zF)
def BR (F:Nat) (zO:List (Int)):Nat→Int→(List Int)→Option (List Int)
  | 0,_,_=>none
  | n+1,zM,zF=>DE F zO (BR F zO n) zM zF
def lL (F:Nat) (zE:List (Int)) (zO:List (Int)):Option (List (Int)) :=
  (BR F zO F (0:Int) zE).bind fun (zD:(List Int)) =>
  some zD
def GZ (F:Nat) (zK:z8) (rec:(List (List Int))→(List zQ)→Int→(List Int)→Option (((List (List Int))×(List zQ)×(List Int))⊕((List (Int))×Int))) (zW:List (List Int)) (z0:List zQ) (zM:Int) (zF:List Int):Option (((List (List Int))×(List zQ)×(List Int))⊕((List (Int))×Int)) :=
  (bif decide (zM<(((zK.Events).length:Nat):Int)) then (yZ zK.Events zM).bind fun zH =>
  (HL F zW z0 zH).bind fun zC =>
  (bif (zC.2.2.2 != (0:Int)) then some (.inr ([],zC.2.2.2)) else
  (need (((zF).length+(zC.1).length) * 1≤140737488355328)).bind fun _ =>
  rec zC.2.1 zC.2.2.1 (zG (zM+(1:Int))) (zF++zC.1)) else
  some (.inl (zW,z0,zF)))
def BD (F:Nat) (zK:z8):Nat→(List (List Int))→(List zQ)→Int→(List Int)→Option (((List (List Int))×(List zQ)×(List Int))⊕((List (Int))×Int))
  | 0,_,_,_,_=>none
  | n+1,zW,z0,zM,zF=>GZ F zK (BD F zK n) zW z0 zM zF
def EY (F:Nat) (zZ:(List (List Int))×(List zQ)×(List Int)) (rec:Int→(List Int)→Option (List Int)) (wK:Int) (zY:List Int):Option (List Int) :=
  (bif decide (wK<(((zZ.1).length:Nat):Int)) then (yZ zZ.1 wK).bind fun yH =>
  (A1 F zY yH).bind fun zS =>
  rec (zG (wK+(1:Int))) zS else
  some zY)
def B0 (F:Nat) (zZ:(List (List Int))×(List zQ)×(List Int)):Nat→Int→(List Int)→Option (List Int)
  | 0,_,_=>none
  | n+1,wK,zY=>EY F zZ (B0 F zZ n) wK zY
def GU (F:Nat) (zZ:(List (List Int))×(List zQ)×(List Int)) (rec:Int→(List Int)→Option (List Int)) (vI:Int) (yG:List Int):Option (List Int) :=
  (bif decide (vI<(((zZ.2.1).length:Nat):Int)) then (yZ zZ.2.1 vI).bind fun xA =>
  (lL F yG ([xA.c0,xA.c1]:List Int)).bind fun yA =>
  rec (zG (vI+(1:Int))) yA else
  some yG)
def BI (F:Nat) (zZ:(List (List Int))×(List zQ)×(List Int)):Nat→Int→(List Int)→Option (List Int)
  | 0,_,_=>none
  | n+1,vI,yG=>GU F zZ (BI F zZ n) vI yG
def gE (F:Nat) (zK:z8):Option ((List (Int))×Int) :=
  (fO F zK).bind fun zA =>
  (bif (zA != (0:Int)) then some ([],zA) else
  (BD F zK F [] [] (0:Int) []).bind fun (zD:((List (List Int))×(List zQ)×(List Int))⊕((List (Int))×Int)) =>
  (match zD with
  | (.inl zZ) =>
  (HW F ([zK.Thread,zK.Serial,zK.Lost,(((zZ.1).length:Nat):Int)]:List Int)).bind fun zJ =>
  (B0 F zZ F (0:Int) zJ).bind fun (zR:(List Int)) =>
  (lL F zR ([(((zZ.2.1).length:Nat):Int)]:List Int)).bind fun zV =>
  (BI F zZ F (0:Int) zV).bind fun (yL:(List Int)) =>
  (lL F yL ([(((zK.Events).length:Nat):Int)]:List Int)).bind fun yV=>(need (((yV).length+(zZ.2.2).length) * 1≤140737488355328)).bind fun _ =>
  some ((yV++zZ.2.2),(0:Int))
  | (.inr xD) =>
  some xD))
def mU (F:Nat) (rec:Int→(List Int)→Int→Int→(List (List Int))→Option ((List Int)×Int×Int×(List (List Int)))) (z7:Int) (zB:List Int) (y5:Int) (y6:Int) (zF:List (List Int)):Option ((List Int)×Int×Int×(List (List Int))) :=
  (bif (decide (z7>(0:Int))&&(y6==(0:Int))) then (EX F (⟨zB,y5,y6⟩:qA)).bind fun zV=>(need (((zF).length+(([zV.1]:List (List Int))).length) * 16≤140737488355328)).bind fun _ =>
  rec (zG (z7 - (1:Int))) zV.2.b zV.2.used zV.2.fault (zF++([zV.1]:List (List Int))) else
  some (zB,y5,y6,zF))
def BB (F:Nat):Nat→Int→(List Int)→Int→Int→(List (List Int))→Option ((List Int)×Int×Int×(List (List Int)))
  | 0,_,_,_,_,_=>none
  | n+1,z7,zB,y5,y6,zF=>mU F (BB F n) z7 zB y5 y6 zF
def gZ (F:Nat) (rec:Int→(List Int)→Int→Int→(List zQ)→Option ((List Int)×Int×Int×(List zQ))) (qC:Int) (yX:List Int) (xB:Int) (xE:Int) (zY:List zQ):Option ((List Int)×Int×Int×(List zQ)) :=
  (bif (decide (qC>(0:Int))&&(xE==(0:Int))) then (aG F (⟨yX,xB,xE⟩:qA)).bind fun yV =>
  (aG F yV.2).bind fun yI=>(need (((zY).length+(([(⟨yV.1,yI.1⟩:zQ)]:List zQ)).length) * 16≤140737488355328)).bind fun _ =>
  rec (zG (qC - (1:Int))) yI.2.b yI.2.used yI.2.fault (zY++([(⟨yV.1,yI.1⟩:zQ)]:List zQ)) else
  some (yX,xB,xE,zY))
def r7 (F:Nat):Nat→Int→(List Int)→Int→Int→(List zQ)→Option ((List Int)×Int×Int×(List zQ))
  | 0,_,_,_,_,_=>none
  | n+1,qC,yX,xB,xE,zY=>gZ F (r7 F n) qC yX xB xE zY
def g7 (F:Nat) (zE:List (Int)) (zD:((List Int)×Int×Int×(List (List Int)))) (zR:((List Int)×Int×Int×(List zQ))) (rec:Int→Int→Int→(List yW)→Option (Int×Int×(List yW))) (bI:Int) (wY:Int) (w9:Int) (yG:List yW):Option (Int×Int×(List yW)) :=
  (bif (decide (bI>(0:Int))&&(w9==(0:Int))) then (need ((0:Int)≤wY∧wY≤(((zE).length:Nat):Int))).bind fun _=>(H6 F zD.2.2.2 zR.2.2.2 (sub zE wY (((zE).length:Nat):Int))).bind fun wN =>
  (need (((yG).length+(([wN.1]:List yW)).length) * 72≤140737488355328)).bind fun _ =>
  rec (zG (bI - (1:Int))) (zG (wY+wN.2.1)) wN.2.2 (yG++([wN.1]:List yW)) else
  some (wY,w9,yG))
def AQ (F:Nat) (zE:List (Int)) (zD:((List Int)×Int×Int×(List (List Int)))) (zR:((List Int)×Int×Int×(List zQ))):Nat→Int→Int→Int→(List yW)→Option (Int×Int×(List yW))
  | 0,_,_,_,_=>none
  | n+1,bI,wY,w9,yG=>g7 F zE zD zR (AQ F zE zD zR n) bI wY w9 yG
def CX (F:Nat) (zE:List (Int)):Option (z8×Int×Int) :=
  (aG F (⟨zE,(0:Int),(0:Int)⟩:qA)).bind fun zA =>
  (aG F zA.2).bind fun zC =>
  (aG F zC.2).bind fun zJ =>
  (b8 F zJ.2 (1000:Int)).bind fun zS =>
  (BB F F zS.1 zS.2.b zS.2.used zS.2.fault []).bind fun (zD:((List Int)×Int×Int×(List (List Int)))) =>
  (b8 F (⟨zD.1,zD.2.1,zD.2.2.1⟩:qA) (1000:Int)).bind fun yA =>
  (r7 F F yA.1 yA.2.b yA.2.used yA.2.fault []).bind fun (zR:((List Int)×Int×Int×(List zQ))) =>
  (((bif (zR.2.2.1==(0:Int)) then (dF F zD.2.2.2 zR.2.2.2).bind fun yO =>
  some yO else
  some zR.2.2.1):Option Int)).bind fun (yL:Int) =>
  (b8 F (⟨zR.1,zR.2.1,yL⟩:qA) (1000:Int)).bind fun xL =>
  (AQ F zE zD zR F xL.1 xL.2.used xL.2.fault []).bind fun (xQ:(Int×Int×(List yW))) =>
  (((bif (xQ.2.1==(0:Int)) then (fO F (⟨zA.1,zC.1,zJ.1,xQ.2.2⟩:z8)).bind fun nA =>
  some nA else
  some xQ.2.1):Option Int)).bind fun (vQ:Int) =>
  (bif (vQ != (0:Int)) then some ((⟨(0:Int),(0:Int),(0:Int),[]⟩:z8),(0:Int),vQ) else
  (gE F (⟨zA.1,zC.1,zJ.1,xQ.2.2⟩:z8)).bind fun nB =>
  ((bif (nB.2 != (0:Int)) then (some true) else ((need ((0:Int)≤xQ.1∧xQ.1≤(((zE).length:Nat):Int))).bind fun _=>(dD nB.1 (sub zE (0:Int) xQ.1)).bind fun pB=>some (!pB)))).bind fun (zK:Bool) =>
  (bif zK then some ((⟨(0:Int),(0:Int),(0:Int),[]⟩:z8),(0:Int),(10:Int)) else
  some ((⟨zA.1,zC.1,zJ.1,xQ.2.2⟩:z8),xQ.1,(0:Int))))
def MA (tE:y7) (yJ:z8):Option Bool :=
  some (tE.Id==yJ.Thread)
def oB (F:Nat) (zI:List (y7)) (zB:z8) (rec:Int→Option (Unit⊕Int)) (zM:Int):Option (Unit⊕Int) :=
  (bif decide (zM<(((zI).length:Nat):Int)) then (yZ zI zM).bind fun zH=>(MA zH zB).bind fun zA =>
  (bif zA then some (.inr zM) else
  rec (zG (zM+(1:Int)))) else
  some (.inl ()))
def JF (F:Nat) (zI:List (y7)) (zB:z8):Nat→Int→Option (Unit⊕Int)
  | 0,_=>none
  | n+1,zM=>oB F zI zB (JF F zI zB n) zM
def J9 (F:Nat) (zI:List (y7)) (zB:z8):Option Int :=
  (JF F zI zB F (0:Int)).bind fun (zD:Unit⊕Int) =>
  (match zD with
  | (.inl zZ) =>
  some (-1:Int)
  | (.inr xD) =>
  some xD)
def DX (F:Nat) (zI:List (y7)) (zB:z8):Option Bool :=
  (J9 F zI zB).bind fun zA =>
  some (decide (zA≥(0:Int)))
def AC (F:Nat) (zB:y8) (zK:z8):Option (Int×y8) :=
  (DX F zB.head.Threads zK).bind fun zA =>
  (bif !zA then some ((5:Int),zB) else
  ((bif (zK.Serial != (zG ((((uN ((zB.ends).getD []) zK.Thread).getD (⟨(0:Int),(0:Int)⟩:wJ)).next)+zK.Lost))) then (some true) else ((yZ zK.Events (0:Int)).bind fun zH=>some (decide (zH.At<(((uN ((zB.ends).getD []) zK.Thread).getD (⟨(0:Int),(0:Int)⟩:wJ)).last)))))).bind fun (u3:Bool) =>
  (bif u3 then some ((11:Int),zB) else
  (((bif (zB.ends).isNone then some [] else
  some ((zB.ends).getD [])):Option (List (Int×wJ)))).bind fun (zD:(List (Int×wJ))) =>
  (yZ zK.Events (zG ((((zK.Events).length:Nat):Int) - (1:Int)))).bind fun yH=>(need ((zD).length<140737488355328)).bind fun _ =>
  (need (((zB.packets).length+(([zK]:List z8)).length) * 48≤140737488355328)).bind fun _ =>
  some ((0:Int),(⟨zB.head,(zB.packets++([zK]:List z8)),(some (wS zD zK.Thread (⟨zG (zK.Serial+(((zK.Events).length:Nat):Int)),yH.At⟩:wJ))),zG (zB.events+(((zK.Events).length:Nat):Int))⟩:y8))))
def lH (F:Nat) (zE:List (Int)) (rec:Bool→Bool→Int→(List y7)→(List yS)→(List yU)→(Option (List (Int×wJ)))→Int→Int→(List z8)→(List y7)→(List yS)→(Option (List (Int×wJ)))→Int→(List yU)→(List z8)→Option wQ) (pC:Bool) (aB:Bool) (xI:Int) (zB:List y7) (y5:List yS) (y6:List yU) (yX:Option (List (Int×wJ))) (xB:Int) (xE:Int) (zF:List z8) (wY:List y7) (w9:List yS) (w7:Option (List (Int×wJ))) (vX:Int) (zY:List yU) (yG:List z8):Option wQ :=
  (need ((0:Int)≤xI∧xI≤(((zE).length:Nat):Int))).bind fun _=>(rS F (sub zE xI (((zE).length:Nat):Int))).bind fun zV =>
  (bif (zV.2.2==(0:Int)) then some (⟨(⟨(⟨zB,y5,y6⟩:yF),zF,yX,xB⟩:y8),xE⟩:wQ) else
  (bif (zV.1==(83:Int)) then (HG F zV.2.1).bind fun yA =>
  (need (((zY).length+(([yA.1]:List yU)).length) * 40≤140737488355328)).bind fun _ =>
  ((bif !yA.2 then (some true) else (bif aB then (some true) else ((lP F w9 (zY++([yA.1]:List yU))).bind fun yV=>some (yV != (0:Int)))))).bind fun (u3:Bool) =>
  (bif u3 then some (⟨(⟨(⟨zB,y5,y6⟩:yF),zF,yX,xB⟩:y8),xE⟩:wQ) else
  rec true aB (zG (xI+zV.2.2)) zB y5 y6 yX xB xE zF wY w9 w7 vX (zY++([yA.1]:List yU)) yG) else
  (bif (zV.1==(80:Int)) then (CX F zV.2.1).bind fun yI =>
  ((bif (yI.2.2 != (0:Int)) then (some (true,wY,w9,w7,vX,zY,yG)) else (bif (yI.2.1 != (((zV.2.1).length:Nat):Int)) then (some (true,wY,w9,w7,vX,zY,yG)) else ((AC F (⟨(⟨wY,w9,zY⟩:yF),yG,w7,vX⟩:y8) yI.1).bind fun yO=>bif (yO.1 != (0:Int)) then (some (true,yO.2.head.Threads,yO.2.head.Domains,yO.2.ends,yO.2.events,yO.2.head.Snaps,yO.2.packets)) else (some (decide (yO.2.events>(20000:Int)),yO.2.head.Threads,yO.2.head.Domains,yO.2.ends,yO.2.events,yO.2.head.Snaps,yO.2.packets)))))).bind fun (kU:Bool×(List y7)×(List yS)×(Option (List (Int×wJ)))×Int×(List yU)×(List z8)) =>
  (bif kU.1 then some (⟨(⟨(⟨zB,y5,y6⟩:yF),zF,yX,xB⟩:y8),xE⟩:wQ) else
  rec true true (zG (xI+zV.2.2)) zB y5 y6 yX xB xE zF kU.2.1 kU.2.2.1 kU.2.2.2.1 kU.2.2.2.2.1 kU.2.2.2.2.2.1 kU.2.2.2.2.2.2) else
  (bif (zV.1==(70:Int)) then (bif (decide ((((zV.2.1).length:Nat):Int)>(0:Int))||!pC) then some (⟨(⟨(⟨zB,y5,y6⟩:yF),zF,yX,xB⟩:y8),xE⟩:wQ) else
  (AH (⟨(⟨wY,w9,zY⟩:yF),yG,w7,vX⟩:y8)).bind fun xL =>
  rec false false (zG (xI+zV.2.2)) wY w9 zY w7 vX (zG (xI+zV.2.2)) yG xL.head.Threads xL.head.Domains xL.ends xL.events xL.head.Snaps xL.packets) else
  some (⟨(⟨(⟨zB,y5,y6⟩:yF),zF,yX,xB⟩:y8),xE⟩:wQ)))))
def r9 (F:Nat) (zE:List (Int)):Nat→Bool→Bool→Int→(List y7)→(List yS)→(List yU)→(Option (List (Int×wJ)))→Int→Int→(List z8)→(List y7)→(List yS)→(Option (List (Int×wJ)))→Int→(List yU)→(List z8)→Option wQ
  | 0,_,_,_,_,_,_,_,_,_,_,_,_,_,_,_,_=>none
  | n+1,pC,aB,xI,zB,y5,y6,yX,xB,xE,zF,wY,w9,w7,vX,zY,yG=>lH F zE (r9 F zE n) pC aB xI zB y5 y6 yX xB xE zF wY w9 w7 vX zY yG
def gR (F:Nat) (zE:List (Int)):Option wQ :=
  (rS F zE).bind fun zA =>
  (HI F zA.2.1).bind fun zC =>
  ((bif (zA.2.2==(0:Int)) then (some true) else (bif (zA.1 != (72:Int)) then (some true) else (bif !zC.2 then (some true) else ((oF F zC.1).bind fun zJ=>some (zJ != (0:Int))))))).bind fun (zK:Bool) =>
  (bif zK then some (⟨(⟨(⟨[],[],[]⟩:yF),[],none,(0:Int)⟩:y8),(0:Int)⟩:wQ) else
  (AH (⟨zC.1,[],none,(0:Int)⟩:y8)).bind fun zS =>
  (r9 F zE F false false zA.2.2 zC.1.Threads zC.1.Domains zC.1.Snaps none (0:Int) zA.2.2 [] zS.head.Threads zS.head.Domains zS.ends zS.events zS.head.Snaps zS.packets).bind fun (zD:wQ) =>
  some zD)
def iE (F:Nat) (zE:List (Int)):Option (yF×(List (z8))×Int) :=
  (gR F zE).bind fun zA =>
  some (zA.done.head,zA.done.packets,zA.used)
def iB (F:Nat) (yJ:yF) (zE:yF) (rec:Int→Option (Unit⊕Bool)) (zP:Int):Option (Unit⊕Bool) :=
  (bif decide (zP<(((yJ.Threads).length:Nat):Int)) then (yZ yJ.Threads zP).bind fun zH=>(yZ zE.Threads zP).bind fun yH =>
  (bif (!(decide (zH=yH))) then some (.inr false) else
  rec (zG (zP+(1:Int)))) else
  some (.inl ()))
def CY (F:Nat) (yJ:yF) (zE:yF):Nat→Int→Option (Unit⊕Bool)
  | 0,_=>none
  | n+1,zP=>iB F yJ zE (CY F yJ zE n) zP
def oK (F:Nat) (yJ:yF) (zE:yF) (rec:Int→Option (Unit⊕Bool)) (xH:Int):Option (Unit⊕Bool) :=
  (bif decide (xH<(((yJ.Domains).length:Nat):Int)) then (yZ yJ.Domains xH).bind fun xA=>(yZ zE.Domains xH).bind fun wM =>
  (bif (!(decide (xA=wM))) then some (.inr false) else
  rec (zG (xH+(1:Int)))) else
  some (.inl ()))
def GX (F:Nat) (yJ:yF) (zE:yF):Nat→Int→Option (Unit⊕Bool)
  | 0,_=>none
  | n+1,xH=>oK F yJ zE (GX F yJ zE n) xH
def oC (F:Nat) (yJ:yF) (zE:yF) (rec:Int→Option (Unit⊕Bool)) (vY:Int):Option (Unit⊕Bool) :=
  (bif decide (vY<(((yJ.Snaps).length:Nat):Int)) then (yZ yJ.Snaps vY).bind fun vL=>(yZ zE.Snaps vY).bind fun tN =>
  (bif (!(decide (vL=tN))) then some (.inr false) else
  rec (zG (vY+(1:Int)))) else
  some (.inl ()))
def D1 (F:Nat) (yJ:yF) (zE:yF):Nat→Int→Option (Unit⊕Bool)
  | 0,_=>none
  | n+1,vY=>oC F yJ zE (D1 F yJ zE n) vY
def AA (F:Nat) (yJ:yF) (zE:yF):Option Bool :=
  (bif (((((yJ.Threads).length:Nat):Int) != (((zE.Threads).length:Nat):Int))||(((((yJ.Domains).length:Nat):Int) != (((zE.Domains).length:Nat):Int))||((((yJ.Snaps).length:Nat):Int) != (((zE.Snaps).length:Nat):Int)))) then some false else
  (CY F yJ zE F (0:Int)).bind fun (zD:Unit⊕Bool) =>
  (match zD with
  | (.inl zZ) =>
  (GX F yJ zE F (0:Int)).bind fun (zR:Unit⊕Bool) =>
  (match zR with
  | (.inl vG) =>
  (D1 F yJ zE F (0:Int)).bind fun (yL:Unit⊕Bool) =>
  (match yL with
  | (.inl q_5) =>
  some true
  | (.inr q_6) =>
  some q_6)
  | (.inr t5) =>
  some t5)
  | (.inr xD) =>
  some xD))
def KM (gM:Int) (xI:Int):Option z8 :=
  some (⟨(1:Int),gM,(0:Int),([(⟨xI,(3:Int),([97]:List Int),(0:Int),(0:Int),[]⟩:yW)]:List yW)⟩:z8)
def NV (F:Nat) (vR:List (yU)) (rec:Int→(List (List (Int)))→Option (List (List (Int)))) (zM:Int) (zF:List (List (Int))):Option (List (List (Int))) :=
  (bif decide (zM<(((vR).length:Nat):Int)) then (yZ vR zM).bind fun zH =>
  (oJ F [] zH).bind fun zA=>(i9 F (83:Int) zA).bind fun zC=>(need (((zF).length+(([zC]:List (List (Int)))).length) * 24≤140737488355328)).bind fun _ =>
  rec (zG (zM+(1:Int))) (zF++([zC]:List (List (Int)))) else
  some zF)
def KA (F:Nat) (vR:List (yU)):Nat→Int→(List (List (Int)))→Option (List (List (Int)))
  | 0,_,_=>none
  | n+1,zM,zF=>NV F vR (KA F vR n) zM zF
def Q1 (F:Nat) (zO:List (z8)) (rec:Int→(List (List (Int)))→Option (List (List (Int)))) (wK:Int) (zY:List (List (Int))):Option (List (List (Int))) :=
  (bif decide (wK<(((zO).length:Nat):Int)) then (yZ zO wK).bind fun yH =>
  (gE F yH).bind fun zJ =>
  (i9 F (80:Int) zJ.1).bind fun zS=>(need (((zY).length+(([zS]:List (List (Int)))).length) * 24≤140737488355328)).bind fun _ =>
  rec (zG (wK+(1:Int))) (zY++([zS]:List (List (Int)))) else
  some zY)
def KV (F:Nat) (zO:List (z8)):Nat→Int→(List (List (Int)))→Option (List (List (Int)))
  | 0,_,_=>none
  | n+1,wK,zY=>Q1 F zO (KV F zO n) wK zY
def OB (F:Nat) (zR:(List (List (Int)))) (zV:(List (Int))) (rec:Int→Int→Option Int) (w4:Int) (vI:Int):Option Int :=
  (bif decide (vI<((((zR++([zV]:List (List (Int))))).length:Nat):Int)) then (yZ (zR++([zV]:List (List (Int)))) vI).bind fun xA =>
  rec (zG (w4+(((xA).length:Nat):Int))) (zG (vI+(1:Int))) else
  some w4)
def JJ (F:Nat) (zR:(List (List (Int)))) (zV:(List (Int))):Nat→Int→Int→Option Int
  | 0,_,_=>none
  | n+1,w4,vI=>OB F zR zV (JJ F zR zV n) w4 vI
def OO (F:Nat) (vR:List (yU)) (zO:List (z8)):Option ((List (List (Int)))×Int) :=
  (KA F vR F (0:Int) []).bind fun (zD:(List (List (Int)))) =>
  (KV F zO F (0:Int) zD).bind fun (zR:(List (List (Int)))) =>
  (i9 F (70:Int) []).bind fun zV=>(need (((zR).length+(([zV]:List (List (Int)))).length) * 24≤140737488355328)).bind fun _ =>
  (JJ F zR zV F (0:Int) (0:Int)).bind fun (yL:Int) =>
  some ((zR++([zV]:List (List (Int)))),yL)
abbrev zY0:Type:=((List y7)×(List yS)×(Option (List (Int×wJ)))×Int×(List yU)×(List z8))
def QU (F:Nat) (zO:List (z8)) (rec:Int→(List y7)→(List yS)→(Option (List (Int×wJ)))→Int→(List yU)→(List z8)→Option (zY0⊕(xO×Int))) (zM:Int) (zB:List y7) (y5:List yS) (y6:Option (List (Int×wJ))) (yX:Int) (zF:List yU) (zY:List z8):Option (zY0⊕(xO×Int)) :=
  (bif decide (zM<(((zO).length:Nat):Int)) then (yZ zO zM).bind fun zH =>
  (fO F zH).bind fun zV =>
  (bif (zV != (0:Int)) then some (.inr ((⟨(0:Int),[],(0:Int),(0:Int),false⟩:xO),zV)) else
  (AC F (⟨(⟨zB,y5,zF⟩:yF),zY,y6,yX⟩:y8) zH).bind fun yA =>
  (bif (yA.1 != (0:Int)) then some (.inr ((⟨(0:Int),[],(0:Int),(0:Int),false⟩:xO),yA.1)) else
  (gE F zH).bind fun yV =>
  (bif (yV.2 != (0:Int)) then some (.inr ((⟨(0:Int),[],(0:Int),(0:Int),false⟩:xO),yV.2)) else
  rec (zG (zM+(1:Int))) yA.2.head.Threads yA.2.head.Domains yA.2.ends yA.2.events yA.2.head.Snaps yA.2.packets))) else
  some (.inl (zB,y5,y6,yX,zF,zY)))
def LY (F:Nat) (zO:List (z8)):Nat→Int→(List y7)→(List yS)→(Option (List (Int×wJ)))→Int→(List yU)→(List z8)→Option (zY0⊕(xO×Int))
  | 0,_,_,_,_,_,_,_=>none
  | n+1,zM,zB,y5,y6,yX,zF,zY=>QU F zO (LY F zO n) zM zB y5 y6 yX zF zY
def KU (F:Nat) (zN:xO) (vR:List (yU)) (zO:List (z8)):Option (xO×Int) :=
  (mP zN).bind fun zA =>
  (bif (zA != (0:Int)) then some ((⟨(0:Int),[],(0:Int),(0:Int),false⟩:xO),zA) else
  (bif zN.Down then some (zN,(19:Int)) else
  (gR F zN.Data).bind fun zC =>
  (bif ((zC.used==(0:Int))||(zC.used != (((zN.Data).length:Nat):Int))) then some ((⟨(0:Int),[],(0:Int),(0:Int),false⟩:xO),(18:Int)) else
  (bif ((zG ((((vR).length:Nat):Int)+(((zO).length:Nat):Int)))==(0:Int)) then some (zN,(0:Int)) else
  (DZ zC.done.head.Snaps).bind fun zJ=>(need (((zJ).length+(vR).length) * 40≤140737488355328)).bind fun _ =>
  (lP F zC.done.head.Domains (zJ++vR)).bind fun zS =>
  (bif (zS != (0:Int)) then some ((⟨(0:Int),[],(0:Int),(0:Int),false⟩:xO),zS) else
  (LY F zO F (0:Int) zC.done.head.Threads zC.done.head.Domains zC.done.ends zC.done.events (zJ++vR) zC.done.packets).bind fun (zD:zY0⊕(xO×Int)) =>
  (match zD with
  | (.inl zZ) =>
  (bif decide (zZ.2.2.2.1>(20000:Int)) then some ((⟨(0:Int),[],(0:Int),(0:Int),false⟩:xO),(7:Int)) else
  (OO F vR zO).bind fun yI =>
  (bif decide ((zG ((((zN.Data).length:Nat):Int)+yI.2))>zN.Size) then some ((⟨(0:Int),[],(0:Int),(0:Int),false⟩:xO),(6:Int)) else
  (MP F zN yI.1).bind fun yO =>
  some (yO.1,yO.2)))
  | (.inr xD) =>
  some xD))))))
def RH (zN:xO) (z7:Int):Option (xO×Int) :=
  (fI zN).bind fun zA =>
  (bif (zA.2 != (0:Int)) then some (zA.1,zA.2) else
  (bif (decide (z7<(0:Int))||decide (z7>(1048576:Int))) then some ((⟨(0:Int),[],(0:Int),(0:Int),false⟩:xO),(2:Int)) else
  some ((⟨zA.1.Size,zA.1.Data,zA.1.Durable,z7,zA.1.Down⟩:xO),(0:Int))))
def NX (zN:xO) (gN:Int):Option xO :=
  (mP zN).bind fun zA =>
  (bif (zA != (0:Int)) then some zN else
  (((bif decide (gN<(zG ((((zN.Data).length:Nat):Int) - zN.Durable))) then some (zG (zN.Durable+(rG gN (0:Int)))) else
  some (((zN.Data).length:Nat):Int)):Option Int)).bind fun (zD:Int) =>
  (need ((0:Int)≤zD∧zD≤(((zN.Data).length:Nat):Int))).bind fun _=>(MO (sub zN.Data (0:Int) zD)).bind fun zC =>
  some (⟨zN.Size,zC,zD,(-1:Int),false⟩:xO))
def OY (zN:xO) (z7:Int):Option (xO×Int) :=
  (fI zN).bind fun zA =>
  (bif (zA.2 != (0:Int)) then some (zA.1,zA.2) else
  (bif (decide (z7<(0:Int))||decide (z7>(((zA.1.Data).length:Nat):Int))) then some ((⟨(0:Int),[],(0:Int),(0:Int),false⟩:xO),(2:Int)) else
  (need ((0:Int)≤z7∧z7≤(((zA.1.Data).length:Nat):Int))).bind fun _ =>
  some ((⟨zA.1.Size,sub zA.1.Data (0:Int) z7,fR zA.1.Durable z7,zA.1.Left,zA.1.Down⟩:xO),(0:Int))))
def ON (F:Nat) (zN:xO):Option (xO×Int) :=
  (mP zN).bind fun zA =>
  (bif (zA != (0:Int)) then some ((⟨(0:Int),[],(0:Int),(0:Int),false⟩:xO),zA) else
  (bif zN.Down then some (zN,(19:Int)) else
  (gR F zN.Data).bind fun zC =>
  (bif (zC.used==(0:Int)) then some ((⟨(0:Int),[],(0:Int),(0:Int),false⟩:xO),(10:Int)) else
  (OY zN zC.used).bind fun zJ =>
  (bif (zJ.2 != (0:Int)) then some (zJ.1,zJ.2) else
  (J4 zJ.1).bind fun zS =>
  some (zS.1,zS.2)))))
def G4 (F:Nat):Option Bool :=
  (MT (1000:Int)).bind fun zA =>
  (JX ).bind fun zC=>(SB F zA.1 zC).bind fun zJ =>
  (iE F zJ.1.Data).bind fun zS =>
  ((bif (zA.2 != (0:Int)) then (some true) else (bif (zJ.2 != (0:Int)) then (some true) else ((JX ).bind fun zV=>(AA F zS.1 zV).bind fun yA=>bif !yA then (some true) else (bif ((((zS.2.1).length:Nat):Int) != (0:Int)) then (some true) else (bif (zS.2.2 != (((zJ.1.Data).length:Nat):Int)) then (some true) else (some (zS.2.2==(0:Int))))))))).bind fun (zK:Bool) =>
  (bif zK then some false else
  (need ((0:Int)≤(zG (zS.2.2 - (1:Int)))∧(zG (zS.2.2 - (1:Int)))≤(((zJ.1.Data).length:Nat):Int))).bind fun _=>(iE F (sub zJ.1.Data (0:Int) (zG (zS.2.2 - (1:Int))))).bind fun yV =>
  (KM (0:Int) (5:Int)).bind fun yI=>(KU F zJ.1 [] ([yI]:List z8)).bind fun yO =>
  (bif ((yO.2 != (0:Int))||(yV.2.2 != (0:Int))) then some false else
  (RH zJ.1 (zG ((zG ((((yO.1.Data).length:Nat):Int) - zS.2.2)) - (1:Int)))).bind fun xL =>
  (KM (0:Int) (5:Int)).bind fun wN=>(KU F xL.1 [] ([wN]:List z8)).bind fun nA =>
  (NX nA.1 (1000:Int)).bind fun nB=>(ON F nB).bind fun pB =>
  (i9 F (70:Int) []).bind fun nO =>
  ((bif (nA.2==(19:Int)) then (bif (pB.2==(0:Int)) then (bif ((((pB.1.Data).length:Nat):Int)==zS.2.2) then (bif decide ((((nO).length:Nat):Int)>(2:Int)) then ((yZ nO (0:Int)).bind fun zH=>bif (zH==(70:Int)) then ((yZ nO (1:Int)).bind fun yH=>some (yH==(0:Int))) else (some false)) else (some false)) else (some false)) else (some false)) else (some false))).bind fun (u3:Bool) =>
  some u3))
structure v5 where
  B:List (Int)
  Bad:Bool
  deriving DecidableEq,Inhabited
def tM (s:v5):List AV:=[.sl false 1 (List.map (AV.int .u8) s.B),.bool s.Bad]
def C1 (x5:Int):Option Int :=
  (bif ((qP x5 (2:Int))==(1:Int)) then some (zG ((zG (0 - (zG (pU .u64 x5 (2:Int))))) - (1:Int))) else
  some (zG (pU .u64 x5 (2:Int))))
def CP (F:Nat) (zE:List (Int)) (rec:Int→Int→Int→Option (Unit⊕(Int×Int×Int))) (x5:Int) (aC:Int) (zP:Int):Option (Unit⊕(Int×Int×Int)) :=
  (bif decide (zP<(10:Int)) then (bif decide (zP≥(((zE).length:Nat):Int)) then some (.inr ((0:Int),(0:Int),(8:Int))) else
  (yZ zE zP).bind fun zH =>
  (bif ((zP==(9:Int))&&decide ((vU zH)>(1:Int))) then some (.inr ((0:Int),(0:Int),(10:Int))) else
  (bif (decide ((vU zH)<(128:Int))&&(((vU zH)==(0:Int))&&decide (zP>(0:Int)))) then some (.inr ((0:Int),(0:Int),(10:Int))) else
  (bif decide ((vU zH)<(128:Int)) then (C1 (vU (x5+(vU ((qP (vU zH) (128:Int)) * aC))))).bind fun zA =>
  some (.inr (zA,zG (zP+(1:Int)),(0:Int))) else
  rec (vU (x5+(vU ((qP (vU zH) (128:Int)) * aC)))) (vU (aC * (128:Int))) (zG (zP+(1:Int))))))) else
  some (.inl ()))
def mR (F:Nat) (zE:List (Int)):Nat→Int→Int→Int→Option (Unit⊕(Int×Int×Int))
  | 0,_,_,_=>none
  | n+1,x5,aC,zP=>CP F zE (mR F zE n) x5 aC zP
def fL (F:Nat) (zE:List (Int)):Option (Int×Int×Int) :=
  (mR F zE F (0:Int) (1:Int) (0:Int)).bind fun (zD:Unit⊕(Int×Int×Int)) =>
  (match zD with
  | (.inl zZ) =>
  some ((0:Int),(0:Int),(10:Int))
  | (.inr xD) =>
  some xD)
def pP (F:Nat) (zH:v5):Option (Int×v5) :=
  (fL F zH.B).bind fun zA =>
  (bif (zA.2.2 != (0:Int)) then some ((0:Int),(⟨zH.B,true⟩:v5)) else
  (need ((0:Int)≤zA.2.1∧zA.2.1≤(((zH.B).length:Nat):Int))).bind fun _ =>
  some (zA.1,(⟨sub zH.B zA.2.1 (((zH.B).length:Nat):Int),zH.Bad⟩:v5)))
def lE (F:Nat) (rec:Int→Int→Option Int) (xA:Int) (xC:Int):Option Int :=
  (bif decide (xC<(8:Int)) then (((bif ((qP xA (2:Int))==(1:Int)) then some (tJ .u32 (pU .u32 xA (2:Int)) (3988292384:Int)) else
  some (pU .u32 xA (2:Int))):Option Int)).bind fun (yL:Int) =>
  rec yL (zG (xC+(1:Int))) else
  some xA)
def gB (F:Nat):Nat→Int→Int→Option Int
  | 0,_,_=>none
  | n+1,xA,xC=>lE F (gB F n) xA xC
def EZ (F:Nat) (zE:List (Int)) (rec:Int→Int→Option Int) (zH:Int) (zP:Int):Option Int :=
  (bif decide (zP<(((zE).length:Nat):Int)) then (yZ zE zP).bind fun yH =>
  (gB F F (tJ .u32 zH (gI yH)) (0:Int)).bind fun (zR:Int) =>
  rec zR (zG (zP+(1:Int))) else
  some zH)
def l9 (F:Nat) (zE:List (Int)):Nat→Int→Int→Option Int
  | 0,_,_=>none
  | n+1,zH,zP=>EZ F zE (l9 F zE n) zH zP
def C4 (F:Nat) (zE:List (Int)):Option Int :=
  (l9 F zE F (4294967295:Int) (0:Int)).bind fun (zD:Int) =>
  some (zG (tJ .u32 zD (4294967295:Int)))
def A9 (F:Nat) (zE:List (Int)):Option (Int×(List (Int))×Int) :=
  (bif ((((zE).length:Nat):Int)==(0:Int)) then some ((0:Int),[],(0:Int)) else
  (need ((1:Int)≤(((zE).length:Nat):Int))).bind fun _ =>
  (pP F (⟨sub zE (1:Int) (((zE).length:Nat):Int),false⟩:v5)).bind fun zA =>
  (pP F zA.2).bind fun zC =>
  (bif (zC.2.Bad||(decide (zA.1<(0:Int))||decide (zA.1>(((zC.2.B).length:Nat):Int)))) then some ((0:Int),[],(0:Int)) else
  (need ((0:Int)≤zA.1∧zA.1≤(((zC.2.B).length:Nat):Int))).bind fun _ =>
  (yZ zE (0:Int)).bind fun zH=>(need (((([zH]:List Int)).length+(sub zC.2.B (0:Int) zA.1).length) * 1≤140737488355328)).bind fun _ =>
  (C4 F (([zH]:List Int)++(sub zC.2.B (0:Int) zA.1))).bind fun zJ =>
  (bif (zJ != zC.1) then some ((0:Int),[],(0:Int)) else
  (yZ zE (0:Int)).bind fun yH =>
  some (yH,sub zC.2.B (0:Int) zA.1,zG ((zG ((((zE).length:Nat):Int) - (((zC.2.B).length:Nat):Int)))+zA.1)))))
def lW (F:Nat) (zH:v5) (tA:Int):Option (Int×v5) :=
  (pP F zH).bind fun zA =>
  (bif (decide (zA.1<(0:Int))||decide (zA.1>tA)) then some ((0:Int),(⟨zA.2.B,true⟩:v5)) else
  some (zA.1,zA.2))
def AZ (F:Nat) (zE:List (Int)) (tA:Int):Option ((List Int)×Int×Int) :=
  (fL F zE).bind fun zA =>
  (bif (zA.2.2 != (0:Int)) then some (([]:List Int),(0:Int),zA.2.2) else
  (bif decide (zA.1<(0:Int)) then some (([]:List Int),(0:Int),(10:Int)) else
  (bif decide (zA.1>tA) then some (([]:List Int),(0:Int),(7:Int)) else
  (bif decide (zA.1>(zG ((((zE).length:Nat):Int) - zA.2.1))) then some (([]:List Int),(0:Int),(8:Int)) else
  (need ((0:Int)≤zA.2.1∧zA.2.1≤(zG (zA.2.1+zA.1))∧(zG (zA.2.1+zA.1))≤(((zE).length:Nat):Int))).bind fun _ =>
  some (sub zE zA.2.1 (zG (zA.2.1+zA.1)),zG (zA.2.1+zA.1),(0:Int))))))
def EL (F:Nat) (zH:v5):Option ((List Int)×v5) :=
  (AZ F zH.B (40:Int)).bind fun zA =>
  (bif (zA.2.2 != (0:Int)) then some (([]:List Int),(⟨zH.B,true⟩:v5)) else
  (need ((0:Int)≤zA.2.1∧zA.2.1≤(((zH.B).length:Nat):Int))).bind fun _ =>
  some (zA.1,(⟨sub zH.B zA.2.1 (((zH.B).length:Nat):Int),zH.Bad⟩:v5)))
def rO (F:Nat) (zH:v5):Option (yU×v5) :=
  (pP F zH).bind fun zA =>
  (pP F zA.2).bind fun zC =>
  (pP F zC.2).bind fun zJ =>
  (pP F zJ.2).bind fun zS =>
  (pP F zS.2).bind fun zV =>
  some ((⟨zA.1,zC.1,zJ.1,(⟨zS.1,zV.1⟩:CF)⟩:yU),zV.2)
def mL (F:Nat) (zB:Int) (rec:Int→Option (Unit⊕Bool)) (zP:Int):Option (Unit⊕Bool) :=
  (bif decide (zP<(((([95,46,58,47,60,62,36,42,126,45]:List Int)).length:Nat):Int)) then (yZ ([95,46,58,47,60,62,36,42,126,45]:List Int) zP).bind fun y5 =>
  (bif (y5==zB) then some (.inr true) else
  rec (zG (zP+(1:Int)))) else
  some (.inl ()))
def fT (F:Nat) (zB:Int):Nat→Int→Option (Unit⊕Bool)
  | 0,_=>none
  | n+1,zP=>mL F zB (fT F zB n) zP
def DD (F:Nat) (zB:Int):Option Bool :=
  (bif (bif decide (zB≥(97:Int)) then (decide (zB≤(122:Int))||(bif decide (zB≥(65:Int)) then (decide (zB≤(90:Int))||(decide (zB≥(48:Int))&&decide (zB≤(57:Int)))) else (decide (zB≥(48:Int))&&decide (zB≤(57:Int))))) else (bif decide (zB≥(65:Int)) then (decide (zB≤(90:Int))||(decide (zB≥(48:Int))&&decide (zB≤(57:Int)))) else (decide (zB≥(48:Int))&&decide (zB≤(57:Int))))) then some true else
  (fT F zB F (0:Int)).bind fun (zD:Unit⊕Bool) =>
  (match zD with
  | (.inl zZ) =>
  some false
  | (.inr xD) =>
  some xD))
def D3 (F:Nat) (zI:List Int) (rec:Int→Option (Unit⊕Int)) (zP:Int):Option (Unit⊕Int) :=
  (bif decide (zP<(((zI).length:Nat):Int)) then (yZ zI zP).bind fun zB=>(DD F zB).bind fun zA =>
  (bif !zA then some (.inr (3:Int)) else
  rec (zG (zP+(1:Int)))) else
  some (.inl ()))
def CV (F:Nat) (zI:List Int):Nat→Int→Option (Unit⊕Int)
  | 0,_=>none
  | n+1,zP=>D3 F zI (CV F zI n) zP
def cZ (F:Nat) (zI:List Int):Option Int :=
  (bif (decide ((((zI).length:Nat):Int)<(1:Int))||decide ((((zI).length:Nat):Int)>(40:Int))) then some (3:Int) else
  (CV F zI F (0:Int)).bind fun (zD:Unit⊕Int) =>
  (match zD with
  | (.inl zZ) =>
  some (0:Int)
  | (.inr xD) =>
  some xD))
def HJ (F:Nat) (tE:y7):Option Int :=
  (bif (decide (tE.Id<(0:Int))||(decide (tE.Id>(1000000000000000:Int))||(decide (tE.Domain<(0:Int))||decide (tE.Domain≥(8:Int))))) then some (2:Int) else
  (cZ F tE.Name).bind fun zA =>
  some zA)
def lJ (F:Nat) (zN:List (yS)) (t4:Int) (rec:Int→Option (Unit⊕Int)) (zP:Int):Option (Unit⊕Int) :=
  (bif decide (zP<(((zN).length:Nat):Int)) then (yZ zN zP).bind fun zH =>
  (bif (zH.Id==t4) then some (.inr zP) else
  rec (zG (zP+(1:Int)))) else
  some (.inl ()))
def EE (F:Nat) (zN:List (yS)) (t4:Int):Nat→Int→Option (Unit⊕Int)
  | 0,_=>none
  | n+1,zP=>lJ F zN t4 (EE F zN t4 n) zP
def fD (F:Nat) (zN:List (yS)) (t4:Int):Option Int :=
  (EE F zN t4 F (0:Int)).bind fun (zD:Unit⊕Int) =>
  (match zD with
  | (.inl zZ) =>
  some (-1:Int)
  | (.inr xD) =>
  some xD)
def BG (z7:Int):Option Bool :=
  some (decide (z7≥(0:Int))&&decide (z7≤(1000000000000:Int)))
def G1 (F:Nat) (zN:List (yS)) (zH:yU):Option Int :=
  (((fD F zN zH.A).bind fun zA=>bif decide (zA<(0:Int)) then (some true) else ((fD F zN zH.B).bind fun zC=>some (decide (zC<(0:Int)))))).bind fun (zK:Bool) =>
  (bif zK then some (5:Int) else
  (bif (zH.A==zH.B) then some (1:Int) else
  (((BG zH.AtA).bind fun zJ=>bif !zJ then (some true) else ((BG zH.AtB.Lo).bind fun zS=>bif !zS then (some true) else ((BG zH.AtB.Hi).bind fun zV=>bif !zV then (some true) else (some (decide (zH.AtB.Lo>zH.AtB.Hi))))))).bind fun (u3:Bool) =>
  (bif u3 then some (2:Int) else
  some (0:Int))))
def mC (F:Nat) (zN:List (yS)) (rec:Int→Option (Unit⊕Int)) (zP:Int):Option (Unit⊕Int) :=
  (bif decide (zP<(((zN).length:Nat):Int)) then (((yZ zN zP).bind fun xA=>bif decide (xA.Id<(0:Int)) then (some true) else ((yZ zN zP).bind fun wM=>bif decide (wM.Id≥(8:Int)) then (some true) else ((yZ zN zP).bind fun vL=>bif decide (vL.Ppm<(0:Int)) then (some true) else ((yZ zN zP).bind fun tN=>some (decide (tN.Ppm>(10000:Int)))))))).bind fun (u3:Bool) =>
  (bif u3 then some (.inr (2:Int)) else
  (yZ zN zP).bind fun dY=>(fD F zN dY.Id).bind fun zA =>
  (bif decide (zA<zP) then some (.inr (4:Int)) else
  rec (zG (zP+(1:Int))))) else
  some (.inl ()))
def DJ (F:Nat) (zN:List (yS)):Nat→Int→Option (Unit⊕Int)
  | 0,_=>none
  | n+1,zP=>mC F zN (DJ F zN n) zP
def lZ (F:Nat) (zN:List (yS)) (zO:List (yU)) (rec:Int→Option (Unit⊕Int)) (xH:Int):Option (Unit⊕Int) :=
  (bif decide (xH<(((zO).length:Nat):Int)) then (yZ zO xH).bind fun gO=>(G1 F zN gO).bind fun zC =>
  (bif (zC != (0:Int)) then some (.inr zC) else
  rec (zG (xH+(1:Int)))) else
  some (.inl ()))
def HX (F:Nat) (zN:List (yS)) (zO:List (yU)):Nat→Int→Option (Unit⊕Int)
  | 0,_=>none
  | n+1,xH=>lZ F zN zO (HX F zN zO n) xH
def iU (F:Nat) (zN:List (yS)) (zO:List (yU)):Option Int :=
  (bif ((((zN).length:Nat):Int)==(0:Int)) then some (8:Int) else
  (bif (decide ((((zN).length:Nat):Int)>(8:Int))||decide ((((zO).length:Nat):Int)>(200:Int))) then some (7:Int) else
  (((yZ zN (0:Int)).bind fun zH=>bif (zH.Id != (0:Int)) then (some true) else ((yZ zN (0:Int)).bind fun yH=>some (yH.Ppm != (0:Int))))).bind fun (zK:Bool) =>
  (bif zK then some (10:Int) else
  (DJ F zN F (0:Int)).bind fun (zD:Unit⊕Int) =>
  (match zD with
  | (.inl zZ) =>
  (HX F zN zO F (0:Int)).bind fun (zR:Unit⊕Int) =>
  (match zR with
  | (.inl vG) =>
  some (0:Int)
  | (.inr t5) =>
  some t5)
  | (.inr xD) =>
  some xD))))
def HR (F:Nat) (zN:List (yS)) (t4:Int):Option (Int×Bool) :=
  (fD F zN t4).bind fun zA =>
  (((iU F zN []).bind fun zC=>bif (zC != (0:Int)) then (some true) else (some (decide (zA<(0:Int)))))).bind fun (zK:Bool) =>
  (bif zK then some ((0:Int),false) else
  (yZ zN zA).bind fun zH =>
  some (zH.Ppm,true))
def mX (F:Nat) (zL:yF) (zP:Int) (rec:Int→Option (Unit⊕Int)) (xC:Int):Option (Unit⊕Int) :=
  (bif decide (xC<zP) then (yZ zL.Threads xC).bind fun yH=>(yZ zL.Threads zP).bind fun xA =>
  (bif (yH.Id==xA.Id) then some (.inr (4:Int)) else
  rec (zG (xC+(1:Int)))) else
  some (.inl ()))
def CC (F:Nat) (zL:yF) (zP:Int):Nat→Int→Option (Unit⊕Int)
  | 0,_=>none
  | n+1,xC=>mX F zL zP (CC F zL zP n) xC
def oD (F:Nat) (zL:yF) (rec:Int→Option (Unit⊕Int)) (zP:Int):Option (Unit⊕Int) :=
  (bif decide (zP<(((zL.Threads).length:Nat):Int)) then (yZ zL.Threads zP).bind fun zH=>(HJ F zH).bind fun zA =>
  (bif (zA != (0:Int)) then some (.inr zA) else
  (CC F zL zP F (0:Int)).bind fun (zR:Unit⊕Int) =>
  (match zR with
  | (.inl zZ) =>
  rec (zG (zP+(1:Int)))
  | (.inr xD) =>
  some (.inr xD))) else
  some (.inl ()))
def H2 (F:Nat) (zL:yF):Nat→Int→Option (Unit⊕Int)
  | 0,_=>none
  | n+1,zP=>oD F zL (H2 F zL n) zP
def iO (F:Nat) (zL:yF) (rec:Int→Option (Unit⊕Int)) (xH:Int):Option (Unit⊕Int) :=
  (bif decide (xH<(((zL.Threads).length:Nat):Int)) then (yZ zL.Threads xH).bind fun wM=>(HR F zL.Domains wM.Domain).bind fun zJ =>
  (bif !zJ.2 then some (.inr (5:Int)) else
  rec (zG (xH+(1:Int)))) else
  some (.inl ()))
def BX (F:Nat) (zL:yF):Nat→Int→Option (Unit⊕Int)
  | 0,_=>none
  | n+1,xH=>iO F zL (BX F zL n) xH
def HV (F:Nat) (zL:yF):Option Int :=
  (bif ((((zL.Threads).length:Nat):Int)==(0:Int)) then some (8:Int) else
  (bif decide ((((zL.Threads).length:Nat):Int)>(64:Int)) then some (7:Int) else
  (H2 F zL F (0:Int)).bind fun (zD:Unit⊕Int) =>
  (match zD with
  | (.inl vG) =>
  (iU F zL.Domains zL.Snaps).bind fun zC =>
  (bif (zC != (0:Int)) then some zC else
  (BX F zL F (0:Int)).bind fun (yL:Unit⊕Int) =>
  (match yL with
  | (.inl q_5) =>
  some (0:Int)
  | (.inr q_6) =>
  some q_6))
  | (.inr t5) =>
  some t5)))
def oG (F:Nat) (zA:Int×v5) (rec:Int→(List Int)→Bool→(List y7)→Option ((List Int)×Bool×(List y7))) (zP:Int) (zB:List Int) (y5:Bool) (zF:List y7):Option ((List Int)×Bool×(List y7)) :=
  (bif (decide (zP<zA.1)&&!y5) then (pP F (⟨zB,y5⟩:v5)).bind fun zC =>
  (EL F zC.2).bind fun zJ =>
  (pP F zJ.2).bind fun zS =>
  (need (((zF).length+(([(⟨zC.1,zJ.1,zS.1⟩:y7)]:List y7)).length) * 32≤140737488355328)).bind fun _ =>
  rec (zG (zP+(1:Int))) zS.2.B zS.2.Bad (zF++([(⟨zC.1,zJ.1,zS.1⟩:y7)]:List y7)) else
  some (zB,y5,zF))
def AN (F:Nat) (zA:Int×v5):Nat→Int→(List Int)→Bool→(List y7)→Option ((List Int)×Bool×(List y7))
  | 0,_,_,_,_=>none
  | n+1,zP,zB,y5,zF=>oG F zA (AN F zA n) zP zB y5 zF
def mH (F:Nat) (zV:Int×v5) (rec:Int→(List Int)→Bool→(List yS)→Option ((List Int)×Bool×(List yS))) (xH:Int) (y6:List Int) (yX:Bool) (zY:List yS):Option ((List Int)×Bool×(List yS)) :=
  (bif (decide (xH<zV.1)&&!yX) then (pP F (⟨y6,yX⟩:v5)).bind fun yA =>
  (pP F yA.2).bind fun yV =>
  (need (((zY).length+(([(⟨yA.1,yV.1⟩:yS)]:List yS)).length) * 16≤140737488355328)).bind fun _ =>
  rec (zG (xH+(1:Int))) yV.2.B yV.2.Bad (zY++([(⟨yA.1,yV.1⟩:yS)]:List yS)) else
  some (y6,yX,zY))
def BK (F:Nat) (zV:Int×v5):Nat→Int→(List Int)→Bool→(List yS)→Option ((List Int)×Bool×(List yS))
  | 0,_,_,_,_=>none
  | n+1,xH,y6,yX,zY=>mH F zV (BK F zV n) xH y6 yX zY
def lC (F:Nat) (yI:Int×v5) (rec:Int→(List Int)→Bool→(List yU)→Option ((List Int)×Bool×(List yU))) (vY:Int) (xB:List Int) (xE:Bool) (yG:List yU):Option ((List Int)×Bool×(List yU)) :=
  (bif (decide (vY<yI.1)&&!xE) then (rO F (⟨xB,xE⟩:v5)).bind fun yO=>(need (((yG).length+(([yO.1]:List yU)).length) * 40≤140737488355328)).bind fun _ =>
  rec (zG (vY+(1:Int))) yO.2.B yO.2.Bad (yG++([yO.1]:List yU)) else
  some (xB,xE,yG))
def rJ (F:Nat) (yI:Int×v5):Nat→Int→(List Int)→Bool→(List yU)→Option ((List Int)×Bool×(List yU))
  | 0,_,_,_,_=>none
  | n+1,vY,xB,xE,yG=>lC F yI (rJ F yI n) vY xB xE yG
def C9 (F:Nat) (zE:List (Int)):Option (yF×Bool) :=
  (lW F (⟨zE,false⟩:v5) (64:Int)).bind fun zA =>
  (AN F zA F (0:Int) zA.2.B zA.2.Bad []).bind fun (zD:((List Int)×Bool×(List y7))) =>
  (lW F (⟨zD.1,zD.2.1⟩:v5) (8:Int)).bind fun zV =>
  (BK F zV F (0:Int) zV.2.B zV.2.Bad []).bind fun (zR:((List Int)×Bool×(List yS))) =>
  (lW F (⟨zR.1,zR.2.1⟩:v5) (200:Int)).bind fun yI =>
  (rJ F yI F (0:Int) yI.2.B yI.2.Bad []).bind fun (yL:((List Int)×Bool×(List yU))) =>
  ((bif !yL.2.1 then (bif ((((yL.1).length:Nat):Int)==(0:Int)) then ((HV F (⟨zD.2.2,zR.2.2,yL.2.2⟩:yF)).bind fun xL=>some (xL==(0:Int))) else (some false)) else (some false))).bind fun (zK:Bool) =>
  some ((⟨zD.2.2,zR.2.2,yL.2.2⟩:yF),zK)
structure vP where
  B:List (Int)
  At:Int
  E:Int
  deriving DecidableEq,Inhabited
def u6 (s:vP):List AV:=[.sl false 1 (List.map (AV.int .u8) s.B),.int .i64 s.At,.int .i64 s.E]
def aL (F:Nat) (zB:vP):Option (Int×vP) :=
  (bif (zB.E != (0:Int)) then some ((0:Int),zB) else
  (need ((0:Int)≤zB.At∧zB.At≤(((zB.B).length:Nat):Int))).bind fun _=>(fL F (sub zB.B zB.At (((zB.B).length:Nat):Int))).bind fun zA =>
  some (zA.1,(⟨zB.B,zG (zB.At+zA.2.1),zA.2.2⟩:vP)))
def bW (F:Nat) (zB:vP) (tA:Int):Option (Int×vP) :=
  (aL F zB).bind fun zA =>
  (bif (zA.2.E != (0:Int)) then some ((0:Int),zA.2) else
  (bif decide (zA.1<(0:Int)) then some ((0:Int),(⟨zA.2.B,zA.2.At,(10:Int)⟩:vP)) else
  (bif decide (zA.1>tA) then some ((0:Int),(⟨zA.2.B,zA.2.At,(7:Int)⟩:vP)) else
  some (zA.1,zA.2))))
def HD (F:Nat) (zB:vP):Option ((List Int)×vP) :=
  (bif (zB.E != (0:Int)) then some (([]:List Int),zB) else
  (need ((0:Int)≤zB.At∧zB.At≤(((zB.B).length:Nat):Int))).bind fun _=>(AZ F (sub zB.B zB.At (((zB.B).length:Nat):Int)) (40:Int)).bind fun zA =>
  some (zA.1,(⟨zB.B,zG (zB.At+zA.2.1),zA.2.2⟩:vP)))
def gT (F:Nat) (zO:List (List Int)) (zI:List Int) (rec:Int→Option (Unit⊕Int)) (zP:Int):Option (Unit⊕Int) :=
  (bif decide (zP<(((zO).length:Nat):Int)) then (yZ zO zP).bind fun zH =>
  (bif (zH==zI) then some (.inr zP) else
  rec (zG (zP+(1:Int)))) else
  some (.inl ()))
def E6 (F:Nat) (zO:List (List Int)) (zI:List Int):Nat→Int→Option (Unit⊕Int)
  | 0,_=>none
  | n+1,zP=>gT F zO zI (E6 F zO zI n) zP
def rK (F:Nat) (zO:List (List Int)) (zI:List Int):Option Int :=
  (E6 F zO zI F (0:Int)).bind fun (zD:Unit⊕Int) =>
  (match zD with
  | (.inl zZ) =>
  some (-1:Int)
  | (.inr xD) =>
  some xD)
def lT (F:Nat) (zO:List (zQ)) (zK:zQ) (rec:Int→Option (Unit⊕Int)) (zP:Int):Option (Unit⊕Int) :=
  (bif decide (zP<(((zO).length:Nat):Int)) then (yZ zO zP).bind fun zH =>
  (bif (decide (zH=zK)) then some (.inr zP) else
  rec (zG (zP+(1:Int)))) else
  some (.inl ()))
def E4 (F:Nat) (zO:List (zQ)) (zK:zQ):Nat→Int→Option (Unit⊕Int)
  | 0,_=>none
  | n+1,zP=>lT F zO zK (E4 F zO zK n) zP
def BO (F:Nat) (zO:List (zQ)) (zK:zQ):Option Int :=
  (E4 F zO zK F (0:Int)).bind fun (zD:Unit⊕Int) =>
  (match zD with
  | (.inl zZ) =>
  some (-1:Int)
  | (.inr xD) =>
  some xD)
def l8 (F:Nat) (z0:List (zQ)) (rec:Int→Int→Option Int) (xH:Int) (z7:Int):Option Int :=
  (bif decide (xH≥(0:Int)) then (yZ z0 xH).bind fun zH =>
  rec zH.c0 (zG (z7+(1:Int))) else
  some z7)
def BM (F:Nat) (z0:List (zQ)):Nat→Int→Int→Option Int
  | 0,_,_=>none
  | n+1,xH,z7=>l8 F z0 (BM F z0 n) xH z7
def LG (F:Nat) (z0:List (zQ)) (zP:Int):Option Int :=
  (BM F z0 F zP (0:Int)).bind fun (zD:Int) =>
  some zD
def gS (F:Nat) (zW:List (List Int)) (rec:Int→Option (Unit⊕Int)) (zP:Int):Option (Unit⊕Int) :=
  (bif decide (zP<(((zW).length:Nat):Int)) then (yZ zW zP).bind fun zH=>(cZ F zH).bind fun zA =>
  (bif (zA != (0:Int)) then some (.inr (3:Int)) else
  (need ((0:Int)≤zP∧zP≤(((zW).length:Nat):Int))).bind fun _=>(yZ zW zP).bind fun yH=>(rK F (sub zW (0:Int) zP) yH).bind fun zC =>
  (bif decide (zC≥(0:Int)) then some (.inr (4:Int)) else
  rec (zG (zP+(1:Int))))) else
  some (.inl ()))
def o5 (F:Nat) (zW:List (List Int)):Nat→Int→Option (Unit⊕Int)
  | 0,_=>none
  | n+1,zP=>gS F zW (o5 F zW n) zP
def DS (F:Nat) (zW:List (List Int)) (z0:List (zQ)) (rec:Int→Option (Unit⊕Int)) (xH:Int):Option (Unit⊕Int) :=
  (bif decide (xH<(((z0).length:Nat):Int)) then (yZ z0 xH).bind fun xA =>
  (bif (decide (xA.c0<(-1:Int))||(decide (xA.c0≥xH)||(decide (xA.c1<(0:Int))||decide (xA.c1≥(((zW).length:Nat):Int))))) then some (.inr (2:Int)) else
  (need ((0:Int)≤xH∧xH≤(((z0).length:Nat):Int))).bind fun _=>(BO F (sub z0 (0:Int) xH) xA).bind fun zJ =>
  (bif decide (zJ≥(0:Int)) then some (.inr (4:Int)) else
  (LG F z0 xH).bind fun zS =>
  (bif decide (zS>(32:Int)) then some (.inr (7:Int)) else
  rec (zG (xH+(1:Int)))))) else
  some (.inl ()))
def B8 (F:Nat) (zW:List (List Int)) (z0:List (zQ)):Nat→Int→Option (Unit⊕Int)
  | 0,_=>none
  | n+1,xH=>DS F zW z0 (B8 F zW z0 n) xH
def nS (F:Nat) (zW:List (List Int)) (z0:List (zQ)):Option Int :=
  (bif (decide ((((zW).length:Nat):Int)>(1000:Int))||decide ((((z0).length:Nat):Int)>(1000:Int))) then some (7:Int) else
  (o5 F zW F (0:Int)).bind fun (zD:Unit⊕Int) =>
  (match zD with
  | (.inl zZ) =>
  (B8 F zW z0 F (0:Int)).bind fun (zR:Unit⊕Int) =>
  (match zR with
  | (.inl vG) =>
  some (0:Int)
  | (.inr t5) =>
  some t5)
  | (.inr xD) =>
  some xD))
def mI (F:Nat) (zE:List (Int)) (nC:Int) (rec:Int→Int→(List Int)→Option ((Int×(List Int))⊕((List (Int))×Int×Int))) (xI:Int) (zP:Int) (zF:List Int):Option ((Int×(List Int))⊕((List (Int))×Int×Int)) :=
  (bif decide (zP<nC) then (need ((0:Int)≤xI∧xI≤(((zE).length:Nat):Int))).bind fun _=>(fL F (sub zE xI (((zE).length:Nat):Int))).bind fun zA =>
  (bif (zA.2.2 != (0:Int)) then some (.inr ([],(0:Int),zA.2.2)) else
  (need (((zF).length+(([zA.1]:List Int)).length) * 8≤140737488355328)).bind fun _ =>
  rec (zG (xI+zA.2.1)) (zG (zP+(1:Int))) (zF++([zA.1]:List Int))) else
  some (.inl (xI,zF)))
def o7 (F:Nat) (zE:List (Int)) (nC:Int):Nat→Int→Int→(List Int)→Option ((Int×(List Int))⊕((List (Int))×Int×Int))
  | 0,_,_,_=>none
  | n+1,xI,zP,zF=>mI F zE nC (o7 F zE nC n) xI zP zF
def gV (F:Nat) (zE:List (Int)) (nC:Int):Option ((List (Int))×Int×Int) :=
  (o7 F zE nC F (0:Int) (0:Int) []).bind fun (zD:(Int×(List Int))⊕((List (Int))×Int×Int)) =>
  (match zD with
  | (.inl zZ) =>
  some (zZ.2,zZ.1,(0:Int))
  | (.inr xD) =>
  some xD)
def rR (xC:Int):Option (Bool×Bool×Bool×Bool) :=
  (((bif (xC==(1:Int)) then some (xC==(1:Int)) else
  some (xC==(3:Int))):Option Bool)).bind fun (zD:Bool) =>
  (bif zD then some (true,false,false,false) else
  (bif (xC==(4:Int)) then some (true,true,false,false) else
  (bif (xC==(5:Int)) then some (false,true,false,true) else
  (((bif (xC==(6:Int)) then some (xC==(6:Int)) else
  (bif (xC==(7:Int)) then some (xC==(7:Int)) else
  (bif (xC==(8:Int)) then some (xC==(8:Int)) else
  (bif (xC==(10:Int)) then some (xC==(10:Int)) else
  some (xC==(12:Int)))))):Option Bool)).bind fun (zR:Bool) =>
  (bif zR then some (false,true,false,false) else
  (bif (xC==(9:Int)) then some (false,true,true,false) else
  (bif (xC==(11:Int)) then some (false,true,true,true) else
  some (false,false,false,false)))))))
def lK (zE:Bool):Option Int :=
  (bif zE then some (1:Int) else
  some (0:Int))
def mV (F:Nat) (zW:List (List Int)) (z0:List (zQ)) (rec:Int→(List (List Int))→Option (List (List Int))) (xH:Int) (zO:List (List Int)):Option (List (List Int)) :=
  (bif decide (xH≥(0:Int)) then (yZ z0 xH).bind fun zH=>(yZ zW zH.c1).bind fun yH=>(need (((([yH]:List (List Int))).length+(zO).length) * 16≤140737488355328)).bind fun _ =>
  (yZ z0 xH).bind fun xA =>
  rec xA.c0 (([yH]:List (List Int))++zO) else
  some zO)
def DG (F:Nat) (zW:List (List Int)) (z0:List (zQ)):Nat→Int→(List (List Int))→Option (List (List Int))
  | 0,_,_=>none
  | n+1,xH,zO=>mV F zW z0 (DG F zW z0 n) xH zO
def EQ (F:Nat) (zW:List (List Int)) (z0:List (zQ)) (zP:Int):Option ((List (List Int))×Int) :=
  (nS F zW z0).bind fun zA =>
  (bif (zA != (0:Int)) then some ([],(1:Int)) else
  (bif (decide (zP<(-1:Int))||decide (zP≥(((z0).length:Nat):Int))) then some ([],(2:Int)) else
  (DG F zW z0 F zP []).bind fun (zD:(List (List Int))) =>
  some (zD,(0:Int))))
def LD (xC:Int):Option (Bool×Bool×Bool×Bool) :=
  some (((xC==(1:Int))||((xC==(3:Int))||(xC==(4:Int)))),decide (xC≥(4:Int)),((xC==(9:Int))||(xC==(11:Int))),((xC==(5:Int))||(xC==(11:Int))))
def GP (F:Nat) (zO:List (List Int)) (rec:Int→Option (Unit⊕Int)) (zP:Int):Option (Unit⊕Int) :=
  (bif decide (zP<(((zO).length:Nat):Int)) then (yZ zO zP).bind fun zH=>(cZ F zH).bind fun zA =>
  (bif (zA != (0:Int)) then some (.inr (3:Int)) else
  rec (zG (zP+(1:Int)))) else
  some (.inl ()))
def G8 (F:Nat) (zO:List (List Int)):Nat→Int→Option (Unit⊕Int)
  | 0,_=>none
  | n+1,zP=>GP F zO (G8 F zO n) zP
def BC (F:Nat) (zO:List (List Int)):Option Int :=
  (bif decide ((((zO).length:Nat):Int)>(32:Int)) then some (7:Int) else
  (G8 F zO F (0:Int)).bind fun (zD:Unit⊕Int) =>
  (match zD with
  | (.inl zZ) =>
  some (0:Int)
  | (.inr xD) =>
  some xD))
def bD (z7:Int) (low_1:Int) (high_1:Int):Option Int :=
  (bif (decide (z7<low_1)||decide (z7>high_1)) then some (2:Int) else
  some (0:Int))
def EI (zU:yW):Option Int :=
  (((((bif (zU.Kind==(1:Int)) then some (zU.Kind==(1:Int)) else
  (bif (zU.Kind==(2:Int)) then some (zU.Kind==(2:Int)) else
  some (zU.Kind==(3:Int)))):Option Bool)).bind fun (zR:Bool) =>
  (bif zR then some (.inr (0:Int)) else
  (bif (zU.Kind==(4:Int)) then (bD zU.N (-1000000000000000:Int) (1000000000000000:Int)).bind fun zA =>
  some (.inr zA) else
  (bif (zU.Kind==(5:Int)) then (bD zU.N (1:Int) (1000000000000:Int)).bind fun zC =>
  some (.inr zC) else
  (bif (zU.Kind==(8:Int)) then (bD zU.N (0:Int) (63:Int)).bind fun zJ =>
  some (.inr zJ) else
  (bif (zU.Kind==(9:Int)) then (bD zU.N (0:Int) (3:Int)).bind fun zS =>
  (bif ((zS==(0:Int))&&(zU.N==(2:Int))) then (bD zU.M (0:Int) (1000000000000000:Int)).bind fun zV =>
  some (.inr zV) else
  (bif ((zS==(0:Int))&&(zU.M != (0:Int))) then some (.inr (1:Int)) else
  some (.inr zS))) else
  some (.inl ())))))):Option (Unit⊕Int))).bind fun (zD:Unit⊕Int) =>
  (match zD with
  | (.inl zZ) =>
  (bD zU.N (0:Int) (1000000000000000:Int)).bind fun yA =>
  (bif ((yA==(0:Int))&&(zU.Kind==(11:Int))) then (bD zU.M (1:Int) (1000000000000:Int)).bind fun yV =>
  some yV else
  some yA)
  | (.inr xD) =>
  some xD)
def gL (F:Nat) (zU:yW):Option Int :=
  (bif (decide (zU.At<(0:Int))||decide (zU.At>(1000000000000:Int))) then some (2:Int) else
  (bif (decide (zU.Kind<(1:Int))||decide (zU.Kind>(12:Int))) then some (1:Int) else
  (LD zU.Kind).bind fun zA =>
  ((bif !zA.1 then (bif !(zU.Name==([]:List Int)) then (some true) else (bif !zA.2.1 then (bif (zU.N != (0:Int)) then (some true) else (bif !zA.2.2.1 then (bif (zU.M != (0:Int)) then (some true) else (bif !zA.2.2.2 then (some (decide ((((zU.Stack).length:Nat):Int)>(0:Int)))) else (some false))) else (bif !zA.2.2.2 then (some (decide ((((zU.Stack).length:Nat):Int)>(0:Int)))) else (some false)))) else (bif !zA.2.2.1 then (bif (zU.M != (0:Int)) then (some true) else (bif !zA.2.2.2 then (some (decide ((((zU.Stack).length:Nat):Int)>(0:Int)))) else (some false))) else (bif !zA.2.2.2 then (some (decide ((((zU.Stack).length:Nat):Int)>(0:Int)))) else (some false))))) else (bif !zA.2.1 then (bif (zU.N != (0:Int)) then (some true) else (bif !zA.2.2.1 then (bif (zU.M != (0:Int)) then (some true) else (bif !zA.2.2.2 then (some (decide ((((zU.Stack).length:Nat):Int)>(0:Int)))) else (some false))) else (bif !zA.2.2.2 then (some (decide ((((zU.Stack).length:Nat):Int)>(0:Int)))) else (some false)))) else (bif !zA.2.2.1 then (bif (zU.M != (0:Int)) then (some true) else (bif !zA.2.2.2 then (some (decide ((((zU.Stack).length:Nat):Int)>(0:Int)))) else (some false))) else (bif !zA.2.2.2 then (some (decide ((((zU.Stack).length:Nat):Int)>(0:Int)))) else (some false)))))).bind fun (zK:Bool) =>
  (bif zK then some (1:Int) else
  (((bif zA.1 then (cZ F zU.Name).bind fun zC =>
  some zC else
  some (0:Int)):Option Int)).bind fun (zD:Int) =>
  (((bif zA.2.2.2 then (BC F zU.Stack).bind fun zJ =>
  some zJ else
  some zD):Option Int)).bind fun (zR:Int) =>
  (bif (zR != (0:Int)) then some zR else
  (EI zU).bind fun zS =>
  some zS))))
def EV (F:Nat) (zW:List (List Int)) (z0:List (zQ)) (zE:List (Int)):Option (yW×Int×Int) :=
  (nS F zW z0).bind fun zA =>
  (bif (zA != (0:Int)) then some ((⟨(0:Int),(0:Int),([]:List Int),(0:Int),(0:Int),[]⟩:yW),(0:Int),(1:Int)) else
  (gV F zE (2:Int)).bind fun zC =>
  (bif (zC.2.2 != (0:Int)) then some ((⟨(0:Int),(0:Int),([]:List Int),(0:Int),(0:Int),[]⟩:yW),(0:Int),zC.2.2) else
  (((yZ zC.1 (0:Int)).bind fun zH=>bif decide (zH<(1:Int)) then (some true) else ((yZ zC.1 (0:Int)).bind fun yH=>some (decide (yH>(12:Int)))))).bind fun (zK:Bool) =>
  (bif zK then some ((⟨(0:Int),(0:Int),([]:List Int),(0:Int),(0:Int),[]⟩:yW),(0:Int),(10:Int)) else
  (yZ zC.1 (0:Int)).bind fun xA=>(rR xA).bind fun zJ =>
  (lK zJ.1).bind fun zS=>(lK zJ.2.1).bind fun zV=>(lK zJ.2.2.1).bind fun yA=>(lK zJ.2.2.2).bind fun yV=>(gV F zE (zG ((zG ((zG ((zG ((2:Int)+zS))+zV))+yA))+yV))).bind fun yI =>
  (bif (yI.2.2 != (0:Int)) then some ((⟨(0:Int),(0:Int),([]:List Int),(0:Int),(0:Int),[]⟩:yW),(0:Int),yI.2.2) else
  (yZ yI.1 (0:Int)).bind fun wM=>(yZ yI.1 (1:Int)).bind fun vL =>
  (((bif zJ.1 then (((yZ yI.1 (2:Int)).bind fun tN=>bif decide (tN<(0:Int)) then (some true) else ((yZ yI.1 (2:Int)).bind fun dY=>some (decide (dY≥(((zW).length:Nat):Int)))))).bind fun (u3:Bool) =>
  (bif u3 then some (.inr ((⟨(0:Int),(0:Int),([]:List Int),(0:Int),(0:Int),[]⟩:yW),(0:Int),(2:Int))) else
  (yZ yI.1 (2:Int)).bind fun gO=>(yZ zW gO).bind fun x_9 =>
  some (.inl (zG ((2:Int)+(1:Int)),x_9))) else
  some (.inl ((2:Int),([]:List Int)))):Option ((Int×(List Int))⊕(yW×Int×Int)))).bind fun (zD:(Int×(List Int))⊕(yW×Int×Int)) =>
  (match zD with
  | (.inl zZ) =>
  (((bif zJ.2.1 then (yZ yI.1 zZ.1).bind fun x_10 =>
  some (zG (zZ.1+(1:Int)),x_10) else
  some (zZ.1,(0:Int))):Option (Int×Int))).bind fun (zR:(Int×Int)) =>
  (((bif zJ.2.2.1 then (yZ yI.1 zR.1).bind fun x_11 =>
  some (zG (zR.1+(1:Int)),x_11) else
  some (zR.1,(0:Int))):Option (Int×Int))).bind fun (yL:(Int×Int)) =>
  (((bif zJ.2.2.2 then (yZ yI.1 yL.1).bind fun x_12=>(EQ F zW z0 x_12).bind fun yO =>
  (bif (yO.2 != (0:Int)) then some (.inr ((⟨(0:Int),(0:Int),([]:List Int),(0:Int),(0:Int),[]⟩:yW),(0:Int),(2:Int))) else
  some (.inl yO.1)) else
  some (.inl [])):Option ((List (List Int))⊕(yW×Int×Int)))).bind fun (xQ:(List (List Int))⊕(yW×Int×Int)) =>
  (match xQ with
  | (.inl vG) =>
  (gL F (⟨vL,wM,zZ.2,zR.2,yL.2,vG⟩:yW)).bind fun xL =>
  (bif (xL != (0:Int)) then some ((⟨(0:Int),(0:Int),([]:List Int),(0:Int),(0:Int),[]⟩:yW),(0:Int),(10:Int)) else
  some ((⟨vL,wM,zZ.2,zR.2,yL.2,vG⟩:yW),yI.2.1,(0:Int)))
  | (.inr t5) =>
  some t5)
  | (.inr xD) =>
  some xD)))))
def D7 (F:Nat) (zB:vP) (zW:List (List Int)) (z0:List (zQ)):Option (yW×vP) :=
  (bif (zB.E != (0:Int)) then some ((⟨(0:Int),(0:Int),([]:List Int),(0:Int),(0:Int),[]⟩:yW),zB) else
  (need ((0:Int)≤zB.At∧zB.At≤(((zB.B).length:Nat):Int))).bind fun _=>(EV F zW z0 (sub zB.B zB.At (((zB.B).length:Nat):Int))).bind fun zA =>
  some (zA.1,(⟨zB.B,zG (zB.At+zA.2.1),zA.2.2⟩:vP)))
def oN (F:Nat) (zS:Int×vP) (rec:Int→(List Int)→Int→Int→(List (List Int))→Option ((List Int)×Int×Int×(List (List Int)))) (zP:Int) (y5:List Int) (y6:Int) (yX:Int) (zF:List (List Int)):Option ((List Int)×Int×Int×(List (List Int))) :=
  (bif (decide (zP<zS.1)&&(yX==(0:Int))) then (HD F (⟨y5,y6,yX⟩:vP)).bind fun zV=>(need (((zF).length+(([zV.1]:List (List Int))).length) * 16≤140737488355328)).bind fun _ =>
  rec (zG (zP+(1:Int))) zV.2.B zV.2.At zV.2.E (zF++([zV.1]:List (List Int))) else
  some (y5,y6,yX,zF))
def rQ (F:Nat) (zS:Int×vP):Nat→Int→(List Int)→Int→Int→(List (List Int))→Option ((List Int)×Int×Int×(List (List Int)))
  | 0,_,_,_,_,_=>none
  | n+1,zP,y5,y6,yX,zF=>oN F zS (rQ F zS n) zP y5 y6 yX zF
def mY (F:Nat) (yA:Int×vP) (rec:Int→(List Int)→Int→Int→(List zQ)→Option ((List Int)×Int×Int×(List zQ))) (xH:Int) (xB:List Int) (xE:Int) (wY:Int) (zY:List zQ):Option ((List Int)×Int×Int×(List zQ)) :=
  (bif (decide (xH<yA.1)&&(wY==(0:Int))) then (aL F (⟨xB,xE,wY⟩:vP)).bind fun yV =>
  (aL F yV.2).bind fun yI=>(need (((zY).length+(([(⟨yV.1,yI.1⟩:zQ)]:List zQ)).length) * 16≤140737488355328)).bind fun _ =>
  rec (zG (xH+(1:Int))) yI.2.B yI.2.At yI.2.E (zY++([(⟨yV.1,yI.1⟩:zQ)]:List zQ)) else
  some (xB,xE,wY,zY))
def rD (F:Nat) (yA:Int×vP):Nat→Int→(List Int)→Int→Int→(List zQ)→Option ((List Int)×Int×Int×(List zQ))
  | 0,_,_,_,_,_=>none
  | n+1,xH,xB,xE,wY,zY=>mY F yA (rD F yA n) xH xB xE wY zY
def mJ (F:Nat) (zD:((List Int)×Int×Int×(List (List Int)))) (zR:((List Int)×Int×Int×(List zQ))) (xL:Int×vP) (rec:Int→(List Int)→Int→Int→(List yW)→Option ((List Int)×Int×Int×(List yW))) (vY:Int) (w9:List Int) (w7:Int) (vX:Int) (yG:List yW):Option ((List Int)×Int×Int×(List yW)) :=
  (bif (decide (vY<xL.1)&&(vX==(0:Int))) then (D7 F (⟨w9,w7,vX⟩:vP) zD.2.2.2 zR.2.2.2).bind fun wN=>(need (((yG).length+(([wN.1]:List yW)).length) * 72≤140737488355328)).bind fun _ =>
  rec (zG (vY+(1:Int))) wN.2.B wN.2.At wN.2.E (yG++([wN.1]:List yW)) else
  some (w9,w7,vX,yG))
def BZ (F:Nat) (zD:((List Int)×Int×Int×(List (List Int)))) (zR:((List Int)×Int×Int×(List zQ))) (xL:Int×vP):Nat→Int→(List Int)→Int→Int→(List yW)→Option ((List Int)×Int×Int×(List yW))
  | 0,_,_,_,_,_=>none
  | n+1,vY,w9,w7,vX,yG=>mJ F zD zR xL (BZ F zD zR xL n) vY w9 w7 vX yG
def H8 (F:Nat) (zB:vP):Option (z8×vP) :=
  (aL F zB).bind fun zA =>
  (aL F zA.2).bind fun zC =>
  (aL F zC.2).bind fun zJ =>
  (bW F zJ.2 (1000:Int)).bind fun zS =>
  (rQ F zS F (0:Int) zS.2.B zS.2.At zS.2.E []).bind fun (zD:((List Int)×Int×Int×(List (List Int)))) =>
  (bW F (⟨zD.1,zD.2.1,zD.2.2.1⟩:vP) (1000:Int)).bind fun yA =>
  (rD F yA F (0:Int) yA.2.B yA.2.At yA.2.E []).bind fun (zR:((List Int)×Int×Int×(List zQ))) =>
  (((bif (zR.2.2.1==(0:Int)) then (nS F zD.2.2.2 zR.2.2.2).bind fun yO =>
  some yO else
  some zR.2.2.1):Option Int)).bind fun (yL:Int) =>
  (bW F (⟨zR.1,zR.2.1,yL⟩:vP) (1000:Int)).bind fun xL =>
  (BZ F zD zR xL F (0:Int) xL.2.B xL.2.At xL.2.E []).bind fun (xQ:((List Int)×Int×Int×(List yW))) =>
  some ((⟨zA.1,zC.1,zJ.1,xQ.2.2.2⟩:z8),(⟨xQ.1,xQ.2.1,xQ.2.2.1⟩:vP))
def lA (z7:Int):Option Bool :=
  some (decide (z7≥(0:Int))&&decide (z7≤(1000000000000000:Int)))
def D9 (F:Nat) (zO:List (yW)) (rec:Int→Option (Unit⊕Int)) (zP:Int):Option (Unit⊕Int) :=
  (bif decide (zP<(((zO).length:Nat):Int)) then (yZ zO zP).bind fun zH=>(gL F zH).bind fun zA =>
  (bif (zA != (0:Int)) then some (.inr zA) else
  ((bif decide (zP>(0:Int)) then ((yZ zO zP).bind fun yH=>(yZ zO (zG (zP - (1:Int)))).bind fun xA=>some (decide (yH.At<xA.At))) else (some false))).bind fun (zK:Bool) =>
  (bif zK then some (.inr (11:Int)) else
  rec (zG (zP+(1:Int))))) else
  some (.inl ()))
def AE (F:Nat) (zO:List (yW)):Nat→Int→Option (Unit⊕Int)
  | 0,_=>none
  | n+1,zP=>D9 F zO (AE F zO n) zP
def GN (F:Nat) (zO:List (yW)):Option Int :=
  (AE F zO F (0:Int)).bind fun (zD:Unit⊕Int) =>
  (match zD with
  | (.inl zZ) =>
  some (0:Int)
  | (.inr xD) =>
  some xD)
def rZ (F:Nat) (zK:z8):Option Int :=
  (((lA zK.Thread).bind fun zA=>bif !zA then (some true) else ((lA zK.Serial).bind fun zC=>bif !zC then (some true) else ((lA zK.Lost).bind fun zJ=>bif !zJ then (some true) else (some (decide (zK.Lost>zK.Serial))))))).bind fun (u3:Bool) =>
  (bif u3 then some (2:Int) else
  (bif decide (zK.Serial>(zG ((1000000000000000:Int) - (((zK.Events).length:Nat):Int)))) then some (2:Int) else
  (bif ((((zK.Events).length:Nat):Int)==(0:Int)) then some (8:Int) else
  (bif decide ((((zK.Events).length:Nat):Int)>(1000:Int)) then some (7:Int) else
  (GN F zK.Events).bind fun zS =>
  some zS))))
def AO (F:Nat) (zW:List (List Int)) (zI:List Int):Option (Int×(List (List Int))×Int) :=
  (cZ F zI).bind fun zA =>
  (bif (zA != (0:Int)) then some ((0:Int),zW,(3:Int)) else
  (rK F zW zI).bind fun zC =>
  (bif decide (zC≥(0:Int)) then some (zC,zW,(0:Int)) else
  (bif decide ((((zW).length:Nat):Int)≥(1000:Int)) then some ((0:Int),zW,(6:Int)) else
  (need (((([]:List (List Int))).length+(zW).length) * 16≤140737488355328)).bind fun _=>(need (((([]++zW)).length+(([zI]:List (List Int))).length) * 16≤140737488355328)).bind fun _ =>
  some ((((zW).length:Nat):Int),(([]++zW)++([zI]:List (List Int))),(0:Int)))))
def DM (F:Nat) (zW:List (List Int)) (z0:List (zQ)) (zO:List (List Int)) (rec:Int→(List (List Int))→Int→(List zQ)→Option ((Int×(List (List Int))×(List zQ))⊕(Int×(List (List Int))×(List (zQ))×Int))) (xI:Int) (z7:List (List Int)) (xC:Int) (zF:List zQ):Option ((Int×(List (List Int))×(List zQ))⊕(Int×(List (List Int))×(List (zQ))×Int)) :=
  (bif decide (xC<(((zO).length:Nat):Int)) then (((yZ zO xC).bind fun zH=>(AO F z7 zH).bind fun zC =>
  (bif (zC.2.2 != (0:Int)) then some (.inr ((0:Int),zW,z0,zC.2.2)) else
  (BO F zF (⟨xI,zC.1⟩:zQ)).bind fun zJ =>
  (bif decide (zJ≥(0:Int)) then some (.inl (zJ,zC.2.1,zF)) else
  (bif decide ((((zF).length:Nat):Int)≥(1000:Int)) then some (.inr ((0:Int),zW,z0,(6:Int))) else
  (need (((zF).length+(([(⟨xI,zC.1⟩:zQ)]:List zQ)).length) * 16≤140737488355328)).bind fun _ =>
  some (.inl ((((zF).length:Nat):Int),zC.2.1,(zF++([(⟨xI,zC.1⟩:zQ)]:List zQ))))))):Option ((Int×(List (List Int))×(List zQ))⊕(Int×(List (List Int))×(List (zQ))×Int)))).bind fun (zR:(Int×(List (List Int))×(List zQ))⊕(Int×(List (List Int))×(List (zQ))×Int)) =>
  (match zR with
  | (.inl zZ) =>
  rec zZ.1 zZ.2.1 (zG (xC+(1:Int))) zZ.2.2
  | (.inr xD) =>
  some (.inr xD)) else
  some (.inl (xI,z7,zF)))
def r6 (F:Nat) (zW:List (List Int)) (z0:List (zQ)) (zO:List (List Int)):Nat→Int→(List (List Int))→Int→(List zQ)→Option ((Int×(List (List Int))×(List zQ))⊕(Int×(List (List Int))×(List (zQ))×Int))
  | 0,_,_,_,_=>none
  | n+1,xI,z7,xC,zF=>DM F zW z0 zO (r6 F zW z0 zO n) xI z7 xC zF
def BJ (F:Nat) (zW:List (List Int)) (z0:List (zQ)) (zO:List (List Int)):Option (Int×(List (List Int))×(List (zQ))×Int) :=
  (BC F zO).bind fun zA =>
  (bif (zA != (0:Int)) then some ((0:Int),zW,z0,zA) else
  (need (((([]:List zQ)).length+(z0).length) * 16≤140737488355328)).bind fun _ =>
  (r6 F zW z0 zO F (-1:Int) zW (0:Int) ([]++z0)).bind fun (zD:(Int×(List (List Int))×(List zQ))⊕(Int×(List (List Int))×(List (zQ))×Int)) =>
  (match zD with
  | (.inl vG) =>
  some (vG.1,vG.2.1,vG.2.2,(0:Int))
  | (.inr t5) =>
  some t5))
def HU (z7:Int):Option Int :=
  (bif decide (z7<(0:Int)) then some (vU ((vU ((2:Int) * (vU (zG (0 - (zG (z7+(1:Int))))))))+(1:Int))) else
  some (vU ((2:Int) * (vU z7))))
def mZ (F:Nat) (rec:Int→(List Int)→Option (Int×(List Int))) (x5:Int) (zF:List Int):Option (Int×(List Int)) :=
  (bif decide (x5≥(128:Int)) then (need (((zF).length+(([vJ ((vJ (qP x5 (128:Int)))+(128:Int))]:List Int)).length) * 1≤140737488355328)).bind fun _ =>
  rec (pU .u64 x5 (128:Int)) (zF++([vJ ((vJ (qP x5 (128:Int)))+(128:Int))]:List Int)) else
  some (x5,zF))
def oM (F:Nat):Nat→Int→(List Int)→Option (Int×(List Int))
  | 0,_,_=>none
  | n+1,x5,zF=>mZ F (oM F n) x5 zF
def nM (F:Nat) (zE:List (Int)) (z7:Int):Option (List (Int)) :=
  (need (((([]:List Int)).length+(zE).length) * 1≤140737488355328)).bind fun _ =>
  (HU z7).bind fun zA =>
  (oM F F zA ([]++zE)).bind fun (zD:(Int×(List Int))) =>
  (need (((zD.2).length+(([vJ zD.1]:List Int)).length) * 1≤140737488355328)).bind fun _ =>
  some (zD.2++([vJ zD.1]:List Int))
def i5 (F:Nat) (zO:List (Int)) (rec:(List Int)→Int→Option (List Int)) (cO:List Int) (zP:Int):Option (List Int) :=
  (bif decide (zP<(((zO).length:Nat):Int)) then (yZ zO zP).bind fun zH=>(nM F cO zH).bind fun zA =>
  rec zA (zG (zP+(1:Int))) else
  some cO)
def CT (F:Nat) (zO:List (Int)):Nat→(List Int)→Int→Option (List Int)
  | 0,_,_=>none
  | n+1,cO,zP=>i5 F zO (CT F zO n) cO zP
def rL (F:Nat) (zO:List (Int)):Option (List (Int)) :=
  (CT F zO F [] (0:Int)).bind fun (zD:(List Int)) =>
  some zD
def JG (F:Nat) (zW:List (List Int)) (z0:List (zQ)) (zU:yW):Option zY1 :=
  (nS F zW z0).bind fun zA =>
  (bif (zA != (0:Int)) then some ([],[],[],(1:Int)) else
  (gL F zU).bind fun zC =>
  (bif (zC != (0:Int)) then some ([],[],[],zC) else
  (rR zU.Kind).bind fun zJ =>
  (((bif zJ.1 then (AO F zW zU.Name).bind fun zS =>
  (bif (zS.2.2 != (0:Int)) then some (.inr ([],[],[],zS.2.2)) else
  (need (((([zU.Kind,zU.At]:List Int)).length+(([zS.1]:List Int)).length) * 8≤140737488355328)).bind fun _ =>
  some (.inl (zS.2.1,(([zU.Kind,zU.At]:List Int)++([zS.1]:List Int))))) else
  some (.inl (zW,([zU.Kind,zU.At]:List Int)))):Option (((List (List Int))×(List Int))⊕zY1))).bind fun (zD:((List (List Int))×(List Int))⊕zY1) =>
  (match zD with
  | (.inl zZ) =>
  (((bif zJ.2.1 then (need (((zZ.2).length+(([zU.N]:List Int)).length) * 8≤140737488355328)).bind fun _ =>
  some (zZ.2++([zU.N]:List Int)) else
  some zZ.2):Option (List Int))).bind fun (zR:(List Int)) =>
  (((bif zJ.2.2.1 then (need (((zR).length+(([zU.M]:List Int)).length) * 8≤140737488355328)).bind fun _ =>
  some (zR++([zU.M]:List Int)) else
  some zR):Option (List Int))).bind fun (yL:(List Int)) =>
  (((bif zJ.2.2.2 then (BJ F zZ.1 z0 zU.Stack).bind fun zV =>
  (bif (zV.2.2.2 != (0:Int)) then some (.inr ([],[],[],zV.2.2.2)) else
  (need (((yL).length+(([zV.1]:List Int)).length) * 8≤140737488355328)).bind fun _ =>
  some (.inl (zV.2.1,zV.2.2.1,(yL++([zV.1]:List Int))))) else
  some (.inl (zZ.1,z0,yL))):Option (((List (List Int))×(List zQ)×(List Int))⊕zY1))).bind fun (xQ:((List (List Int))×(List zQ)×(List Int))⊕zY1) =>
  (match xQ with
  | (.inl vG) =>
  (rL F vG.2.2).bind fun yA =>
  some (yA,vG.1,vG.2.1,(0:Int))
  | (.inr t5) =>
  some t5)
  | (.inr xD) =>
  some xD)))
def G6 (F:Nat) (zI:List Int) (rec:Int→(List Int)→Option (List Int)) (zP:Int) (zF:List Int):Option (List Int) :=
  (bif decide (zP<(((zI).length:Nat):Int)) then (yZ zI zP).bind fun zB=>(need (((zF).length+(([zB]:List Int)).length) * 1≤140737488355328)).bind fun _ =>
  rec (zG (zP+(1:Int))) (zF++([zB]:List Int)) else
  some zF)
def lM (F:Nat) (zI:List Int):Nat→Int→(List Int)→Option (List Int)
  | 0,_,_=>none
  | n+1,zP,zF=>G6 F zI (lM F zI n) zP zF
def CN (F:Nat) (zE:List (Int)) (zI:List Int):Option (List (Int)) :=
  (nM F zE (((zI).length:Nat):Int)).bind fun zA =>
  (lM F zI F (0:Int) zA).bind fun (zD:(List Int)) =>
  some zD
def E5 (F:Nat) (zK:z8) (rec:(List (List Int))→(List zQ)→Int→(List Int)→Option (((List (List Int))×(List zQ)×(List Int))⊕((List (Int))×Int))) (zW:List (List Int)) (z0:List zQ) (zP:Int) (zF:List Int):Option (((List (List Int))×(List zQ)×(List Int))⊕((List (Int))×Int)) :=
  (bif decide (zP<(((zK.Events).length:Nat):Int)) then (yZ zK.Events zP).bind fun zH=>(JG F zW z0 zH).bind fun zC =>
  (bif (zC.2.2.2 != (0:Int)) then some (.inr ([],zC.2.2.2)) else
  (need (((zF).length+(zC.1).length) * 1≤140737488355328)).bind fun _ =>
  rec zC.2.1 zC.2.2.1 (zG (zP+(1:Int))) (zF++zC.1)) else
  some (.inl (zW,z0,zF)))
def B5 (F:Nat) (zK:z8):Nat→(List (List Int))→(List zQ)→Int→(List Int)→Option (((List (List Int))×(List zQ)×(List Int))⊕((List (Int))×Int))
  | 0,_,_,_,_=>none
  | n+1,zW,z0,zP,zF=>E5 F zK (B5 F zK n) zW z0 zP zF
def CZ (F:Nat) (zZ:(List (List Int))×(List zQ)×(List Int)) (rec:Int→(List Int)→Option (List Int)) (xH:Int) (zY:List Int):Option (List Int) :=
  (bif decide (xH<(((zZ.1).length:Nat):Int)) then (yZ zZ.1 xH).bind fun yH=>(CN F zY yH).bind fun yV =>
  rec (zG (xH+(1:Int))) yV else
  some zY)
def rN (F:Nat) (zZ:(List (List Int))×(List zQ)×(List Int)):Nat→Int→(List Int)→Option (List Int)
  | 0,_,_=>none
  | n+1,xH,zY=>CZ F zZ (rN F zZ n) xH zY
def JE (F:Nat) (zZ:(List (List Int))×(List zQ)×(List Int)) (rec:Int→(List Int)→Option (List Int)) (vY:Int) (yG:List Int):Option (List Int) :=
  (bif decide (vY<(((zZ.2.1).length:Nat):Int)) then (yZ zZ.2.1 vY).bind fun xA=>(nM F yG xA.c0).bind fun yO=>(yZ zZ.2.1 vY).bind fun wM=>(nM F yO wM.c1).bind fun xL =>
  rec (zG (vY+(1:Int))) xL else
  some yG)
def BH (F:Nat) (zZ:(List (List Int))×(List zQ)×(List Int)):Nat→Int→(List Int)→Option (List Int)
  | 0,_,_=>none
  | n+1,vY,yG=>JE F zZ (BH F zZ n) vY yG
def EC (F:Nat) (zK:z8):Option ((List (Int))×Int) :=
  (rZ F zK).bind fun zA =>
  (bif (zA != (0:Int)) then some ([],zA) else
  (B5 F zK F [] [] (0:Int) []).bind fun (zD:((List (List Int))×(List zQ)×(List Int))⊕((List (Int))×Int)) =>
  (match zD with
  | (.inl zZ) =>
  (nM F [] zK.Thread).bind fun zJ =>
  (nM F zJ zK.Serial).bind fun zS =>
  (nM F zS zK.Lost).bind fun zV =>
  (nM F zV (((zZ.1).length:Nat):Int)).bind fun yA =>
  (rN F zZ F (0:Int) yA).bind fun (zR:(List Int)) =>
  (nM F zR (((zZ.2.1).length:Nat):Int)).bind fun yI =>
  (BH F zZ F (0:Int) yI).bind fun (yL:(List Int)) =>
  (nM F yL (((zK.Events).length:Nat):Int)).bind fun wN=>(need (((wN).length+(zZ.2.2).length) * 1≤140737488355328)).bind fun _ =>
  some ((wN++zZ.2.2),(0:Int))
  | (.inr xD) =>
  some xD))
def GG (F:Nat) (zE:List (Int)):Option (z8×Int×Int) :=
  (H8 F (⟨zE,(0:Int),(0:Int)⟩:vP)).bind fun zA =>
  (bif (zA.2.E != (0:Int)) then some ((⟨(0:Int),(0:Int),(0:Int),[]⟩:z8),(0:Int),zA.2.E) else
  (rZ F zA.1).bind fun zC =>
  (bif (zC != (0:Int)) then some ((⟨(0:Int),(0:Int),(0:Int),[]⟩:z8),(0:Int),zC) else
  (EC F zA.1).bind fun zJ =>
  (need ((0:Int)≤zA.2.At∧zA.2.At≤(((zE).length:Nat):Int))).bind fun _ =>
  (bif !(zJ.1==(sub zE (0:Int) zA.2.At)) then some ((⟨(0:Int),(0:Int),(0:Int),[]⟩:z8),(0:Int),(10:Int)) else
  some (zA.1,zA.2.At,(0:Int)))))
def mN (F:Nat) (zL:yF) (tF:Int) (rec:Int→Option (Unit⊕Bool)) (zP:Int):Option (Unit⊕Bool) :=
  (bif decide (zP<(((zL.Threads).length:Nat):Int)) then (yZ zL.Threads zP).bind fun zH =>
  (bif (zH.Id==tF) then some (.inr true) else
  rec (zG (zP+(1:Int)))) else
  some (.inl ()))
def E9 (F:Nat) (zL:yF) (tF:Int):Nat→Int→Option (Unit⊕Bool)
  | 0,_=>none
  | n+1,zP=>mN F zL tF (E9 F zL tF n) zP
def HA (F:Nat) (zL:yF) (tF:Int):Option Bool :=
  (E9 F zL tF F (0:Int)).bind fun (zD:Unit⊕Bool) =>
  (match zD with
  | (.inl zZ) =>
  some false
  | (.inr xD) =>
  some xD)
def C3 (F:Nat) (zO:List (z8)) (tF:Int) (rec:Int→Int→Int→Option (Int×Int)) (z7:Int) (dZ:Int) (zP:Int):Option (Int×Int) :=
  (bif decide (zP<(((zO).length:Nat):Int)) then (((yZ zO zP).bind fun zH =>
  (bif (zH.Thread==tF) then (yZ zO zP).bind fun yH=>(yZ zO zP).bind fun xA =>
  (yZ zO zP).bind fun wM=>(yZ zO zP).bind fun vL=>(yZ wM.Events (zG ((((vL.Events).length:Nat):Int) - (1:Int)))).bind fun tN =>
  some (zG (yH.Serial+(((xA.Events).length:Nat):Int)),tN.At) else
  some (z7,dZ)):Option (Int×Int))).bind fun (zR:(Int×Int)) =>
  rec zR.1 zR.2 (zG (zP+(1:Int))) else
  some (z7,dZ))
def BA (F:Nat) (zO:List (z8)) (tF:Int):Nat→Int→Int→Int→Option (Int×Int)
  | 0,_,_,_=>none
  | n+1,z7,dZ,zP=>C3 F zO tF (BA F zO tF n) z7 dZ zP
def DF (F:Nat) (zO:List (z8)) (tF:Int):Option (Int×Int) :=
  (BA F zO tF F (0:Int) (0:Int) (0:Int)).bind fun (zD:(Int×Int)) =>
  some (zD.1,zD.2)
def EK (F:Nat) (zO:List (z8)) (zK:z8):Option Bool :=
  (DF F zO zK.Thread).bind fun zA =>
  ((bif (zK.Serial==(zG (zA.1+zK.Lost))) then ((yZ zK.Events (0:Int)).bind fun zH=>some (decide (zH.At≥zA.2))) else (some false))).bind fun (u3:Bool) =>
  some u3
def H0 (F:Nat) (zO:List (z8)) (rec:Int→Int→Option Int) (z7:Int) (zP:Int):Option Int :=
  (bif decide (zP<(((zO).length:Nat):Int)) then (yZ zO zP).bind fun zH =>
  rec (zG (z7+(((zH.Events).length:Nat):Int))) (zG (zP+(1:Int))) else
  some z7)
def AP (F:Nat) (zO:List (z8)):Nat→Int→Int→Option Int
  | 0,_,_=>none
  | n+1,z7,zP=>H0 F zO (AP F zO n) z7 zP
def G9 (F:Nat) (zO:List (z8)):Option Int :=
  (AP F zO F (0:Int) (0:Int)).bind fun (zD:Int) =>
  some zD
def gX (F:Nat) (zE:List (Int)) (zC:yF×Bool) (rec:Int→Int→Int→(List yU)→(List z8)→(List yU)→(List z8)→Option (yF×(List (z8))×Int)) (xI:Int) (qZ:Int) (t6:Int) (zB:List yU) (zF:List z8) (zY:List yU) (yG:List z8):Option (yF×(List (z8))×Int) :=
  (need ((0:Int)≤xI∧xI≤(((zE).length:Nat):Int))).bind fun _=>(A9 F (sub zE xI (((zE).length:Nat):Int))).bind fun zJ =>
  (need (((([]:List z8)).length+(zF).length) * 48≤140737488355328)).bind fun _=>(need (((([]++zF)).length+(yG).length) * 48≤140737488355328)).bind fun _ =>
  (bif (zJ.2.2==(0:Int)) then some ((⟨zC.1.Threads,zC.1.Domains,zB⟩:yF),zF,qZ) else
  (bif ((zJ.1==(83:Int))&&decide (t6≤(1:Int))) then (rO F (⟨zJ.2.1,false⟩:v5)).bind fun zS=>(need (((zY).length+(([zS.1]:List yU)).length) * 40≤140737488355328)).bind fun _ =>
  ((bif zS.2.Bad then (some true) else (bif decide ((((zS.2.B).length:Nat):Int)>(0:Int)) then (some true) else ((iU F zC.1.Domains (zY++([zS.1]:List yU))).bind fun zV=>some (zV != (0:Int)))))).bind fun (zK:Bool) =>
  (bif zK then some ((⟨zC.1.Threads,zC.1.Domains,zB⟩:yF),zF,qZ) else
  rec (zG (xI+zJ.2.2)) qZ (1:Int) zB zF (zY++([zS.1]:List yU)) yG) else
  (bif (zJ.1==(80:Int)) then (GG F zJ.2.1).bind fun yA =>
  ((bif (yA.2.2 != (0:Int)) then (some true) else (bif (yA.2.1 != (((zJ.2.1).length:Nat):Int)) then (some true) else ((HA F (⟨zC.1.Threads,zC.1.Domains,zB⟩:yF) yA.1.Thread).bind fun yV=>bif !yV then (some true) else ((EK F (([]++zF)++yG) yA.1).bind fun yI=>bif !yI then (some true) else ((G9 F (([]++zF)++yG)).bind fun yO=>some (decide ((zG (yO+(((yA.1.Events).length:Nat):Int)))>(20000:Int))))))))).bind fun (u3:Bool) =>
  (bif u3 then some ((⟨zC.1.Threads,zC.1.Domains,zB⟩:yF),zF,qZ) else
  (need (((yG).length+(([yA.1]:List z8)).length) * 48≤140737488355328)).bind fun _ =>
  rec (zG (xI+zJ.2.2)) qZ (2:Int) zB zF zY (yG++([yA.1]:List z8))) else
  (bif ((zJ.1==(70:Int))&&(((((zJ.2.1).length:Nat):Int)==(0:Int))&&decide (t6>(0:Int)))) then (need (((([]:List yU)).length+(zY).length) * 40≤140737488355328)).bind fun _ =>
  rec (zG (xI+zJ.2.2)) (zG (xI+zJ.2.2)) (0:Int) ([]++zY) (([]++zF)++yG) zY [] else
  some ((⟨zC.1.Threads,zC.1.Domains,zB⟩:yF),zF,qZ)))))
def rA (F:Nat) (zE:List (Int)) (zC:yF×Bool):Nat→Int→Int→Int→(List yU)→(List z8)→(List yU)→(List z8)→Option (yF×(List (z8))×Int)
  | 0,_,_,_,_,_,_,_=>none
  | n+1,xI,qZ,t6,zB,zF,zY,yG=>gX F zE zC (rA F zE zC n) xI qZ t6 zB zF zY yG
def HO (F:Nat) (zE:List (Int)):Option (yF×(List (z8))×Int) :=
  (A9 F zE).bind fun zA =>
  (bif ((zA.1 != (72:Int))||(zA.2.2==(0:Int))) then some ((⟨[],[],[]⟩:yF),[],(0:Int)) else
  (C9 F zA.2.1).bind fun zC =>
  (bif !zC.2 then some ((⟨[],[],[]⟩:yF),[],(0:Int)) else
  (need (((([]:List yU)).length+(zC.1.Snaps).length) * 40≤140737488355328)).bind fun _ =>
  (rA F zE zC F zA.2.2 zA.2.2 (0:Int) zC.1.Snaps [] ([]++zC.1.Snaps) []).bind fun (zD:(yF×(List (z8))×Int)) =>
  some zD))
def g6 (F:Nat) (yJ:List (List Int)) (zE:List (List Int)) (rec:Int→Option (Unit⊕Bool)) (zP:Int):Option (Unit⊕Bool) :=
  (bif decide (zP<(((yJ).length:Nat):Int)) then (yZ yJ zP).bind fun zH=>(yZ zE zP).bind fun yH =>
  (bif !(zH==yH) then some (.inr false) else
  rec (zG (zP+(1:Int)))) else
  some (.inl ()))
def DO (F:Nat) (yJ:List (List Int)) (zE:List (List Int)):Nat→Int→Option (Unit⊕Bool)
  | 0,_=>none
  | n+1,zP=>g6 F yJ zE (DO F yJ zE n) zP
def EB (F:Nat) (yJ:List (List Int)) (zE:List (List Int)):Option Bool :=
  (bif ((((yJ).length:Nat):Int) != (((zE).length:Nat):Int)) then some false else
  (DO F yJ zE F (0:Int)).bind fun (zD:Unit⊕Bool) =>
  (match zD with
  | (.inl zZ) =>
  some true
  | (.inr xD) =>
  some xD))
def GA (F:Nat) (yJ:yW) (zE:yW):Option Bool :=
  ((bif (yJ.At==zE.At) then (bif (yJ.Kind==zE.Kind) then (bif (yJ.Name==zE.Name) then (bif (yJ.N==zE.N) then (bif (yJ.M==zE.M) then ((EB F yJ.Stack zE.Stack).bind fun zA=>some zA) else (some false)) else (some false)) else (some false)) else (some false)) else (some false))).bind fun (zK:Bool) =>
  some zK
def oE (F:Nat) (yJ:z8) (zE:z8) (rec:Int→Option (Unit⊕Bool)) (zP:Int):Option (Unit⊕Bool) :=
  (bif decide (zP<(((yJ.Events).length:Nat):Int)) then (yZ yJ.Events zP).bind fun zH=>(yZ zE.Events zP).bind fun yH=>(GA F zH yH).bind fun zA =>
  (bif !zA then some (.inr false) else
  rec (zG (zP+(1:Int)))) else
  some (.inl ()))
def D6 (F:Nat) (yJ:z8) (zE:z8):Nat→Int→Option (Unit⊕Bool)
  | 0,_=>none
  | n+1,zP=>oE F yJ zE (D6 F yJ zE n) zP
def D4 (F:Nat) (yJ:z8) (zE:z8):Option Bool :=
  (bif ((yJ.Thread != zE.Thread)||((yJ.Serial != zE.Serial)||((yJ.Lost != zE.Lost)||((((yJ.Events).length:Nat):Int) != (((zE.Events).length:Nat):Int))))) then some false else
  (D6 F yJ zE F (0:Int)).bind fun (zD:Unit⊕Bool) =>
  (match zD with
  | (.inl zZ) =>
  some true
  | (.inr xD) =>
  some xD))
def iW (F:Nat) (yJ:List (z8)) (zE:List (z8)) (rec:Int→Option (Unit⊕Bool)) (zP:Int):Option (Unit⊕Bool) :=
  (bif decide (zP<(((yJ).length:Nat):Int)) then (yZ yJ zP).bind fun zH=>(yZ zE zP).bind fun yH=>(D4 F zH yH).bind fun zA =>
  (bif !zA then some (.inr false) else
  rec (zG (zP+(1:Int)))) else
  some (.inl ()))
def HB (F:Nat) (yJ:List (z8)) (zE:List (z8)):Nat→Int→Option (Unit⊕Bool)
  | 0,_=>none
  | n+1,zP=>iW F yJ zE (HB F yJ zE n) zP
def GC (F:Nat) (yJ:List (z8)) (zE:List (z8)):Option Bool :=
  (bif ((((yJ).length:Nat):Int) != (((zE).length:Nat):Int)) then some false else
  (HB F yJ zE F (0:Int)).bind fun (zD:Unit⊕Bool) =>
  (match zD with
  | (.inl zZ) =>
  some true
  | (.inr xD) =>
  some xD))
def g9 (F:Nat) (zE:List (Int)):Option Bool :=
  (bif decide ((((zE).length:Nat):Int)>(4000:Int)) then (G4 F).bind fun zA =>
  some zA else
  (iE F zE).bind fun zC =>
  (HO F zE).bind fun zJ =>
  ((bif (zC.2.2==zJ.2.2) then ((AA F zC.1 zJ.1).bind fun zS=>bif zS then ((GC F zC.2.1 zJ.2.1).bind fun zV=>bif zV then ((G4 F).bind fun yA=>some yA) else (some false)) else (some false)) else (some false))).bind fun (zK:Bool) =>
  some zK)
structure O3 where
  Snaps:List (yU)
  Packets:List (z8)
  deriving DecidableEq,Inhabited
abbrev zMb:List Int→AV:=fun l=>AV.sl false 1 (l.map (AV.int .u8))
abbrev zL0:xO:=(⟨(0:Int),[],(0:Int),(0:Int),false⟩:xO)
abbrev zL1:y8:=(⟨(⟨[],[],[]⟩:yF),[],none,(0:Int)⟩:y8)
abbrev zL2:yW:=(⟨(0:Int),(0:Int),([]:List Int),(0:Int),(0:Int),[]⟩:yW)
abbrev zL3:wQ:=(⟨(⟨(⟨[],[],[]⟩:yF),[],none,(0:Int)⟩:y8),(0:Int)⟩:wQ)
abbrev zL4:vF:=(⟨([]:List Int),false,false,false,false,(0:Int),(0:Int),(0:Int),(0:Int)⟩:vF)
abbrev zL5:vF:=(⟨([101,110,100]:List Int),false,false,false,false,(0:Int),(0:Int),(0:Int),(0:Int)⟩:vF)
abbrev zL6:vF:=(⟨([114,117,110]:List Int),false,true,false,false,(0:Int),(63:Int),(0:Int),(0:Int)⟩:vF)
abbrev zL7:vF:=(⟨([109,97,114,107]:List Int),true,false,false,false,(0:Int),(0:Int),(0:Int),(0:Int)⟩:vF)
abbrev zL8:vF:=(⟨([98,101,103,105,110]:List Int),true,false,false,false,(0:Int),(0:Int),(0:Int),(0:Int)⟩:vF)
abbrev zL9:vF:=(⟨([114,101,99,118]:List Int),false,true,false,false,(0:Int),(1000000000000000:Int),(0:Int),(0:Int)⟩:vF)
abbrev LU:vF:=(⟨([115,116,111,112]:List Int),false,true,true,false,(0:Int),(3:Int),(0:Int),(1000000000000000:Int)⟩:vF)
abbrev LM:vF:=(⟨([119,97,107,101]:List Int),false,true,false,false,(0:Int),(1000000000000000:Int),(0:Int),(0:Int)⟩:vF)
abbrev JN:vF:=(⟨([115,101,110,100]:List Int),false,true,false,false,(0:Int),(1000000000000000:Int),(0:Int),(0:Int)⟩:vF)
abbrev L2:vF:=(⟨([102,114,101,101]:List Int),false,true,false,false,(0:Int),(1000000000000000:Int),(0:Int),(0:Int)⟩:vF)
abbrev LO:vF:=(⟨([115,97,109,112,108,101]:List Int),false,true,false,true,(1:Int),(1000000000000:Int),(0:Int),(0:Int)⟩:vF)
abbrev JY:vF:=(⟨([97,108,108,111,99]:List Int),false,true,true,true,(0:Int),(1000000000000000:Int),(1:Int),(1000000000000:Int)⟩:vF)
abbrev K6:vF:=(⟨([99,111,117,110,116]:List Int),true,true,false,false,(-1000000000000000:Int),(1000000000000000:Int),(0:Int),(0:Int)⟩:vF)
abbrev cA:y0:=Vb 64 [.nilsl,.nilsl,.own 1 0,.own 2 0,.fm true [],Ii 0,Ii 0]
abbrev k9:y0:=Vb 112 [Ii 0,Ii 0,.str ([]:List Int),Ii 0,Ii 0,.nilsl]
abbrev jS:y0:=Vb 36 [Ii 0,.nilsl,Ii 0,Ii 0,.bool false]
abbrev qW:y0:=Vb 28 [.own 1 0,.own 2 0,.own 3 0]
abbrev kR:y0:=Vb 56 [Ii 0,Ii 0,Ii 0,.own 1 0]
abbrev nX:y0:=Vb 56 [Ii 0,Ii 0,Ii 0,.own 2 0]
abbrev p8:y0:=Vb 28 [.nilsl,.nilsl,.nilsl]
abbrev zB0 (zN:xO):Bool:=(decide (zN.Size<(1:Int))||(decide (zN.Size>(1048576:Int))||(decide ((lN (zN.Data))>zN.Size)||(decide (zN.Durable<(0:Int))||(decide (zN.Durable>(lN (zN.Data)))||(decide (zN.Left<(-1:Int))||decide (zN.Left>(1048576:Int))))))))
end Go.Ab
