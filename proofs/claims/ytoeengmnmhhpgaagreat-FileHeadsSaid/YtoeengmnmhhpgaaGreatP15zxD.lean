/- Printed: the typed Lean functions of the Go functions, or the proofs that the Go functions meet them. No conditions but those that the theorems name. -/
import Derived.Test.YtoeengmnmhhpgaaGreatA35
import Derived.Test.YtoeengmnmhhpgaaGreatA41
namespace Go.Ab
open Go
set_option linter.unusedVariables false

structure yV where
  Size:Int
  Data:List (Int)
  Durable:Int
  Left:Int
  Down:Bool
  deriving DecidableEq,Inhabited
def y8 (s:yV):List AV:=[.int .i64 s.Size,.sl false 1 (List.map (AV.int .u8) s.Data),.int .i64 s.Durable,.int .i64 s.Left,.bool s.Down]
def vX (s:yV):AV:=.agg (y8 s)

def B6 (xV:Int):Option (yV×Int) :=
  (bif (decide (xV<(1:Int))||decide (xV>(1048576:Int))) then some ((⟨(0:Int),[],(0:Int),(0:Int),false⟩:yV),(2:Int)) else
  some ((⟨xV,[],(0:Int),(-1:Int),false⟩:yV),(0:Int)))


structure y6 where
  Id:Int
  Name:List Int
  Domain:Int
  deriving DecidableEq,Inhabited
def uN (s:y6):List AV:=[.int .i64 s.Id,.str s.Name,.int .i64 s.Domain]
def zZ (s:y6):AV:=.agg (uN s)

structure yQ where
  Id:Int
  Ppm:Int
  deriving DecidableEq,Inhabited
def cD (s:yQ):List AV:=[.int .i64 s.Id,.int .i64 s.Ppm]
def zR (s:yQ):AV:=.agg (cD s)

structure fF where
  Lo:Int
  Hi:Int
  deriving DecidableEq,Inhabited
structure y2 where
  A:Int
  AtA:Int
  B:Int
  AtB:fF
  deriving DecidableEq,Inhabited
def tV (s:y2):List AV:=[.int .i64 s.A,.int .i64 s.AtA,.int .i64 s.B,.int .i64 s.AtB.Lo,.int .i64 s.AtB.Hi]
def zW (s:y2):AV:=.agg (tV s)

structure z6 where
  Threads:List (y6)
  Domains:List (yQ)
  Snaps:List (y2)
  deriving DecidableEq,Inhabited
def wA (s:z6):List AV:=[.sl false 3 (List.map zZ s.Threads),.sl false 2 (List.map zR s.Domains),.sl false 5 (List.map zW s.Snaps)]
def vC (s:z6):AV:=.agg (wA s)

def rP:Option z6 :=
  some (⟨([(⟨(1:Int),([116,49]:List Int),(0:Int)⟩:y6)]:List y6),([(⟨(0:Int),(0:Int)⟩:yQ)]:List yQ),[]⟩:z6)


def bQ (zG:yV):Option Int :=
  (bif (decide (zG.Size<(1:Int))||(decide (zG.Size>(1048576:Int))||(decide ((((zG.Data).length:Nat):Int)>zG.Size)||(decide (zG.Durable<(0:Int))||(decide (zG.Durable>(((zG.Data).length:Nat):Int))||(decide (zG.Left<(-1:Int))||decide (zG.Left>(1048576:Int)))))))) then some (2:Int) else
  some (0:Int))


def l9 (zE:List Int) (zB:Int):Option Int :=
  some (tD zE zB)


def j5 (zE:List Int) (zB:Int):Option Int :=
  (l9 zE zB).bind fun zA =>
  some zA


def gK (zB:Int):Option Bool :=
  ((bif decide (zB≥(97:Int)) then (bif decide (zB≤(122:Int)) then (some true) else (bif decide (zB≥(65:Int)) then (bif decide (zB≤(90:Int)) then (some true) else (bif decide (zB≥(48:Int)) then (bif decide (zB≤(57:Int)) then (some true) else ((j5 ([95,46,58,47,60,62,36,42,126,45]:List Int) zB).bind fun zA=>some (decide (zA≥(0:Int))))) else ((j5 ([95,46,58,47,60,62,36,42,126,45]:List Int) zB).bind fun zA=>some (decide (zA≥(0:Int)))))) else (bif decide (zB≥(48:Int)) then (bif decide (zB≤(57:Int)) then (some true) else ((j5 ([95,46,58,47,60,62,36,42,126,45]:List Int) zB).bind fun zA=>some (decide (zA≥(0:Int))))) else ((j5 ([95,46,58,47,60,62,36,42,126,45]:List Int) zB).bind fun zA=>some (decide (zA≥(0:Int))))))) else (bif decide (zB≥(65:Int)) then (bif decide (zB≤(90:Int)) then (some true) else (bif decide (zB≥(48:Int)) then (bif decide (zB≤(57:Int)) then (some true) else ((j5 ([95,46,58,47,60,62,36,42,126,45]:List Int) zB).bind fun zA=>some (decide (zA≥(0:Int))))) else ((j5 ([95,46,58,47,60,62,36,42,126,45]:List Int) zB).bind fun zA=>some (decide (zA≥(0:Int)))))) else (bif decide (zB≥(48:Int)) then (bif decide (zB≤(57:Int)) then (some true) else ((j5 ([95,46,58,47,60,62,36,42,126,45]:List Int) zB).bind fun zA=>some (decide (zA≥(0:Int))))) else ((j5 ([95,46,58,47,60,62,36,42,126,45]:List Int) zB).bind fun zA=>some (decide (zA≥(0:Int)))))))).bind fun (zM:Bool) =>
  some zM


def gZ (F:Nat) (zE:List Int) (rec:Int→Option (Unit⊕Int)) (zJ:Int):Option (Unit⊕Int) :=
  (bif decide (zJ<(((zE).length:Nat):Int)) then (xA zE zJ).bind fun zB=>(gK zB).bind fun zA =>
  (bif !zA then some (.inr (3:Int)) else
  rec (zI (zJ+(1:Int)))) else
  some (.inl ()))

def gL (F:Nat) (zE:List Int):Nat→Int→Option (Unit⊕Int)
  | 0,_=>none
  | n+1,zJ=>gZ F zE (gL F zE n) zJ

def pN (F:Nat) (zE:List Int):Option Int :=
  (bif ((zE==([]:List Int))||decide ((((zE).length:Nat):Int)>(40:Int))) then some (3:Int) else
  (gL F zE F (0:Int)).bind fun (zD:Unit⊕Int) =>
  (match zD with
  | (.inl z7) =>
  some (0:Int)
  | (.inr xG) =>
  some xG))


def gM (F:Nat) (vJ:y6):Option Int :=
  (bif (decide (vJ.Id<(0:Int))||(decide (vJ.Id>(1000000000000000:Int))||(decide (vJ.Domain<(0:Int))||decide (vJ.Domain≥(8:Int))))) then some (2:Int) else
  (pN F vJ.Name).bind fun zA =>
  some zA)


def oB (zK:yQ) (yO:Int):Option Bool :=
  some (zK.Id==yO)


def bM (F:Nat) (zE:List (yQ)) (zB:Int) (rec:Int→Option (Unit⊕Int)) (zJ:Int):Option (Unit⊕Int) :=
  (bif decide (zJ<(((zE).length:Nat):Int)) then (xA zE zJ).bind fun zK=>(oB zK zB).bind fun zA =>
  (bif zA then some (.inr zJ) else
  rec (zI (zJ+(1:Int)))) else
  some (.inl ()))

def dV (F:Nat) (zE:List (yQ)) (zB:Int):Nat→Int→Option (Unit⊕Int)
  | 0,_=>none
  | n+1,zJ=>bM F zE zB (dV F zE zB n) zJ

def gF (F:Nat) (zE:List (yQ)) (zB:Int):Option Int :=
  (dV F zE zB F (0:Int)).bind fun (zD:Unit⊕Int) =>
  (match zD with
  | (.inl z7) =>
  some (-1:Int)
  | (.inr xG) =>
  some xG)


def aJ (F:Nat) (zG:List (yQ)) (vZ:Int):Option Int :=
  (gF F zG vZ).bind fun zA =>
  some zA


def aO (F:Nat) (zG:List (yQ)) (rec:Int→Option (Unit⊕Int)) (zJ:Int):Option (Unit⊕Int) :=
  (bif decide (zJ<(((zG).length:Nat):Int)) then (xA zG zJ).bind fun zK =>
  (bif (decide (zK.Id<(0:Int))||(decide (zK.Id≥(8:Int))||(decide (zK.Ppm<(0:Int))||decide (zK.Ppm>(10000:Int))))) then some (.inr (2:Int)) else
  (need ((0:Int)≤zJ∧zJ≤(((zG).length:Nat):Int))).bind fun _=>(aJ F (sub zG (0:Int) zJ) zK.Id).bind fun zA =>
  (bif decide (zA≥(0:Int)) then some (.inr (4:Int)) else
  rec (zI (zJ+(1:Int))))) else
  some (.inl ()))

def fR (F:Nat) (zG:List (yQ)):Nat→Int→Option (Unit⊕Int)
  | 0,_=>none
  | n+1,zJ=>aO F zG (fR F zG n) zJ

def dO (F:Nat) (zG:List (yQ)):Option Int :=
  (fR F zG F (0:Int)).bind fun (zD:Unit⊕Int) =>
  (match zD with
  | (.inl z7) =>
  some (0:Int)
  | (.inr xG) =>
  some xG)


def dD (z4:Int):Option Bool :=
  some (decide (z4≥(0:Int))&&decide (z4≤(1000000000000:Int)))


def g6 (F:Nat) (zG:List (yQ)) (zK:y2):Option Int :=
  (aJ F zG zK.A).bind fun zA =>
  (((bif decide (zA<(0:Int)) then some (decide (zA<(0:Int))) else
  (aJ F zG zK.B).bind fun zF =>
  some (decide (zF<(0:Int)))):Option Bool)).bind fun (zD:Bool) =>
  (bif zD then some (5:Int) else
  (bif (zK.A==zK.B) then some (1:Int) else
  (dD zK.AtA).bind fun zN =>
  (bif !zN then some (2:Int) else
  (dD zK.AtB.Lo).bind fun zV =>
  (bif !zV then some (2:Int) else
  (dD zK.AtB.Hi).bind fun zU =>
  (bif !zU then some (2:Int) else
  (bif decide (zK.AtB.Lo>zK.AtB.Hi) then some (2:Int) else
  some (0:Int)))))))


def bK (F:Nat) (zG:List (yQ)) (zQ:List (y2)) (rec:Int→Option (Unit⊕Int)) (zJ:Int):Option (Unit⊕Int) :=
  (bif decide (zJ<(((zQ).length:Nat):Int)) then (xA zQ zJ).bind fun yA =>
  (g6 F zG yA).bind fun zF =>
  (bif (zF != (0:Int)) then some (.inr zF) else
  rec (zI (zJ+(1:Int)))) else
  some (.inl ()))

def d4 (F:Nat) (zG:List (yQ)) (zQ:List (y2)):Nat→Int→Option (Unit⊕Int)
  | 0,_=>none
  | n+1,zJ=>bK F zG zQ (d4 F zG zQ n) zJ

def bD (F:Nat) (zG:List (yQ)) (zQ:List (y2)):Option Int :=
  (bif ((((zG).length:Nat):Int)==(0:Int)) then some (8:Int) else
  (bif (decide ((((zG).length:Nat):Int)>(8:Int))||decide ((((zQ).length:Nat):Int)>(200:Int))) then some (7:Int) else
  (xA zG (0:Int)).bind fun zK =>
  (bif (!(decide (zK=(⟨(0:Int),(0:Int)⟩:yQ)))) then some (10:Int) else
  (dO F zG).bind fun zA =>
  (bif (zA != (0:Int)) then some zA else
  (d4 F zG zQ F (0:Int)).bind fun (zD:Unit⊕Int) =>
  (match zD with
  | (.inl z7) =>
  some (0:Int)
  | (.inr xG) =>
  some xG)))))


def mG (zG:yQ) (yO:y6):Option Bool :=
  some (zG.Id==yO.Domain)


def aN (F:Nat) (zE:List (yQ)) (zB:y6) (rec:Int→Option (Unit⊕Int)) (zJ:Int):Option (Unit⊕Int) :=
  (bif decide (zJ<(((zE).length:Nat):Int)) then (xA zE zJ).bind fun zK=>(mG zK zB).bind fun zA =>
  (bif zA then some (.inr zJ) else
  rec (zI (zJ+(1:Int)))) else
  some (.inl ()))

def fT (F:Nat) (zE:List (yQ)) (zB:y6):Nat→Int→Option (Unit⊕Int)
  | 0,_=>none
  | n+1,zJ=>aN F zE zB (fT F zE zB n) zJ

def gT (F:Nat) (zE:List (yQ)) (zB:y6):Option Int :=
  (fT F zE zB F (0:Int)).bind fun (zD:Unit⊕Int) =>
  (match zD with
  | (.inl z7) =>
  some (-1:Int)
  | (.inr xG) =>
  some xG)


def oZ (F:Nat) (zE:List (yQ)) (zB:y6):Option Bool :=
  (gT F zE zB).bind fun zA =>
  some (decide (zA≥(0:Int)))


def iE (F:Nat) (zH:z6) (rec:Int→(List (Int×Bool))→Option (Unit⊕Int)) (zJ:Int) (zL:List (Int×Bool)):Option (Unit⊕Int) :=
  (bif decide (zJ<(((zH.Threads).length:Nat):Int)) then (xA zH.Threads zJ).bind fun zK =>
  (gM F zK).bind fun zA =>
  (bif (zA != (0:Int)) then some (.inr zA) else
  (bif ((w9 zL zK.Id).getD false) then some (.inr (4:Int)) else
  (need ((zL).length<140737488355328)).bind fun _ =>
  rec (zI (zJ+(1:Int))) (xS zL zK.Id true))) else
  some (.inl ()))

def b7 (F:Nat) (zH:z6):Nat→Int→(List (Int×Bool))→Option (Unit⊕Int)
  | 0,_,_=>none
  | n+1,zJ,zL=>iE F zH (b7 F zH n) zJ zL

def bJ (F:Nat) (zH:z6) (rec:Int→Option (Unit⊕Int)) (xK:Int):Option (Unit⊕Int) :=
  (bif decide (xK<(((zH.Threads).length:Nat):Int)) then (xA zH.Threads xK).bind fun yA =>
  (oZ F zH.Domains yA).bind fun zN =>
  (bif !zN then some (.inr (5:Int)) else
  rec (zI (xK+(1:Int)))) else
  some (.inl ()))

def dF (F:Nat) (zH:z6):Nat→Int→Option (Unit⊕Int)
  | 0,_=>none
  | n+1,xK=>bJ F zH (dF F zH n) xK

def aV (F:Nat) (zH:z6):Option Int :=
  (bif ((((zH.Threads).length:Nat):Int)==(0:Int)) then some (8:Int) else
  (bif decide ((((zH.Threads).length:Nat):Int)>(64:Int)) then some (7:Int) else
  (b7 F zH F (0:Int) []).bind fun (zD:Unit⊕Int) =>
  (match zD with
  | (.inl z7) =>
  (bD F zH.Domains zH.Snaps).bind fun zF =>
  (bif (zF != (0:Int)) then some zF else
  (dF F zH F (0:Int)).bind fun (zT:Unit⊕Int) =>
  (match zT with
  | (.inl qS) =>
  some (0:Int)
  | (.inr q8) =>
  some q8))
  | (.inr xG) =>
  some xG)))


def dX (z4:Int):Option Int :=
  some (vO .u64 (jT .u64 (v5 z4) (1:Int)) (v5 (uT .i64 z4 (63:Int))))


def aH (F:Nat) (rec:Int→Int→(List Int)→Option (Int×(List Int))) (xV:Int) (xR:Int) (zL:List Int):Option (Int×(List Int)) :=
  (need ((0:Int)≤xV∧xV<((10:Nat):Int))).bind fun _=>((zL)[(xV).toNat]?).bind fun zK =>
  (bif decide (xR<(128:Int)) then some (zI (xV+(1:Int)),(zL).set ((xV).toNat) (wF (vU .u64 xR (127:Int)))) else
  (need ((0:Int)≤(zI ((zI (xV+(1:Int))) - (1:Int)))∧(zI ((zI (xV+(1:Int))) - (1:Int)))<((10:Nat):Int))).bind fun _=>(((zL).set ((xV).toNat) (wF (vU .u64 xR (127:Int))))[(zI ((zI (xV+(1:Int))) - (1:Int))).toNat]?).bind fun yA=>(need ((0:Int)≤(zI ((zI (xV+(1:Int))) - (1:Int)))∧(zI ((zI (xV+(1:Int))) - (1:Int)))<((10:Nat):Int))).bind fun _=>(((zL).set ((xV).toNat) (wF (vU .u64 xR (127:Int))))[(zI ((zI (xV+(1:Int))) - (1:Int))).toNat]?).bind fun y9 =>
  rec (zI (xV+(1:Int))) (uT .u64 xR (7:Int)) (((zL).set ((xV).toNat) (wF (vU .u64 xR (127:Int)))).set ((zI ((zI (xV+(1:Int))) - (1:Int))).toNat) (ior .u8 yA (128:Int))))

def nT (F:Nat):Nat→Int→Int→(List Int)→Option (Int×(List Int))
  | 0,_,_,_=>none
  | n+1,xV,xR,zL=>aH F (nT F n) xV xR zL

def uK (F:Nat) (zC:List (Int)) (z4:Int):Option (List (Int)) :=
  (dX z4).bind fun zA =>
  (nT F F (0:Int) zA (List.replicate 10 (0:Int))).bind fun (zD:(Int×(List Int))) =>
  (need ((0:Int)≤zD.1∧zD.1≤((10:Nat):Int)∧10≤(zD.2).length)).bind fun _=>(need (0≤((zD.1).toNat)∧((zD.1).toNat)≤(zD.2).length)).bind fun _=>(need (((sub zC (0:Int) (((zC).length:Nat):Int)).length+(((zD.2).take ((zD.1).toNat)).drop 0).length) * 1≤140737488355328)).bind fun _=>(need (0<(((zD.2).take ((zD.1).toNat)).drop 0).length∨(sub zC (0:Int) (((zC).length:Nat):Int)).length=0)).bind fun _ =>
  some ((sub zC (0:Int) (((zC).length:Nat):Int))++(((zD.2).take ((zD.1).toNat)).drop 0))


def l8 (F:Nat) (zC:List (Int)) (zE:List Int):Option (List (Int)) :=
  (uK F zC (((zE).length:Nat):Int)).bind fun zA =>
  (need ((0:Int)≤(zI ((((zA).length:Nat):Int)+(((zE).length:Nat):Int)))∧((zI ((((zA).length:Nat):Int)+(((zE).length:Nat):Int))).toNat) * 1≤281474976710656)).bind fun _ =>
  (need (0≤((zI ((((zA).length:Nat):Int)+(((zE).length:Nat):Int))).toNat)∧((zI ((((zA).length:Nat):Int)+(((zE).length:Nat):Int))).toNat)≤((List.replicate ((zI ((((zA).length:Nat):Int)+(((zE).length:Nat):Int))).toNat) (0:Int))).length)).bind fun _ =>
  (need ((((zA).length:Nat):Int)≤(((zI ((((zA).length:Nat):Int)+(((zE).length:Nat):Int))).toNat:Nat):Int))).bind fun _=>(need (((zA).length)≤((zI ((((zA).length:Nat):Int)+(((zE).length:Nat):Int))).toNat)∧((zI ((((zA).length:Nat):Int)+(((zE).length:Nat):Int))).toNat)≤((cpy (List.replicate ((zI ((((zA).length:Nat):Int)+(((zE).length:Nat):Int))).toNat) (0:Int)) 0 ((zI ((((zA).length:Nat):Int)+(((zE).length:Nat):Int))).toNat) zA)).length)).bind fun _ =>
  some (cpy (cpy (List.replicate ((zI ((((zA).length:Nat):Int)+(((zE).length:Nat):Int))).toNat) (0:Int)) 0 ((zI ((((zA).length:Nat):Int)+(((zE).length:Nat):Int))).toNat) zA) ((zA).length) ((zI ((((zA).length:Nat):Int)+(((zE).length:Nat):Int))).toNat) zE)


def A7 (F:Nat) (zE:y2) (rec:(List Int)→Int→Option (List Int)) (kW:List Int) (zJ:Int):Option (List Int) :=
  (bif decide (zJ<((5:Nat):Int)) then (xA ([zE.A,zE.AtA,zE.B,zE.AtB.Lo,zE.AtB.Hi]:List Int) zJ).bind fun zK =>
  (uK F kW zK).bind fun zA =>
  rec zA (zI (zJ+(1:Int))) else
  some kW)

def m4 (F:Nat) (zE:y2):Nat→(List Int)→Int→Option (List Int)
  | 0,_,_=>none
  | n+1,kW,zJ=>A7 F zE (m4 F zE n) kW zJ

def fI (F:Nat) (zC:List (Int)) (zE:y2):Option (List (Int)) :=
  (m4 F zE F zC (0:Int)).bind fun (zD:(List Int)) =>
  some zD


def DR (F:Nat) (zH:z6) (rec:Int→(List Int)→Option (List Int)) (zJ:Int) (zL:List Int):Option (List Int) :=
  (bif decide (zJ<(((zH.Threads).length:Nat):Int)) then (xA zH.Threads zJ).bind fun zK =>
  (uK F zL zK.Id).bind fun zF=>(l8 F zF zK.Name).bind fun zN=>(uK F zN zK.Domain).bind fun zV =>
  rec (zI (zJ+(1:Int))) zV else
  some zL)

def lY (F:Nat) (zH:z6):Nat→Int→(List Int)→Option (List Int)
  | 0,_,_=>none
  | n+1,zJ,zL=>DR F zH (lY F zH n) zJ zL

def AX (F:Nat) (zH:z6) (rec:Int→(List Int)→Option (List Int)) (xK:Int) (zY:List Int):Option (List Int) :=
  (bif decide (xK<(((zH.Domains).length:Nat):Int)) then (xA zH.Domains xK).bind fun yA =>
  (uK F zY yA.Id).bind fun yB=>(uK F yB yA.Ppm).bind fun yY =>
  rec (zI (xK+(1:Int))) yY else
  some zY)

def mH (F:Nat) (zH:z6):Nat→Int→(List Int)→Option (List Int)
  | 0,_,_=>none
  | n+1,xK,zY=>AX F zH (mH F zH n) xK zY

def EE (F:Nat) (zH:z6) (rec:(List Int)→Int→Option (List Int)) (zC:List Int) (wD:Int):Option (List Int) :=
  (bif decide (wD<(((zH.Snaps).length:Nat):Int)) then (xA zH.Snaps wD).bind fun y9 =>
  (fI F zC y9).bind fun yL =>
  rec yL (zI (wD+(1:Int))) else
  some zC)

def oS (F:Nat) (zH:z6):Nat→(List Int)→Int→Option (List Int)
  | 0,_,_=>none
  | n+1,zC,wD=>EE F zH (oS F zH n) zC wD

def oH (F:Nat) (zH:z6):Option (List (Int)) :=
  (uK F [] (((zH.Threads).length:Nat):Int)).bind fun zA =>
  (lY F zH F (0:Int) zA).bind fun (zD:(List Int)) =>
  (uK F zD (((zH.Domains).length:Nat):Int)).bind fun zU =>
  (mH F zH F (0:Int) zU).bind fun (zT:(List Int)) =>
  (uK F zT (((zH.Snaps).length:Nat):Int)).bind fun y4 =>
  (oS F zH F y4 (0:Int)).bind fun (yS:(List Int)) =>
  some yS


def bB (F:Nat) (rec:Int→Int→Option Int) (y9:Int) (xK:Int):Option Int :=
  (bif decide (xK<(8:Int)) then (bif ((vU .u32 y9 (1:Int))==(1:Int)) then rec (vO .u32 (uT .u32 y9 (1:Int)) (3988292384:Int)) (zI (xK+(1:Int))) else
  rec (uT .u32 y9 (1:Int)) (zI (xK+(1:Int)))) else
  some y9)

def pZ (F:Nat):Nat→Int→Int→Option Int
  | 0,_,_=>none
  | n+1,y9,xK=>bB F (pZ F n) y9 xK

def iP (F:Nat) (zC:List (Int)) (rec:Int→Int→Option Int) (zK:Int) (zJ:Int):Option Int :=
  (bif decide (zJ<(((zC).length:Nat):Int)) then (xA zC zJ).bind fun yA =>
  (pZ F F (vO .u32 zK (nM yA)) (0:Int)).bind fun (zT:Int) =>
  rec zT (zI (zJ+(1:Int))) else
  some zK)

def aZ (F:Nat) (zC:List (Int)):Nat→Int→Int→Option Int
  | 0,_,_=>none
  | n+1,zK,zJ=>iP F zC (aZ F zC n) zK zJ

def fQ (F:Nat) (zC:List (Int)):Option Int :=
  (aZ F zC F (4294967295:Int) (0:Int)).bind fun (zD:Int) =>
  some (zI (vO .u32 (4294967295:Int) zD))


def cN (F:Nat) (xN:Int) (zC:List (Int)):Option Int :=
  (need (((([xN]:List Int)).length+(zC).length) * 1≤140737488355328)).bind fun _=>(fQ F (([xN]:List Int)++zC)).bind fun zA =>
  some zA


def kV (F:Nat) (xN:Int) (zC:List (Int)):Option (List (Int)) :=
  (uK F ([xN]:List Int) (((zC).length:Nat):Int)).bind fun zA =>
  (cN F xN zC).bind fun zF=>(uK F zA zF).bind fun zN=>(need (((zN).length+(zC).length) * 1≤140737488355328)).bind fun _ =>
  some (zN++zC)


def r9 (zE:List (Int)):Option (List (Int)) :=
  (need (((([]:List Int)).length+(zE).length) * 1≤140737488355328)).bind fun _ =>
  some ([]++zE)


def nQ (zG:yV):Option (yV×Int) :=
  (bQ zG).bind fun zA =>
  (bif (zA != (0:Int)) then some ((⟨(0:Int),[],(0:Int),(0:Int),false⟩:yV),zA) else
  (bif zG.Down then some (zG,(19:Int)) else
  (r9 zG.Data).bind fun zF =>
  some ((⟨zG.Size,zF,zG.Durable,zG.Left,zG.Down⟩:yV),(0:Int))))


def AP (zG:yV) (zC:List (Int)):Option (yV×Int) :=
  (nQ zG).bind fun zA =>
  (bif (zA.2 != (0:Int)) then some (zA.1,zA.2) else
  (bif decide ((zI ((((zA.1.Data).length:Nat):Int)+(((zC).length:Nat):Int)))>zA.1.Size) then some ((⟨(0:Int),[],(0:Int),(0:Int),false⟩:yV),(6:Int)) else
  (bif (decide (zA.1.Left≥(0:Int))&&decide (zA.1.Left<(((zC).length:Nat):Int))) then (need ((0:Int)≤zA.1.Left∧zA.1.Left≤(((zC).length:Nat):Int))).bind fun _=>(need (((zA.1.Data).length+(sub zC (0:Int) zA.1.Left).length) * 1≤140737488355328)).bind fun _ =>
  some ((⟨zA.1.Size,(zA.1.Data++(sub zC (0:Int) zA.1.Left)),zA.1.Durable,(0:Int),true⟩:yV),(19:Int)) else
  (need (((zA.1.Data).length+(zC).length) * 1≤140737488355328)).bind fun _ =>
  (bif decide (zA.1.Left≥(0:Int)) then some ((⟨zA.1.Size,(zA.1.Data++zC),zA.1.Durable,zI (zA.1.Left - (((zC).length:Nat):Int)),zA.1.Down⟩:yV),(0:Int)) else
  some ((⟨zA.1.Size,(zA.1.Data++zC),zA.1.Durable,zA.1.Left,zA.1.Down⟩:yV),(0:Int))))))


def mB (zG:yV):Option (yV×Int) :=
  (nQ zG).bind fun zA =>
  (bif (zA.2 != (0:Int)) then some (zA.1,zA.2) else
  (bif (zA.1.Left==(0:Int)) then some ((⟨zA.1.Size,zA.1.Data,zA.1.Durable,zA.1.Left,true⟩:yV),(19:Int)) else
  some ((⟨zA.1.Size,zA.1.Data,(((zA.1.Data).length:Nat):Int),zA.1.Left,zA.1.Down⟩:yV),(0:Int))))


def CC (F:Nat) (uV:List (List (Int))) (rec:Int→Int→(List Int)→Int→Int→Bool→Option ((Int×(List Int)×Int×Int×Bool)⊕(yV×Int))) (zJ:Int) (zB:Int) (yN:List Int) (yP:Int) (yI:Int) (yX:Bool):Option ((Int×(List Int)×Int×Int×Bool)⊕(yV×Int)) :=
  (bif decide (zJ<(((uV).length:Nat):Int)) then (xA uV zJ).bind fun zK =>
  (AP (⟨zB,yN,yP,yI,yX⟩:yV) zK).bind fun zA =>
  (bif (zA.2 != (0:Int)) then some (.inr (zA.1,zA.2)) else
  rec (zI (zJ+(1:Int))) zA.1.Size zA.1.Data zA.1.Durable zA.1.Left zA.1.Down) else
  some (.inl (zB,yN,yP,yI,yX)))

def r4 (F:Nat) (uV:List (List (Int))):Nat→Int→Int→(List Int)→Int→Int→Bool→Option ((Int×(List Int)×Int×Int×Bool)⊕(yV×Int))
  | 0,_,_,_,_,_,_=>none
  | n+1,zJ,zB,yN,yP,yI,yX=>CC F uV (r4 F uV n) zJ zB yN yP yI yX

def lK (F:Nat) (zG:yV) (uV:List (List (Int))):Option (yV×Int) :=
  (r4 F uV F (0:Int) zG.Size zG.Data zG.Durable zG.Left zG.Down).bind fun (zD:(Int×(List Int)×Int×Int×Bool)⊕(yV×Int)) =>
  (match zD with
  | (.inl z7) =>
  (mB (⟨z7.1,z7.2.1,z7.2.2.1,z7.2.2.2.1,z7.2.2.2.2⟩:yV)).bind fun zF =>
  some (zF.1,zF.2)
  | (.inr xG) =>
  some xG)


def C8 (F:Nat) (zG:yV) (zH:z6):Option (yV×Int) :=
  (bQ zG).bind fun zA =>
  (bif (zA != (0:Int)) then some ((⟨(0:Int),[],(0:Int),(0:Int),false⟩:yV),zA) else
  (bif decide ((((zG.Data).length:Nat):Int)>(0:Int)) then some ((⟨(0:Int),[],(0:Int),(0:Int),false⟩:yV),(18:Int)) else
  (aV F zH).bind fun zF =>
  (bif (zF != (0:Int)) then some ((⟨(0:Int),[],(0:Int),(0:Int),false⟩:yV),zF) else
  (oH F zH).bind fun zN=>(kV F (72:Int) zN).bind fun zV=>(lK F zG ([zV]:List (List (Int)))).bind fun zU =>
  some (zU.1,zU.2))))


def EU (xR:Int):Option Int :=
  some (vO .i64 (zI (uT .u64 xR (1:Int))) (zI (0 - (zI (vU .u64 xR (1:Int))))))


def BX (F:Nat) (zC:List (Int)) (rec:Int→Int→Option (Unit⊕(Int×Int×Int))) (xR:Int) (zJ:Int):Option (Unit⊕(Int×Int×Int)) :=
  (bif decide (zJ<(((zC).length:Nat):Int)) then (xA zC zJ).bind fun zK =>
  (bif ((zJ==(9:Int))&&decide (zK>(1:Int))) then some (.inr ((0:Int),(0:Int),(10:Int))) else
  (need ((0:Int)≤(zI ((7:Int) * zJ)))).bind fun _ =>
  (bif decide (zK≥(128:Int)) then rec (ior .u64 xR (jT .u64 (v5 (vU .u8 zK (127:Int))) (zI ((7:Int) * zJ)))) (zI (zJ+(1:Int))) else
  (bif ((zK==(0:Int))&&decide (zJ>(0:Int))) then some (.inr ((0:Int),(0:Int),(10:Int))) else
  (EU (ior .u64 xR (jT .u64 (v5 (vU .u8 zK (127:Int))) (zI ((7:Int) * zJ))))).bind fun zA =>
  some (.inr (zA,zI (zJ+(1:Int)),(0:Int)))))) else
  some (.inl ()))

def lD (F:Nat) (zC:List (Int)):Nat→Int→Int→Option (Unit⊕(Int×Int×Int))
  | 0,_,_=>none
  | n+1,xR,zJ=>BX F zC (lD F zC n) xR zJ

def p0 (F:Nat) (zC:List (Int)):Option (Int×Int×Int) :=
  (lD F zC F (0:Int) (0:Int)).bind fun (zD:Unit⊕(Int×Int×Int)) =>
  (match zD with
  | (.inl z7) =>
  some ((0:Int),(0:Int),(8:Int))
  | (.inr xG) =>
  some xG)


def AA (F:Nat) (zC:List (Int)):Option (Int×(List (Int))×Int) :=
  (bif ((((zC).length:Nat):Int)==(0:Int)) then some ((0:Int),[],(0:Int)) else
  (need ((1:Int)≤(((zC).length:Nat):Int))).bind fun _=>(p0 F (sub zC (1:Int) (((zC).length:Nat):Int))).bind fun zA =>
  (bif (zA.2.2 != (0:Int)) then some ((0:Int),[],(0:Int)) else
  (need ((0:Int)≤(zI ((1:Int)+zA.2.1))∧(zI ((1:Int)+zA.2.1))≤(((zC).length:Nat):Int))).bind fun _=>(p0 F (sub zC (zI ((1:Int)+zA.2.1)) (((zC).length:Nat):Int))).bind fun zF =>
  (bif ((zF.2.2 != (0:Int))||(decide (zA.1<(0:Int))||decide (zA.1>(zI ((((zC).length:Nat):Int) - (zI ((zI ((1:Int)+zA.2.1))+zF.2.1))))))) then some ((0:Int),[],(0:Int)) else
  (need ((0:Int)≤(zI ((zI ((1:Int)+zA.2.1))+zF.2.1))∧(zI ((zI ((1:Int)+zA.2.1))+zF.2.1))≤(zI ((zI ((zI ((1:Int)+zA.2.1))+zF.2.1))+zA.1))∧(zI ((zI ((zI ((1:Int)+zA.2.1))+zF.2.1))+zA.1))≤(((zC).length:Nat):Int))).bind fun _ =>
  (xA zC (0:Int)).bind fun zK=>(cN F zK (sub zC (zI ((zI ((1:Int)+zA.2.1))+zF.2.1)) (zI ((zI ((zI ((1:Int)+zA.2.1))+zF.2.1))+zA.1)))).bind fun zN =>
  (bif (zN != zF.1) then some ((0:Int),[],(0:Int)) else
  (xA zC (0:Int)).bind fun yA =>
  some (yA,sub zC (zI ((zI ((1:Int)+zA.2.1))+zF.2.1)) (zI ((zI ((zI ((1:Int)+zA.2.1))+zF.2.1))+zA.1)),zI ((zI ((zI ((1:Int)+zA.2.1))+zF.2.1))+zA.1))))))


structure wU where
  b:List (Int)
  bad:Bool
  deriving DecidableEq,Inhabited
def vW (s:wU):List AV:=[.sl false 1 (List.map (AV.int .u8) s.b),.bool s.bad]
def jO (F:Nat) (zE:wU):Option (Int×wU) :=
  (p0 F zE.b).bind fun zA =>
  (bif (zA.2.2 != (0:Int)) then some ((0:Int),(⟨[],true⟩:wU)) else
  (need ((0:Int)≤zA.2.1∧zA.2.1≤(((zE.b).length:Nat):Int))).bind fun _ =>
  some (zA.1,(⟨sub zE.b zA.2.1 (((zE.b).length:Nat):Int),zE.bad⟩:wU)))


def fD (F:Nat) (zE:wU) (tW:Int):Option (Int×wU) :=
  (jO F zE).bind fun zA =>
  (bif (decide (zA.1<(0:Int))||decide (zA.1>tW)) then some ((0:Int),(⟨zA.2.b,true⟩:wU)) else
  some (zA.1,zA.2))


def rM (F:Nat) (zC:List (Int)) (tW:Int):Option ((List Int)×Int×Int) :=
  (p0 F zC).bind fun zA =>
  (bif (zA.2.2 != (0:Int)) then some (([]:List Int),(0:Int),zA.2.2) else
  (bif decide (zA.1<(0:Int)) then some (([]:List Int),(0:Int),(10:Int)) else
  (bif decide (zA.1>tW) then some (([]:List Int),(0:Int),(7:Int)) else
  (bif decide (zA.1>(zI ((((zC).length:Nat):Int) - zA.2.1))) then some (([]:List Int),(0:Int),(8:Int)) else
  (need ((0:Int)≤zA.2.1∧zA.2.1≤(zI (zA.2.1+zA.1))∧(zI (zA.2.1+zA.1))≤(((zC).length:Nat):Int))).bind fun _ =>
  some (sub zC zA.2.1 (zI (zA.2.1+zA.1)),zI (zA.2.1+zA.1),(0:Int))))))


def DM (F:Nat) (zE:wU):Option ((List Int)×wU) :=
  (rM F zE.b (40:Int)).bind fun zA =>
  (bif (zA.2.2 != (0:Int)) then some (([]:List Int),(⟨[],true⟩:wU)) else
  (need ((0:Int)≤zA.2.1∧zA.2.1≤(((zE.b).length:Nat):Int))).bind fun _ =>
  some (zA.1,(⟨sub zE.b zA.2.1 (((zE.b).length:Nat):Int),zE.bad⟩:wU)))


def lU (F:Nat) (zE:wU):Option (y2×wU) :=
  (jO F zE).bind fun zA=>(jO F zA.2).bind fun zF=>(jO F zF.2).bind fun zN =>
  (jO F zN.2).bind fun zV =>
  (jO F zV.2).bind fun zU =>
  some ((⟨zA.1,zF.1,zN.1,(⟨zV.1,zU.1⟩:fF)⟩:y2),zU.2)


def gA (yO:List (Int)) (zC:List (Int)):Option Bool :=
  some (yO==zC)


def BQ (F:Nat) (zA:Int×wU) (rec:Int→(List Int)→Bool→(List y6)→Option ((List Int)×Bool×(List y6))) (zJ:Int) (zB:List Int) (yN:Bool) (zL:List y6):Option ((List Int)×Bool×(List y6)) :=
  (bif decide (zJ<zA.1) then (jO F (⟨zB,yN⟩:wU)).bind fun zF=>(DM F zF.2).bind fun zN =>
  (jO F zN.2).bind fun zV=>(need (((zL).length+(([(⟨zF.1,zN.1,zV.1⟩:y6)]:List y6)).length) * 32≤140737488355328)).bind fun _ =>
  rec (zI (zJ+(1:Int))) zV.2.b zV.2.bad (zL++([(⟨zF.1,zN.1,zV.1⟩:y6)]:List y6)) else
  some (zB,yN,zL))

def l6 (F:Nat) (zA:Int×wU):Nat→Int→(List Int)→Bool→(List y6)→Option ((List Int)×Bool×(List y6))
  | 0,_,_,_,_=>none
  | n+1,zJ,zB,yN,zL=>BQ F zA (l6 F zA n) zJ zB yN zL

def EW (F:Nat) (zU:Int×wU) (rec:Int→(List Int)→Bool→(List yQ)→Option ((List Int)×Bool×(List yQ))) (xK:Int) (yP:List Int) (yI:Bool) (zY:List yQ):Option ((List Int)×Bool×(List yQ)) :=
  (bif decide (xK<zU.1) then (jO F (⟨yP,yI⟩:wU)).bind fun yB =>
  (jO F yB.2).bind fun yY=>(need (((zY).length+(([(⟨yB.1,yY.1⟩:yQ)]:List yQ)).length) * 16≤140737488355328)).bind fun _ =>
  rec (zI (xK+(1:Int))) yY.2.b yY.2.bad (zY++([(⟨yB.1,yY.1⟩:yQ)]:List yQ)) else
  some (yP,yI,zY))

def m6 (F:Nat) (zU:Int×wU):Nat→Int→(List Int)→Bool→(List yQ)→Option ((List Int)×Bool×(List yQ))
  | 0,_,_,_,_=>none
  | n+1,xK,yP,yI,zY=>EW F zU (m6 F zU n) xK yP yI zY

def B9 (F:Nat) (y4:Int×wU) (rec:Int→(List Int)→Bool→(List y2)→Option ((List Int)×Bool×(List y2))) (wD:Int) (yX:List Int) (y5:Bool) (yZ:List y2):Option ((List Int)×Bool×(List y2)) :=
  (bif decide (wD<y4.1) then (lU F (⟨yX,y5⟩:wU)).bind fun yL=>(need (((yZ).length+(([yL.1]:List y2)).length) * 40≤140737488355328)).bind fun _ =>
  rec (zI (wD+(1:Int))) yL.2.b yL.2.bad (yZ++([yL.1]:List y2)) else
  some (yX,y5,yZ))

def rK (F:Nat) (y4:Int×wU):Nat→Int→(List Int)→Bool→(List y2)→Option ((List Int)×Bool×(List y2))
  | 0,_,_,_,_=>none
  | n+1,wD,yX,y5,yZ=>B9 F y4 (rK F y4 n) wD yX y5 yZ

def BY (F:Nat) (zC:List (Int)):Option (z6×Bool) :=
  (fD F (⟨zC,false⟩:wU) (64:Int)).bind fun zA =>
  (l6 F zA F (0:Int) zA.2.b zA.2.bad []).bind fun (zD:((List Int)×Bool×(List y6))) =>
  (fD F (⟨zD.1,zD.2.1⟩:wU) (8:Int)).bind fun zU =>
  (m6 F zU F (0:Int) zU.2.b zU.2.bad []).bind fun (zT:((List Int)×Bool×(List yQ))) =>
  (fD F (⟨zT.1,zT.2.1⟩:wU) (200:Int)).bind fun y4 =>
  (rK F y4 F (0:Int) y4.2.b y4.2.bad []).bind fun (yS:((List Int)×Bool×(List y2))) =>
  ((bif !yS.2.1 then ((oH F (⟨zD.2.2,zT.2.2,yS.2.2⟩:z6)).bind fun xI=>(gA xI zC).bind fun vD=>some vD) else (some false))).bind fun (zM:Bool) =>
  some ((⟨zD.2.2,zT.2.2,yS.2.2⟩:z6),zM)


structure xM where
  next:Int
  last:Int
  deriving DecidableEq,Inhabited
def JX (s:xM):List AV:=[.int .i64 s.next,.int .i64 s.last]
def yW (s:xM):AV:=.agg (JX s)

structure xF where
  At:Int
  Kind:Int
  Name:List Int
  N:Int
  M:Int
  Stack:List (List Int)
  deriving DecidableEq,Inhabited
def tS (s:xF):List AV:=[.int .i64 s.At,.int .i64 s.Kind,.str s.Name,.int .i64 s.N,.int .i64 s.M,.sl false 1 (List.map AV.str s.Stack)]
def xX (s:xF):AV:=.agg (tS s)

structure yE where
  Thread:Int
  Serial:Int
  Lost:Int
  Events:List (xF)
  deriving DecidableEq,Inhabited
def wB (s:yE):List AV:=[.int .i64 s.Thread,.int .i64 s.Serial,.int .i64 s.Lost,.sl false 6 (List.map xX s.Events)]
def yF (s:yE):AV:=.agg (wB s)

structure yH where
  head:z6
  packets:List (yE)
  ends:Option (List (Int×xM))
  events:Int
  deriving DecidableEq,Inhabited
structure xQ where
  done:yH
  used:Int
  deriving DecidableEq,Inhabited
def C6 (zE:List (yE)):Option (List (yE)) :=
  (need (((([]:List yE)).length+(zE).length) * 48≤140737488355328)).bind fun _ =>
  some ([]++zE)


def mV (zE:List (y2)):Option (List (y2)) :=
  (need (((([]:List y2)).length+(zE).length) * 40≤140737488355328)).bind fun _ =>
  some ([]++zE)


def oR (zB:yH):Option yH :=
  (C6 zB.packets).bind fun zA =>
  (mV zB.head.Snaps).bind fun zF =>
  some (⟨(⟨zB.head.Threads,zB.head.Domains,zF⟩:z6),zA,zB.ends,zB.events⟩:yH)


def GN (F:Nat) (zC:List (Int)):Option (y2×Bool) :=
  (lU F (⟨zC,false⟩:wU)).bind fun zA =>
  ((bif !zA.2.bad then ((fI F [] zA.1).bind fun zF=>(gA zF zC).bind fun zN=>some zN) else (some false))).bind fun (zM:Bool) =>
  some (zA.1,zM)


structure uA where
  b:List (Int)
  used:Int
  fault:Int
  deriving DecidableEq,Inhabited
def uH (s:uA):List AV:=[.sl false 1 (List.map (AV.int .u8) s.b),.int .i64 s.used,.int .i64 s.fault]
def nN (F:Nat) (zK:uA):Option (Int×uA) :=
  (bif (zK.fault != (0:Int)) then some ((0:Int),zK) else
  (need ((0:Int)≤zK.used∧zK.used≤(((zK.b).length:Nat):Int))).bind fun _=>(p0 F (sub zK.b zK.used (((zK.b).length:Nat):Int))).bind fun zA =>
  some (zA.1,(⟨zK.b,zI (zK.used+zA.2.1),zA.2.2⟩:uA)))


def g7 (F:Nat) (zK:uA) (tW:Int):Option (Int×uA) :=
  (nN F zK).bind fun zA =>
  (bif (zA.2.fault != (0:Int)) then some ((0:Int),zA.2) else
  (bif decide (zA.1<(0:Int)) then some ((0:Int),(⟨zA.2.b,zA.2.used,(10:Int)⟩:uA)) else
  (bif decide (zA.1>tW) then some ((0:Int),(⟨zA.2.b,zA.2.used,(7:Int)⟩:uA)) else
  some (zA.1,zA.2))))


def E3 (F:Nat) (zK:uA):Option ((List Int)×uA) :=
  (bif (zK.fault != (0:Int)) then some (([]:List Int),zK) else
  (need ((0:Int)≤zK.used∧zK.used≤(((zK.b).length:Nat):Int))).bind fun _=>(rM F (sub zK.b zK.used (((zK.b).length:Nat):Int)) (40:Int)).bind fun zA =>
  some (zA.1,(⟨zK.b,zI (zK.used+zA.2.1),zA.2.2⟩:uA)))


structure zX where
  c0:Int
  c1:Int
  deriving DecidableEq,Inhabited
def JP (s:zX):List AV:=[.int .i64 s.c0,.int .i64 s.c1]
def yM (s:zX):AV:=.agg (JP s)

def BZ (F:Nat) (yD:List (List Int)) (rec:Int→(List ((List Int)×Bool))→Option (Unit⊕Int)) (zJ:Int) (zL:List ((List Int)×Bool)):Option (Unit⊕Int) :=
  (bif decide (zJ<(((yD).length:Nat):Int)) then (xA yD zJ).bind fun zK =>
  (pN F zK).bind fun zA =>
  (bif (zA != (0:Int)) then some (.inr zA) else
  (bif ((w9 zL zK).getD false) then some (.inr (4:Int)) else
  (need ((zL).length<140737488355328)).bind fun _ =>
  rec (zI (zJ+(1:Int))) (xS zL zK true))) else
  some (.inl ()))

def mQ (F:Nat) (yD:List (List Int)):Nat→Int→(List ((List Int)×Bool))→Option (Unit⊕Int)
  | 0,_,_=>none
  | n+1,zJ,zL=>BZ F yD (mQ F yD n) zJ zL

def B5 (F:Nat) (yD:List (List Int)):Option Int :=
  (mQ F yD F (0:Int) []).bind fun (zD:Unit⊕Int) =>
  (match zD with
  | (.inl z7) =>
  some (0:Int)
  | (.inr xG) =>
  some xG)


def BP (F:Nat) (yD:List (List Int)) (yG:List (zX)) (rec:Int→(List (zX×Bool))→(List Int)→Option (Unit⊕Int)) (zJ:Int) (zL:List (zX×Bool)) (zY:List Int):Option (Unit⊕Int) :=
  (bif decide (zJ<(((yG).length:Nat):Int)) then (xA yG zJ).bind fun zK =>
  (bif (decide (zK.c0<(-1:Int))||(decide (zK.c0≥zJ)||(decide (zK.c1<(0:Int))||decide (zK.c1≥(((yD).length:Nat):Int))))) then some (.inr (2:Int)) else
  (bif ((w9 zL zK).getD false) then some (.inr (4:Int)) else
  (need ((zL).length<140737488355328)).bind fun _ =>
  (xA zY zJ).bind fun yA =>
  (((bif (zK.c0 != (-1:Int)) then (xA ((zY).set ((zJ).toNat) (1:Int)) zJ).bind fun y9=>(xA ((zY).set ((zJ).toNat) (1:Int)) zK.c0).bind fun wW=>(xA ((zY).set ((zJ).toNat) (1:Int)) zJ).bind fun uI =>
  some (((zY).set ((zJ).toNat) (1:Int)).set ((zJ).toNat) (zI (y9+wW))) else
  some ((zY).set ((zJ).toNat) (1:Int))):Option (List Int))).bind fun (zT:(List Int)) =>
  (xA zT zJ).bind fun u2 =>
  (bif decide (u2>(32:Int)) then some (.inr (7:Int)) else
  rec (zI (zJ+(1:Int))) (xS zL zK true) zT))) else
  some (.inl ()))

def lS (F:Nat) (yD:List (List Int)) (yG:List (zX)):Nat→Int→(List (zX×Bool))→(List Int)→Option (Unit⊕Int)
  | 0,_,_,_=>none
  | n+1,zJ,zL,zY=>BP F yD yG (lS F yD yG n) zJ zL zY

def bY (F:Nat) (yD:List (List Int)) (yG:List (zX)):Option Int :=
  (bif (decide ((((yD).length:Nat):Int)>(1000:Int))||decide ((((yG).length:Nat):Int)>(1000:Int))) then some (7:Int) else
  (B5 F yD).bind fun zA =>
  (bif (zA != (0:Int)) then some zA else
  (need (((yG).length) * 8≤281474976710656)).bind fun _ =>
  (lS F yD yG F (0:Int) [] (List.replicate ((yG).length) (0:Int))).bind fun (zD:Unit⊕Int) =>
  (match zD with
  | (.inl z7) =>
  some (0:Int)
  | (.inr xG) =>
  some xG)))


structure t5 where
  b:List (Int)
  used:Int
  fault:Int
  deriving DecidableEq,Inhabited
def pA (s:t5):List AV:=[.sl false 1 (List.map (AV.int .u8) s.b),.int .i64 s.used,.int .i64 s.fault]
def p7 (F:Nat) (zK:t5):Option (Int×t5) :=
  (bif (zK.fault != (0:Int)) then some ((0:Int),zK) else
  (need ((0:Int)≤zK.used∧zK.used≤(((zK.b).length:Nat):Int))).bind fun _=>(p0 F (sub zK.b zK.used (((zK.b).length:Nat):Int))).bind fun zA =>
  some (zA.1,(⟨zK.b,zI (zK.used+zA.2.1),zA.2.2⟩:t5)))


def o7 (xY:Int):Option (Bool×Bool×Bool×Bool) :=
  some (((xY==(1:Int))||((xY==(3:Int))||(xY==(4:Int)))),decide (xY≥(4:Int)),((xY==(9:Int))||(xY==(11:Int))),((xY==(5:Int))||(xY==(11:Int))))


def A5 (F:Nat) (rec:Int→Int→(List (List Int))→Option (List (List Int))) (z5:Int) (uF:Int) (zL:List (List Int)):Option (List (List Int)) :=
  (bif decide (z5<uF) then (xA zL uF).bind fun zK=>(xA zL z5).bind fun yA=>(xA zL z5).bind fun y9=>(xA ((zL).set ((z5).toNat) zK) uF).bind fun wW =>
  rec (zI (z5+(1:Int))) (zI (uF - (1:Int))) (((zL).set ((z5).toNat) zK).set ((uF).toNat) yA) else
  some zL)

def lL (F:Nat):Nat→Int→Int→(List (List Int))→Option (List (List Int))
  | 0,_,_,_=>none
  | n+1,z5,uF,zL=>A5 F (lL F n) z5 uF zL

def GM (F:Nat) (zE:List (List Int)):Option (List (List Int)) :=
  (lL F F (0:Int) (zI ((((zE).length:Nat):Int) - (1:Int))) zE).bind fun (zD:(List (List Int))) =>
  some zD


def B1 (F:Nat) (yD:List (List Int)) (yG:List (zX)) (rec:Int→(List (List Int))→Option (List (List Int))) (wQ:Int) (zL:List (List Int)):Option (List (List Int)) :=
  (bif (wQ != (-1:Int)) then (xA yG wQ).bind fun zK=>(xA yD zK.c1).bind fun yA=>(need (((zL).length+(([yA]:List (List Int))).length) * 16≤140737488355328)).bind fun _ =>
  (xA yG wQ).bind fun y9 =>
  rec y9.c0 (zL++([yA]:List (List Int))) else
  some zL)

def r6 (F:Nat) (yD:List (List Int)) (yG:List (zX)):Nat→Int→(List (List Int))→Option (List (List Int))
  | 0,_,_=>none
  | n+1,wQ,zL=>B1 F yD yG (r6 F yD yG n) wQ zL

def CH (F:Nat) (yD:List (List Int)) (yG:List (zX)) (z5:Int):Option ((List (List Int))×Int) :=
  (bY F yD yG).bind fun zA =>
  (bif (zA != (0:Int)) then some ([],(1:Int)) else
  (bif (decide (z5<(-1:Int))||decide (z5≥(((yG).length:Nat):Int))) then some ([],(2:Int)) else
  (r6 F yD yG F z5 []).bind fun (zD:(List (List Int))) =>
  (GM F zD).bind fun zF=>(need ((zF).length=(zD).length)).bind fun _ =>
  some (zF,(0:Int))))


structure wC where
  word:List Int
  name:Bool
  n:Bool
  m:Bool
  stack:Bool
  least:Int
  most:Int
  mLeast:Int
  mMost:Int
  deriving DecidableEq,Inhabited
def dW (s:wC):List AV:=[.str s.word,.bool s.name,.bool s.n,.bool s.m,.bool s.stack,.int .i64 s.least,.int .i64 s.most,.int .i64 s.mLeast,.int .i64 s.mMost]
def pM (s:wC):AV:=.agg (dW s)

def BA:Option (List (wC)) :=
  some ([(⟨([]:List Int),false,false,false,false,(0:Int),(0:Int),(0:Int),(0:Int)⟩:wC),(⟨([98,101,103,105,110]:List Int),true,false,false,false,(0:Int),(0:Int),(0:Int),(0:Int)⟩:wC),(⟨([101,110,100]:List Int),false,false,false,false,(0:Int),(0:Int),(0:Int),(0:Int)⟩:wC),(⟨([109,97,114,107]:List Int),true,false,false,false,(0:Int),(0:Int),(0:Int),(0:Int)⟩:wC),(⟨([99,111,117,110,116]:List Int),true,true,false,false,(-1000000000000000:Int),(1000000000000000:Int),(0:Int),(0:Int)⟩:wC),(⟨([115,97,109,112,108,101]:List Int),false,true,false,true,(1:Int),(1000000000000:Int),(0:Int),(0:Int)⟩:wC),(⟨([115,101,110,100]:List Int),false,true,false,false,(0:Int),(1000000000000000:Int),(0:Int),(0:Int)⟩:wC),(⟨([114,101,99,118]:List Int),false,true,false,false,(0:Int),(1000000000000000:Int),(0:Int),(0:Int)⟩:wC),(⟨([114,117,110]:List Int),false,true,false,false,(0:Int),(63:Int),(0:Int),(0:Int)⟩:wC),(⟨([115,116,111,112]:List Int),false,true,true,false,(0:Int),(3:Int),(0:Int),(1000000000000000:Int)⟩:wC),(⟨([119,97,107,101]:List Int),false,true,false,false,(0:Int),(1000000000000000:Int),(0:Int),(0:Int)⟩:wC),(⟨([97,108,108,111,99]:List Int),false,true,true,true,(0:Int),(1000000000000000:Int),(1:Int),(1000000000000:Int)⟩:wC),(⟨([102,114,101,101]:List Int),false,true,false,false,(0:Int),(1000000000000000:Int),(0:Int),(0:Int)⟩:wC)]:List wC)


def E7 (xY:Int):Option (wC×Bool) :=
  (BA ).bind fun zA =>
  (bif (decide (xY<(1:Int))||decide (xY≥(((zA).length:Nat):Int))) then some ((⟨([]:List Int),false,false,false,false,(0:Int),(0:Int),(0:Int),(0:Int)⟩:wC),false) else
  (xA zA xY).bind fun zK =>
  some (zK,true))


def GH (F:Nat) (zQ:List (List Int)) (rec:Int→Option (Unit⊕Int)) (zJ:Int):Option (Unit⊕Int) :=
  (bif decide (zJ<(((zQ).length:Nat):Int)) then (xA zQ zJ).bind fun zK =>
  (pN F zK).bind fun zA =>
  (bif (zA != (0:Int)) then some (.inr zA) else
  rec (zI (zJ+(1:Int)))) else
  some (.inl ()))

def rU (F:Nat) (zQ:List (List Int)):Nat→Int→Option (Unit⊕Int)
  | 0,_=>none
  | n+1,zJ=>GH F zQ (rU F zQ n) zJ

def rA (F:Nat) (zQ:List (List Int)):Option Int :=
  (bif decide ((((zQ).length:Nat):Int)>(32:Int)) then some (7:Int) else
  (rU F zQ F (0:Int)).bind fun (zD:Unit⊕Int) =>
  (match zD with
  | (.inl z7) =>
  some (0:Int)
  | (.inr xG) =>
  some xG))


def D7 (F:Nat) (f_1:wC) (z0:xF):Option Int :=
  (bif f_1.name then (pN F z0.Name).bind fun zA =>
  some zA else
  (rA F z0.Stack).bind fun zF =>
  some zF)


def gU (F:Nat) (z0:xF):Option Int :=
  (bif (decide (z0.At<(0:Int))||decide (z0.At>(1000000000000:Int))) then some (2:Int) else
  (E7 z0.Kind).bind fun zA =>
  ((bif !zA.2 then (some true) else (bif !zA.1.name then (bif !(z0.Name==([]:List Int)) then (some true) else (bif !zA.1.n then (bif (z0.N != (0:Int)) then (some true) else (bif !zA.1.m then (bif (z0.M != (0:Int)) then (some true) else (bif !zA.1.stack then (some (decide ((((z0.Stack).length:Nat):Int)>(0:Int)))) else (some false))) else (bif !zA.1.stack then (some (decide ((((z0.Stack).length:Nat):Int)>(0:Int)))) else (some false)))) else (bif !zA.1.m then (bif (z0.M != (0:Int)) then (some true) else (bif !zA.1.stack then (some (decide ((((z0.Stack).length:Nat):Int)>(0:Int)))) else (some false))) else (bif !zA.1.stack then (some (decide ((((z0.Stack).length:Nat):Int)>(0:Int)))) else (some false))))) else (bif !zA.1.n then (bif (z0.N != (0:Int)) then (some true) else (bif !zA.1.m then (bif (z0.M != (0:Int)) then (some true) else (bif !zA.1.stack then (some (decide ((((z0.Stack).length:Nat):Int)>(0:Int)))) else (some false))) else (bif !zA.1.stack then (some (decide ((((z0.Stack).length:Nat):Int)>(0:Int)))) else (some false)))) else (bif !zA.1.m then (bif (z0.M != (0:Int)) then (some true) else (bif !zA.1.stack then (some (decide ((((z0.Stack).length:Nat):Int)>(0:Int)))) else (some false))) else (bif !zA.1.stack then (some (decide ((((z0.Stack).length:Nat):Int)>(0:Int)))) else (some false))))))).bind fun (zM:Bool) =>
  (bif zM then some (1:Int) else
  (D7 F zA.1 z0).bind fun zF =>
  (bif (zF != (0:Int)) then some zF else
  (bif (zA.1.n&&(decide (z0.N<zA.1.least)||decide (z0.N>zA.1.most))) then some (2:Int) else
  (bif ((z0.Kind==(9:Int))&&((z0.N != (2:Int))&&(z0.M != (0:Int)))) then some (1:Int) else
  (bif (zA.1.m&&(bif decide (z0.M<zA.1.mLeast) then ((z0.Kind != (9:Int))||(z0.N==(2:Int))) else (decide (z0.M>zA.1.mMost)&&((z0.Kind != (9:Int))||(z0.N==(2:Int)))))) then some (2:Int) else
  some (0:Int)))))))


def CM (F:Nat) (yD:List (List Int)) (yG:List (zX)) (zC:List (Int)):Option (xF×Int×Int) :=
  (bY F yD yG).bind fun zA =>
  (bif (zA != (0:Int)) then some ((⟨(0:Int),(0:Int),([]:List Int),(0:Int),(0:Int),[]⟩:xF),(0:Int),(1:Int)) else
  (p7 F (⟨zC,(0:Int),(0:Int)⟩:t5)).bind fun zF =>
  (p7 F zF.2).bind fun zN =>
  (((bif ((zN.2.fault==(0:Int))&&(decide (zF.1<(1:Int))||decide (zF.1>(12:Int)))) then some (10:Int) else
  some zN.2.fault):Option Int)).bind fun (zD:Int) =>
  (o7 zF.1).bind fun zV =>
  (((bif zV.1 then (p7 F (⟨zN.2.b,zN.2.used,zD⟩:t5)).bind fun zU =>
  some (zU.1,zU.2.b,zU.2.used,zU.2.fault) else
  some ((0:Int),zN.2.b,zN.2.used,zD)):Option (Int×(List Int)×Int×Int))).bind fun (zT:(Int×(List Int)×Int×Int)) =>
  (((bif zV.2.1 then (p7 F (⟨zT.2.1,zT.2.2.1,zT.2.2.2⟩:t5)).bind fun yB =>
  some (yB.2.b,yB.2.used,yB.2.fault,yB.1) else
  some (zT.2.1,zT.2.2.1,zT.2.2.2,(0:Int))):Option ((List Int)×Int×Int×Int))).bind fun (yS:((List Int)×Int×Int×Int)) =>
  (((bif zV.2.2.1 then (p7 F (⟨yS.1,yS.2.1,yS.2.2.1⟩:t5)).bind fun yY =>
  some (yY.2.b,yY.2.used,yY.2.fault,yY.1) else
  some (yS.1,yS.2.1,yS.2.2.1,(0:Int))):Option ((List Int)×Int×Int×Int))).bind fun (xO:((List Int)×Int×Int×Int)) =>
  (((bif zV.2.2.2 then (p7 F (⟨xO.1,xO.2.1,xO.2.2.1⟩:t5)).bind fun y4 =>
  some (y4.1,y4.2.b,y4.2.used,y4.2.fault) else
  some ((-1:Int),xO.1,xO.2.1,xO.2.2.1)):Option (Int×(List Int)×Int×Int))).bind fun (wJ:(Int×(List Int)×Int×Int)) =>
  (((bif (wJ.2.2.2 != (0:Int)) then some (.inr ((⟨(0:Int),(0:Int),([]:List Int),(0:Int),(0:Int),[]⟩:xF),(0:Int),wJ.2.2.2)) else
  (bif (zV.1&&(decide (zT.1<(0:Int))||decide (zT.1≥(((yD).length:Nat):Int)))) then some (.inr ((⟨(0:Int),(0:Int),([]:List Int),(0:Int),(0:Int),[]⟩:xF),(0:Int),(2:Int))) else
  (bif (decide (wJ.1<(-1:Int))||decide (wJ.1≥(((yG).length:Nat):Int))) then some (.inr ((⟨(0:Int),(0:Int),([]:List Int),(0:Int),(0:Int),[]⟩:xF),(0:Int),(2:Int))) else
  some (.inl ())))):Option (Unit⊕(xF×Int×Int)))).bind fun (o_6:Unit⊕(xF×Int×Int)) =>
  (match o_6 with
  | (.inl z7) =>
  (((bif zV.1 then (xA yD zT.1).bind fun zK =>
  some zK else
  some ([]:List Int)):Option (List Int))).bind fun (kX:(List Int)) =>
  (CH F yD yG wJ.1).bind fun yL =>
  (gU F (⟨zN.1,zF.1,kX,yS.2.2.2,xO.2.2.2,yL.1⟩:xF)).bind fun xI =>
  (bif (xI != (0:Int)) then some ((⟨(0:Int),(0:Int),([]:List Int),(0:Int),(0:Int),[]⟩:xF),(0:Int),(10:Int)) else
  some ((⟨zN.1,zF.1,kX,yS.2.2.2,xO.2.2.2,yL.1⟩:xF),wJ.2.2.1,(0:Int)))
  | (.inr xG) =>
  some xG))


def DO (F:Nat) (zQ:List (xF)) (rec:Int→Option (Unit⊕Int)) (zJ:Int):Option (Unit⊕Int) :=
  (bif decide (zJ<(((zQ).length:Nat):Int)) then (xA zQ zJ).bind fun zK =>
  (gU F zK).bind fun zA =>
  (bif (zA != (0:Int)) then some (.inr zA) else
  ((bif decide (zJ>(0:Int)) then ((xA zQ (zI (zJ - (1:Int)))).bind fun yA=>some (decide (zK.At<yA.At))) else (some false))).bind fun (zM:Bool) =>
  (bif zM then some (.inr (11:Int)) else
  rec (zI (zJ+(1:Int))))) else
  some (.inl ()))

def mS (F:Nat) (zQ:List (xF)):Nat→Int→Option (Unit⊕Int)
  | 0,_=>none
  | n+1,zJ=>DO F zQ (mS F zQ n) zJ

def A9 (F:Nat) (zQ:List (xF)):Option Int :=
  (mS F zQ F (0:Int)).bind fun (zD:Unit⊕Int) =>
  (match zD with
  | (.inl z7) =>
  some (0:Int)
  | (.inr xG) =>
  some xG)


def AG (F:Nat) (zM:yE) (rec:Int→Option (Unit⊕Int)) (zJ:Int):Option (Unit⊕Int) :=
  (bif decide (zJ<((3:Nat):Int)) then (xA ([zM.Thread,zM.Serial,zM.Lost]:List Int) zJ).bind fun zK =>
  (bif (decide (zK<(0:Int))||decide (zK>(1000000000000000:Int))) then some (.inr (2:Int)) else
  rec (zI (zJ+(1:Int)))) else
  some (.inl ()))

def lP (F:Nat) (zM:yE):Nat→Int→Option (Unit⊕Int)
  | 0,_=>none
  | n+1,zJ=>AG F zM (lP F zM n) zJ

def fK (F:Nat) (zM:yE):Option Int :=
  (lP F zM F (0:Int)).bind fun (zD:Unit⊕Int) =>
  (match zD with
  | (.inl z7) =>
  (((bif decide (zM.Lost>zM.Serial) then some (decide (zM.Lost>zM.Serial)) else
  some (decide ((zI (zM.Serial+(((zM.Events).length:Nat):Int)))>(1000000000000000:Int)))):Option Bool)).bind fun (zT:Bool) =>
  (bif zT then some (2:Int) else
  (bif ((((zM.Events).length:Nat):Int)==(0:Int)) then some (8:Int) else
  (bif decide ((((zM.Events).length:Nat):Int)>(1000:Int)) then some (7:Int) else
  (A9 F zM.Events).bind fun zA =>
  some zA)))
  | (.inr xG) =>
  some xG)


def BK (F:Nat) (zE:List (List Int)) (yO:List Int) (rec:Int→Option (Unit⊕Int)) (zJ:Int):Option (Unit⊕Int) :=
  (bif decide (zJ<(((zE).length:Nat):Int)) then (xA zE zJ).bind fun zK =>
  (bif (yO==zK) then some (.inr zJ) else
  rec (zI (zJ+(1:Int)))) else
  some (.inl ()))

def lJ (F:Nat) (zE:List (List Int)) (yO:List Int):Nat→Int→Option (Unit⊕Int)
  | 0,_=>none
  | n+1,zJ=>BK F zE yO (lJ F zE yO n) zJ

def E8 (F:Nat) (zE:List (List Int)) (yO:List Int):Option Int :=
  (lJ F zE yO F (0:Int)).bind fun (zD:Unit⊕Int) =>
  (match zD with
  | (.inl z7) =>
  some (-1:Int)
  | (.inr xG) =>
  some xG)


def BG (zE:List (List Int)):Option (List (List Int)) :=
  (need (((([]:List (List Int))).length+(zE).length) * 16≤140737488355328)).bind fun _ =>
  some ([]++zE)


def lH (F:Nat) (yD:List (List Int)) (zE:List Int):Option (Int×(List (List Int))×Int) :=
  (pN F zE).bind fun zA =>
  (bif (zA != (0:Int)) then some ((0:Int),yD,zA) else
  (E8 F yD zE).bind fun zF =>
  (bif decide (zF≥(0:Int)) then some (zF,yD,(0:Int)) else
  (bif decide ((((yD).length:Nat):Int)≥(1000:Int)) then some ((0:Int),yD,(6:Int)) else
  (BG yD).bind fun zN=>(need (((zN).length+(([zE]:List (List Int))).length) * 16≤140737488355328)).bind fun _ =>
  some ((((yD).length:Nat):Int),(zN++([zE]:List (List Int))),(0:Int)))))


def BT (zE:List (zX)):Option (List (zX)) :=
  (need (((([]:List zX)).length+(zE).length) * 16≤140737488355328)).bind fun _ =>
  some ([]++zE)


def BU (F:Nat) (zE:List (zX)) (yO:zX) (rec:Int→Option (Unit⊕Int)) (zJ:Int):Option (Unit⊕Int) :=
  (bif decide (zJ<(((zE).length:Nat):Int)) then (xA zE zJ).bind fun zK =>
  (bif (decide (yO=zK)) then some (.inr zJ) else
  rec (zI (zJ+(1:Int)))) else
  some (.inl ()))

def oN (F:Nat) (zE:List (zX)) (yO:zX):Nat→Int→Option (Unit⊕Int)
  | 0,_=>none
  | n+1,zJ=>BU F zE yO (oN F zE yO n) zJ

def CN (F:Nat) (zE:List (zX)) (yO:zX):Option Int :=
  (oN F zE yO F (0:Int)).bind fun (zD:Unit⊕Int) =>
  (match zD with
  | (.inl z7) =>
  some (-1:Int)
  | (.inr xG) =>
  some xG)


def AM (F:Nat) (yD:List (List Int)) (yG:List (zX)) (zQ:List (List Int)) (rec:Int→(List (List Int))→Int→(List zX)→Option ((Int×(List (List Int))×(List zX))⊕(Int×(List (List Int))×(List (zX))×Int))) (xZ:Int) (z4:List (List Int)) (zJ:Int) (zL:List zX):Option ((Int×(List (List Int))×(List zX))⊕(Int×(List (List Int))×(List (zX))×Int)) :=
  (bif decide (zJ<(((zQ).length:Nat):Int)) then (xA zQ zJ).bind fun zK =>
  (lH F z4 zK).bind fun zN =>
  (bif (zN.2.2 != (0:Int)) then some (.inr ((0:Int),yD,yG,zN.2.2)) else
  (CN F zL (⟨xZ,zN.1⟩:zX)).bind fun zV =>
  (bif decide (zV≥(0:Int)) then rec zV zN.2.1 (zI (zJ+(1:Int))) zL else
  (bif decide ((((zL).length:Nat):Int)≥(1000:Int)) then some (.inr ((0:Int),yD,yG,(6:Int))) else
  (need (((zL).length+(([(⟨xZ,zN.1⟩:zX)]:List zX)).length) * 16≤140737488355328)).bind fun _ =>
  rec (((zL).length:Nat):Int) zN.2.1 (zI (zJ+(1:Int))) (zL++([(⟨xZ,zN.1⟩:zX)]:List zX))))) else
  some (.inl (xZ,z4,zL)))

def mA (F:Nat) (yD:List (List Int)) (yG:List (zX)) (zQ:List (List Int)):Nat→Int→(List (List Int))→Int→(List zX)→Option ((Int×(List (List Int))×(List zX))⊕(Int×(List (List Int))×(List (zX))×Int))
  | 0,_,_,_,_=>none
  | n+1,xZ,z4,zJ,zL=>AM F yD yG zQ (mA F yD yG zQ n) xZ z4 zJ zL

def EG (F:Nat) (yD:List (List Int)) (yG:List (zX)) (zQ:List (List Int)):Option (Int×(List (List Int))×(List (zX))×Int) :=
  (rA F zQ).bind fun zA =>
  (bif (zA != (0:Int)) then some ((0:Int),yD,yG,zA) else
  (BT yG).bind fun zF =>
  (mA F yD yG zQ F (-1:Int) yD (0:Int) zF).bind fun (zD:(Int×(List (List Int))×(List zX))⊕(Int×(List (List Int))×(List (zX))×Int)) =>
  (match zD with
  | (.inl z7) =>
  some (z7.1,z7.2.1,z7.2.2,(0:Int))
  | (.inr xG) =>
  some xG))


def DP (F:Nat) (yD:List (List Int)) (yG:List (zX)) (z0:xF):Option ((List (Int))×(List (List Int))×(List (zX))×Int) :=
  (bY F yD yG).bind fun zA =>
  (bif (zA != (0:Int)) then some ([],[],[],(1:Int)) else
  (gU F z0).bind fun zF =>
  (bif (zF != (0:Int)) then some ([],[],[],zF) else
  (o7 z0.Kind).bind fun zN =>
  (uK F [] z0.Kind).bind fun zV=>(uK F zV z0.At).bind fun zU =>
  (((bif zN.1 then (lH F yD z0.Name).bind fun yB =>
  (bif (yB.2.2 != (0:Int)) then some (.inr ([],[],[],yB.2.2)) else
  (uK F zU yB.1).bind fun yY =>
  some (.inl (yB.2.1,yY))) else
  some (.inl (yD,zU))):Option (((List (List Int))×(List Int))⊕((List (Int))×(List (List Int))×(List (zX))×Int)))).bind fun (zD:((List (List Int))×(List Int))⊕((List (Int))×(List (List Int))×(List (zX))×Int)) =>
  (match zD with
  | (.inl z7) =>
  (((bif zN.2.1 then (uK F z7.2 z0.N).bind fun y4 =>
  some y4 else
  some z7.2):Option (List Int))).bind fun (zT:(List Int)) =>
  (((bif zN.2.2.1 then (uK F zT z0.M).bind fun yL =>
  some yL else
  some zT):Option (List Int))).bind fun (yS:(List Int)) =>
  (((bif zN.2.2.2 then (EG F z7.1 yG z0.Stack).bind fun xI =>
  (bif (xI.2.2.2 != (0:Int)) then some (.inr ([],[],[],xI.2.2.2)) else
  (uK F yS xI.1).bind fun vD =>
  some (.inl (xI.2.1,xI.2.2.1,vD))) else
  some (.inl (z7.1,yG,yS))):Option (((List (List Int))×(List zX)×(List Int))⊕((List (Int))×(List (List Int))×(List (zX))×Int)))).bind fun (xO:((List (List Int))×(List zX)×(List Int))⊕((List (Int))×(List (List Int))×(List (zX))×Int)) =>
  (match xO with
  | (.inl qS) =>
  some (qS.2.2,qS.1,qS.2.1,(0:Int))
  | (.inr q8) =>
  some q8)
  | (.inr xG) =>
  some xG)))


def EN (F:Nat) (zQ:List (Int)) (rec:Int→(List Int)→Option (List Int)) (zJ:Int) (zL:List Int):Option (List Int) :=
  (bif decide (zJ<(((zQ).length:Nat):Int)) then (xA zQ zJ).bind fun zK =>
  (uK F zL zK).bind fun zA =>
  rec (zI (zJ+(1:Int))) zA else
  some zL)

def lQ (F:Nat) (zQ:List (Int)):Nat→Int→(List Int)→Option (List Int)
  | 0,_,_=>none
  | n+1,zJ,zL=>EN F zQ (lQ F zQ n) zJ zL

def DQ (F:Nat) (zQ:List (Int)):Option (List (Int)) :=
  (lQ F zQ F (0:Int) []).bind fun (zD:(List Int)) =>
  some zD


def EZ (F:Nat) (zQ:List (Int)) (rec:Int→(List Int)→Option (List Int)) (zJ:Int) (zL:List Int):Option (List Int) :=
  (bif decide (zJ<(((zQ).length:Nat):Int)) then (xA zQ zJ).bind fun zK =>
  (uK F zL zK).bind fun zA =>
  rec (zI (zJ+(1:Int))) zA else
  some zL)

def rB (F:Nat) (zQ:List (Int)):Nat→Int→(List Int)→Option (List Int)
  | 0,_,_=>none
  | n+1,zJ,zL=>EZ F zQ (rB F zQ n) zJ zL

def d0 (F:Nat) (zC:List (Int)) (zQ:List (Int)):Option (List (Int)) :=
  (rB F zQ F (0:Int) zC).bind fun (zD:(List Int)) =>
  some zD


def EO (F:Nat) (zM:yE) (rec:(List (List Int))→(List zX)→Int→(List Int)→Option (((List (List Int))×(List zX)×(List Int))⊕((List (Int))×Int))) (yD:List (List Int)) (yG:List zX) (zJ:Int) (zL:List Int):Option (((List (List Int))×(List zX)×(List Int))⊕((List (Int))×Int)) :=
  (bif decide (zJ<(((zM.Events).length:Nat):Int)) then (xA zM.Events zJ).bind fun zK =>
  (DP F yD yG zK).bind fun zF =>
  (bif (zF.2.2.2 != (0:Int)) then some (.inr ([],zF.2.2.2)) else
  (need (((zL).length+(zF.1).length) * 1≤140737488355328)).bind fun _ =>
  rec zF.2.1 zF.2.2.1 (zI (zJ+(1:Int))) (zL++zF.1)) else
  some (.inl (yD,yG,zL)))

def o5 (F:Nat) (zM:yE):Nat→(List (List Int))→(List zX)→Int→(List Int)→Option (((List (List Int))×(List zX)×(List Int))⊕((List (Int))×Int))
  | 0,_,_,_,_=>none
  | n+1,yD,yG,zJ,zL=>EO F zM (o5 F zM n) yD yG zJ zL

def AT (F:Nat) (z7:(List (List Int))×(List zX)×(List Int)) (rec:Int→(List Int)→Option (List Int)) (xK:Int) (zY:List Int):Option (List Int) :=
  (bif decide (xK<(((z7.1).length:Nat):Int)) then (xA z7.1 xK).bind fun yA =>
  (l8 F zY yA).bind fun zV =>
  rec (zI (xK+(1:Int))) zV else
  some zY)

def lA (F:Nat) (z7:(List (List Int))×(List zX)×(List Int)):Nat→Int→(List Int)→Option (List Int)
  | 0,_,_=>none
  | n+1,xK,zY=>AT F z7 (lA F z7 n) xK zY

def DB (F:Nat) (z7:(List (List Int))×(List zX)×(List Int)) (rec:Int→(List Int)→Option (List Int)) (wD:Int) (yZ:List Int):Option (List Int) :=
  (bif decide (wD<(((z7.2.1).length:Nat):Int)) then (xA z7.2.1 wD).bind fun y9 =>
  (d0 F yZ ([y9.c0,y9.c1]:List Int)).bind fun yB =>
  rec (zI (wD+(1:Int))) yB else
  some yZ)

def o4 (F:Nat) (z7:(List (List Int))×(List zX)×(List Int)):Nat→Int→(List Int)→Option (List Int)
  | 0,_,_=>none
  | n+1,wD,yZ=>DB F z7 (o4 F z7 n) wD yZ

def gH (F:Nat) (zM:yE):Option ((List (Int))×Int) :=
  (fK F zM).bind fun zA =>
  (bif (zA != (0:Int)) then some ([],zA) else
  (o5 F zM F [] [] (0:Int) []).bind fun (zD:((List (List Int))×(List zX)×(List Int))⊕((List (Int))×Int)) =>
  (match zD with
  | (.inl z7) =>
  (DQ F ([zM.Thread,zM.Serial,zM.Lost,(((z7.1).length:Nat):Int)]:List Int)).bind fun zN =>
  (lA F z7 F (0:Int) zN).bind fun (zT:(List Int)) =>
  (d0 F zT ([(((z7.2.1).length:Nat):Int)]:List Int)).bind fun zU =>
  (o4 F z7 F (0:Int) zU).bind fun (yS:(List Int)) =>
  (d0 F yS ([(((zM.Events).length:Nat):Int)]:List Int)).bind fun yY=>(need (((yY).length+(z7.2.2).length) * 1≤140737488355328)).bind fun _ =>
  some ((yY++z7.2.2),(0:Int))
  | (.inr xG) =>
  some xG))


def BJ (F:Nat) (rec:Int→(List Int)→Int→Int→(List (List Int))→Option ((List Int)×Int×Int×(List (List Int)))) (z4:Int) (zB:List Int) (yN:Int) (yP:Int) (zL:List (List Int)):Option ((List Int)×Int×Int×(List (List Int))) :=
  (bif (decide (z4>(0:Int))&&(yP==(0:Int))) then (E3 F (⟨zB,yN,yP⟩:uA)).bind fun zU=>(need (((zL).length+(([zU.1]:List (List Int))).length) * 16≤140737488355328)).bind fun _ =>
  rec (zI (z4 - (1:Int))) zU.2.b zU.2.used zU.2.fault (zL++([zU.1]:List (List Int))) else
  some (zB,yN,yP,zL))

def mC (F:Nat):Nat→Int→(List Int)→Int→Int→(List (List Int))→Option ((List Int)×Int×Int×(List (List Int)))
  | 0,_,_,_,_,_=>none
  | n+1,z4,zB,yN,yP,zL=>BJ F (mC F n) z4 zB yN yP zL

def A8 (F:Nat) (rec:Int→(List Int)→Int→Int→(List zX)→Option ((List Int)×Int×Int×(List zX))) (uQ:Int) (yI:List Int) (yX:Int) (y5:Int) (zY:List zX):Option ((List Int)×Int×Int×(List zX)) :=
  (bif (decide (uQ>(0:Int))&&(y5==(0:Int))) then (nN F (⟨yI,yX,y5⟩:uA)).bind fun yY =>
  (nN F yY.2).bind fun y4=>(need (((zY).length+(([(⟨yY.1,y4.1⟩:zX)]:List zX)).length) * 16≤140737488355328)).bind fun _ =>
  rec (zI (uQ - (1:Int))) y4.2.b y4.2.used y4.2.fault (zY++([(⟨yY.1,y4.1⟩:zX)]:List zX)) else
  some (yI,yX,y5,zY))

def rZ (F:Nat):Nat→Int→(List Int)→Int→Int→(List zX)→Option ((List Int)×Int×Int×(List zX))
  | 0,_,_,_,_,_=>none
  | n+1,uQ,yI,yX,y5,zY=>A8 F (rZ F n) uQ yI yX y5 zY

def DG (F:Nat) (zC:List (Int)) (zD:((List Int)×Int×Int×(List (List Int)))) (zT:((List Int)×Int×Int×(List zX))) (rec:Int→Int→Int→(List xF)→Option (Int×Int×(List xF))) (j7:Int) (wE:Int) (wN:Int) (yZ:List xF):Option (Int×Int×(List xF)) :=
  (bif (decide (j7>(0:Int))&&(wN==(0:Int))) then (need ((0:Int)≤wE∧wE≤(((zC).length:Nat):Int))).bind fun _=>(CM F zD.2.2.2 zT.2.2.2 (sub zC wE (((zC).length:Nat):Int))).bind fun vD =>
  (need (((yZ).length+(([vD.1]:List xF)).length) * 72≤140737488355328)).bind fun _ =>
  rec (zI (j7 - (1:Int))) (zI (wE+vD.2.1)) vD.2.2 (yZ++([vD.1]:List xF)) else
  some (wE,wN,yZ))

def l5 (F:Nat) (zC:List (Int)) (zD:((List Int)×Int×Int×(List (List Int)))) (zT:((List Int)×Int×Int×(List zX))):Nat→Int→Int→Int→(List xF)→Option (Int×Int×(List xF))
  | 0,_,_,_,_=>none
  | n+1,j7,wE,wN,yZ=>DG F zC zD zT (l5 F zC zD zT n) j7 wE wN yZ

def CL (F:Nat) (zC:List (Int)):Option (yE×Int×Int) :=
  (nN F (⟨zC,(0:Int),(0:Int)⟩:uA)).bind fun zA =>
  (nN F zA.2).bind fun zF =>
  (nN F zF.2).bind fun zN =>
  (g7 F zN.2 (1000:Int)).bind fun zV =>
  (mC F F zV.1 zV.2.b zV.2.used zV.2.fault []).bind fun (zD:((List Int)×Int×Int×(List (List Int)))) =>
  (g7 F (⟨zD.1,zD.2.1,zD.2.2.1⟩:uA) (1000:Int)).bind fun yB =>
  (rZ F F yB.1 yB.2.b yB.2.used yB.2.fault []).bind fun (zT:((List Int)×Int×Int×(List zX))) =>
  (((bif (zT.2.2.1==(0:Int)) then (bY F zD.2.2.2 zT.2.2.2).bind fun yL =>
  some yL else
  some zT.2.2.1):Option Int)).bind fun (yS:Int) =>
  (g7 F (⟨zT.1,zT.2.1,yS⟩:uA) (1000:Int)).bind fun xI =>
  (l5 F zC zD zT F xI.1 xI.2.used xI.2.fault []).bind fun (xO:(Int×Int×(List xF))) =>
  (((bif (xO.2.1==(0:Int)) then (fK F (⟨zA.1,zF.1,zN.1,xO.2.2⟩:yE)).bind fun jK =>
  some jK else
  some xO.2.1):Option Int)).bind fun (wJ:Int) =>
  (bif (wJ != (0:Int)) then some ((⟨(0:Int),(0:Int),(0:Int),[]⟩:yE),(0:Int),wJ) else
  (gH F (⟨zA.1,zF.1,zN.1,xO.2.2⟩:yE)).bind fun qT =>
  ((bif (qT.2 != (0:Int)) then (some true) else ((need ((0:Int)≤xO.1∧xO.1≤(((zC).length:Nat):Int))).bind fun _=>(gA qT.1 (sub zC (0:Int) xO.1)).bind fun tX=>some (!tX)))).bind fun (zM:Bool) =>
  (bif zM then some ((⟨(0:Int),(0:Int),(0:Int),[]⟩:yE),(0:Int),(10:Int)) else
  some ((⟨zA.1,zF.1,zN.1,xO.2.2⟩:yE),xO.1,(0:Int))))


def BC (vJ:y6) (yO:yE):Option Bool :=
  some (vJ.Id==yO.Thread)


def A2 (F:Nat) (zE:List (y6)) (zB:yE) (rec:Int→Option (Unit⊕Int)) (zJ:Int):Option (Unit⊕Int) :=
  (bif decide (zJ<(((zE).length:Nat):Int)) then (xA zE zJ).bind fun zK=>(BC zK zB).bind fun zA =>
  (bif zA then some (.inr zJ) else
  rec (zI (zJ+(1:Int)))) else
  some (.inl ()))

def AD (F:Nat) (zE:List (y6)) (zB:yE):Nat→Int→Option (Unit⊕Int)
  | 0,_=>none
  | n+1,zJ=>A2 F zE zB (AD F zE zB n) zJ

def DJ (F:Nat) (zE:List (y6)) (zB:yE):Option Int :=
  (AD F zE zB F (0:Int)).bind fun (zD:Unit⊕Int) =>
  (match zD with
  | (.inl z7) =>
  some (-1:Int)
  | (.inr xG) =>
  some xG)


def EM (F:Nat) (zE:List (y6)) (zB:yE):Option Bool :=
  (DJ F zE zB).bind fun zA =>
  some (decide (zA≥(0:Int)))


def r5 (F:Nat) (zB:yH) (zM:yE):Option (Int×yH) :=
  (EM F zB.head.Threads zM).bind fun zA =>
  (bif !zA then some ((5:Int),zB) else
  ((bif (zM.Serial != (zI ((((w9 ((zB.ends).getD []) zM.Thread).getD (⟨(0:Int),(0:Int)⟩:xM)).next)+zM.Lost))) then (some true) else ((xA zM.Events (0:Int)).bind fun zK=>some (decide (zK.At<(((w9 ((zB.ends).getD []) zM.Thread).getD (⟨(0:Int),(0:Int)⟩:xM)).last)))))).bind fun (uJ:Bool) =>
  (bif uJ then some ((11:Int),zB) else
  (((bif (zB.ends).isNone then some [] else
  some ((zB.ends).getD [])):Option (List (Int×xM)))).bind fun (zD:(List (Int×xM))) =>
  (xA zM.Events (zI ((((zM.Events).length:Nat):Int) - (1:Int)))).bind fun yA=>(need ((zD).length<140737488355328)).bind fun _ =>
  (need (((zB.packets).length+(([zM]:List yE)).length) * 48≤140737488355328)).bind fun _ =>
  some ((0:Int),(⟨zB.head,(zB.packets++([zM]:List yE)),(some (xS zD zM.Thread (⟨zI (zM.Serial+(((zM.Events).length:Nat):Int)),yA.At⟩:xM))),zI (zB.events+(((zM.Events).length:Nat):Int))⟩:yH))))


def EA (F:Nat) (zC:List (Int)) (rec:Bool→Bool→Int→(List y6)→(List yQ)→(List y2)→(Option (List (Int×xM)))→Int→Int→(List yE)→(List y6)→(List yQ)→(Option (List (Int×xM)))→Int→(List y2)→(List yE)→Option xQ) (tY:Bool) (jL:Bool) (xZ:Int) (zB:List y6) (yN:List yQ) (yP:List y2) (yI:Option (List (Int×xM))) (yX:Int) (y5:Int) (zL:List yE) (wE:List y6) (wN:List yQ) (wH:Option (List (Int×xM))) (vE:Int) (zY:List y2) (yZ:List yE):Option xQ :=
  (need ((0:Int)≤xZ∧xZ≤(((zC).length:Nat):Int))).bind fun _=>(AA F (sub zC xZ (((zC).length:Nat):Int))).bind fun zU =>
  (bif (zU.2.2==(0:Int)) then some (⟨(⟨(⟨zB,yN,yP⟩:z6),zL,yI,yX⟩:yH),y5⟩:xQ) else
  (bif (zU.1==(83:Int)) then (GN F zU.2.1).bind fun yB =>
  (need (((zY).length+(([yB.1]:List y2)).length) * 40≤140737488355328)).bind fun _ =>
  ((bif !yB.2 then (some true) else (bif jL then (some true) else ((bD F wN (zY++([yB.1]:List y2))).bind fun yY=>some (yY != (0:Int)))))).bind fun (uJ:Bool) =>
  (bif uJ then some (⟨(⟨(⟨zB,yN,yP⟩:z6),zL,yI,yX⟩:yH),y5⟩:xQ) else
  rec true jL (zI (xZ+zU.2.2)) zB yN yP yI yX y5 zL wE wN wH vE (zY++([yB.1]:List y2)) yZ) else
  (bif (zU.1==(80:Int)) then (CL F zU.2.1).bind fun y4 =>
  ((bif (y4.2.2 != (0:Int)) then (some (true,wE,wN,wH,vE,zY,yZ)) else (bif (y4.2.1 != (((zU.2.1).length:Nat):Int)) then (some (true,wE,wN,wH,vE,zY,yZ)) else ((r5 F (⟨(⟨wE,wN,zY⟩:z6),yZ,wH,vE⟩:yH) y4.1).bind fun yL=>bif (yL.1 != (0:Int)) then (some (true,yL.2.head.Threads,yL.2.head.Domains,yL.2.ends,yL.2.events,yL.2.head.Snaps,yL.2.packets)) else (some (decide (yL.2.events>(20000:Int)),yL.2.head.Threads,yL.2.head.Domains,yL.2.ends,yL.2.events,yL.2.head.Snaps,yL.2.packets)))))).bind fun (tP:Bool×(List y6)×(List yQ)×(Option (List (Int×xM)))×Int×(List y2)×(List yE)) =>
  (bif tP.1 then some (⟨(⟨(⟨zB,yN,yP⟩:z6),zL,yI,yX⟩:yH),y5⟩:xQ) else
  rec true true (zI (xZ+zU.2.2)) zB yN yP yI yX y5 zL tP.2.1 tP.2.2.1 tP.2.2.2.1 tP.2.2.2.2.1 tP.2.2.2.2.2.1 tP.2.2.2.2.2.2) else
  (bif (zU.1==(70:Int)) then (bif (decide ((((zU.2.1).length:Nat):Int)>(0:Int))||!tY) then some (⟨(⟨(⟨zB,yN,yP⟩:z6),zL,yI,yX⟩:yH),y5⟩:xQ) else
  (oR (⟨(⟨wE,wN,zY⟩:z6),yZ,wH,vE⟩:yH)).bind fun xI =>
  rec false false (zI (xZ+zU.2.2)) wE wN zY wH vE (zI (xZ+zU.2.2)) yZ xI.head.Threads xI.head.Domains xI.ends xI.events xI.head.Snaps xI.packets) else
  some (⟨(⟨(⟨zB,yN,yP⟩:z6),zL,yI,yX⟩:yH),y5⟩:xQ)))))

def oO (F:Nat) (zC:List (Int)):Nat→Bool→Bool→Int→(List y6)→(List yQ)→(List y2)→(Option (List (Int×xM)))→Int→Int→(List yE)→(List y6)→(List yQ)→(Option (List (Int×xM)))→Int→(List y2)→(List yE)→Option xQ
  | 0,_,_,_,_,_,_,_,_,_,_,_,_,_,_,_,_=>none
  | n+1,tY,jL,xZ,zB,yN,yP,yI,yX,y5,zL,wE,wN,wH,vE,zY,yZ=>EA F zC (oO F zC n) tY jL xZ zB yN yP yI yX y5 zL wE wN wH vE zY yZ

def g8 (F:Nat) (zC:List (Int)):Option xQ :=
  (AA F zC).bind fun zA =>
  (BY F zA.2.1).bind fun zF =>
  ((bif (zA.2.2==(0:Int)) then (some true) else (bif (zA.1 != (72:Int)) then (some true) else (bif !zF.2 then (some true) else ((aV F zF.1).bind fun zN=>some (zN != (0:Int))))))).bind fun (zM:Bool) =>
  (bif zM then some (⟨(⟨(⟨[],[],[]⟩:z6),[],none,(0:Int)⟩:yH),(0:Int)⟩:xQ) else
  (oR (⟨zF.1,[],none,(0:Int)⟩:yH)).bind fun zV =>
  (oO F zC F false false zA.2.2 zF.1.Threads zF.1.Domains zF.1.Snaps none (0:Int) zA.2.2 [] zV.head.Threads zV.head.Domains zV.ends zV.events zV.head.Snaps zV.packets).bind fun (zD:xQ) =>
  some zD)


def mD (F:Nat) (zC:List (Int)):Option (z6×(List (yE))×Int) :=
  (g8 F zC).bind fun zA =>
  some (zA.done.head,zA.done.packets,zA.used)


def GG (F:Nat) (yO:z6) (zC:z6) (rec:Int→Option (Unit⊕Bool)) (z5:Int):Option (Unit⊕Bool) :=
  (bif decide (z5<(((yO.Threads).length:Nat):Int)) then (xA yO.Threads z5).bind fun zK=>(xA zC.Threads z5).bind fun yA =>
  (bif (!(decide (zK=yA))) then some (.inr false) else
  rec (zI (z5+(1:Int)))) else
  some (.inl ()))

def AC (F:Nat) (yO:z6) (zC:z6):Nat→Int→Option (Unit⊕Bool)
  | 0,_=>none
  | n+1,z5=>GG F yO zC (AC F yO zC n) z5

def E5 (F:Nat) (yO:z6) (zC:z6) (rec:Int→Option (Unit⊕Bool)) (wQ:Int):Option (Unit⊕Bool) :=
  (bif decide (wQ<(((yO.Domains).length:Nat):Int)) then (xA yO.Domains wQ).bind fun y9=>(xA zC.Domains wQ).bind fun wW =>
  (bif (!(decide (y9=wW))) then some (.inr false) else
  rec (zI (wQ+(1:Int)))) else
  some (.inl ()))

def oX (F:Nat) (yO:z6) (zC:z6):Nat→Int→Option (Unit⊕Bool)
  | 0,_=>none
  | n+1,wQ=>E5 F yO zC (oX F yO zC n) wQ

def AQ (F:Nat) (yO:z6) (zC:z6) (rec:Int→Option (Unit⊕Bool)) (jU:Int):Option (Unit⊕Bool) :=
  (bif decide (jU<(((yO.Snaps).length:Nat):Int)) then (xA yO.Snaps jU).bind fun uI=>(xA zC.Snaps jU).bind fun u2 =>
  (bif (!(decide (uI=u2))) then some (.inr false) else
  rec (zI (jU+(1:Int)))) else
  some (.inl ()))

def lI (F:Nat) (yO:z6) (zC:z6):Nat→Int→Option (Unit⊕Bool)
  | 0,_=>none
  | n+1,jU=>AQ F yO zC (lI F yO zC n) jU

def CY (F:Nat) (yO:z6) (zC:z6):Option Bool :=
  (bif (((((yO.Threads).length:Nat):Int) != (((zC.Threads).length:Nat):Int))||(((((yO.Domains).length:Nat):Int) != (((zC.Domains).length:Nat):Int))||((((yO.Snaps).length:Nat):Int) != (((zC.Snaps).length:Nat):Int)))) then some false else
  (AC F yO zC F (0:Int)).bind fun (zD:Unit⊕Bool) =>
  (match zD with
  | (.inl z7) =>
  (oX F yO zC F (0:Int)).bind fun (zT:Unit⊕Bool) =>
  (match zT with
  | (.inl qS) =>
  (lI F yO zC F (0:Int)).bind fun (yS:Unit⊕Bool) =>
  (match yS with
  | (.inl q_5) =>
  some true
  | (.inr q_6) =>
  some q_6)
  | (.inr q8) =>
  some q8)
  | (.inr xG) =>
  some xG))


def rS (nV:Int) (xZ:Int):Option yE :=
  some (⟨(1:Int),nV,(0:Int),([(⟨xZ,(3:Int),([97]:List Int),(0:Int),(0:Int),[]⟩:xF)]:List xF)⟩:yE)


def D5 (F:Nat) (wK:List (y2)) (rec:Int→(List (List (Int)))→Option (List (List (Int)))) (zJ:Int) (zL:List (List (Int))):Option (List (List (Int))) :=
  (bif decide (zJ<(((wK).length:Nat):Int)) then (xA wK zJ).bind fun zK =>
  (fI F [] zK).bind fun zA=>(kV F (83:Int) zA).bind fun zF=>(need (((zL).length+(([zF]:List (List (Int)))).length) * 24≤140737488355328)).bind fun _ =>
  rec (zI (zJ+(1:Int))) (zL++([zF]:List (List (Int)))) else
  some zL)

def oF (F:Nat) (wK:List (y2)):Nat→Int→(List (List (Int)))→Option (List (List (Int)))
  | 0,_,_=>none
  | n+1,zJ,zL=>D5 F wK (oF F wK n) zJ zL

def C7 (F:Nat) (zQ:List (yE)) (rec:Int→(List (List (Int)))→Option (List (List (Int)))) (xK:Int) (zY:List (List (Int))):Option (List (List (Int))) :=
  (bif decide (xK<(((zQ).length:Nat):Int)) then (xA zQ xK).bind fun yA =>
  (gH F yA).bind fun zN =>
  (kV F (80:Int) zN.1).bind fun zV=>(need (((zY).length+(([zV]:List (List (Int)))).length) * 24≤140737488355328)).bind fun _ =>
  rec (zI (xK+(1:Int))) (zY++([zV]:List (List (Int)))) else
  some zY)

def oI (F:Nat) (zQ:List (yE)):Nat→Int→(List (List (Int)))→Option (List (List (Int)))
  | 0,_,_=>none
  | n+1,xK,zY=>C7 F zQ (oI F zQ n) xK zY

def AY (F:Nat) (zT:(List (List (Int)))) (zU:(List (Int))) (rec:Int→Int→Option Int) (xV:Int) (wD:Int):Option Int :=
  (bif decide (wD<((((zT++([zU]:List (List (Int))))).length:Nat):Int)) then (xA (zT++([zU]:List (List (Int)))) wD).bind fun y9 =>
  rec (zI (xV+(((y9).length:Nat):Int))) (zI (wD+(1:Int))) else
  some xV)

def lF (F:Nat) (zT:(List (List (Int)))) (zU:(List (Int))):Nat→Int→Int→Option Int
  | 0,_,_=>none
  | n+1,xV,wD=>AY F zT zU (lF F zT zU n) xV wD

def G1 (F:Nat) (wK:List (y2)) (zQ:List (yE)):Option ((List (List (Int)))×Int) :=
  (oF F wK F (0:Int) []).bind fun (zD:(List (List (Int)))) =>
  (oI F zQ F (0:Int) zD).bind fun (zT:(List (List (Int)))) =>
  (kV F (70:Int) []).bind fun zU=>(need (((zT).length+(([zU]:List (List (Int)))).length) * 24≤140737488355328)).bind fun _ =>
  (lF F zT zU F (0:Int) (0:Int)).bind fun (yS:Int) =>
  some ((zT++([zU]:List (List (Int)))),yS)


abbrev zY0:Type:=((List y6)×(List yQ)×(Option (List (Int×xM)))×Int×(List y2)×(List yE))
def CA (F:Nat) (zQ:List (yE)) (rec:Int→(List y6)→(List yQ)→(Option (List (Int×xM)))→Int→(List y2)→(List yE)→Option (zY0⊕(yV×Int))) (zJ:Int) (zB:List y6) (yN:List yQ) (yP:Option (List (Int×xM))) (yI:Int) (zL:List y2) (zY:List yE):Option (zY0⊕(yV×Int)) :=
  (bif decide (zJ<(((zQ).length:Nat):Int)) then (xA zQ zJ).bind fun zK =>
  (fK F zK).bind fun zU =>
  (bif (zU != (0:Int)) then some (.inr ((⟨(0:Int),[],(0:Int),(0:Int),false⟩:yV),zU)) else
  (r5 F (⟨(⟨zB,yN,zL⟩:z6),zY,yP,yI⟩:yH) zK).bind fun yB =>
  (bif (yB.1 != (0:Int)) then some (.inr ((⟨(0:Int),[],(0:Int),(0:Int),false⟩:yV),yB.1)) else
  (gH F zK).bind fun yY =>
  (bif (yY.2 != (0:Int)) then some (.inr ((⟨(0:Int),[],(0:Int),(0:Int),false⟩:yV),yY.2)) else
  rec (zI (zJ+(1:Int))) yB.2.head.Threads yB.2.head.Domains yB.2.ends yB.2.events yB.2.head.Snaps yB.2.packets))) else
  some (.inl (zB,yN,yP,yI,zL,zY)))

def mW (F:Nat) (zQ:List (yE)):Nat→Int→(List y6)→(List yQ)→(Option (List (Int×xM)))→Int→(List y2)→(List yE)→Option (zY0⊕(yV×Int))
  | 0,_,_,_,_,_,_,_=>none
  | n+1,zJ,zB,yN,yP,yI,zL,zY=>CA F zQ (mW F zQ n) zJ zB yN yP yI zL zY

def i5 (F:Nat) (zG:yV) (wK:List (y2)) (zQ:List (yE)):Option (yV×Int) :=
  (bQ zG).bind fun zA =>
  (bif (zA != (0:Int)) then some ((⟨(0:Int),[],(0:Int),(0:Int),false⟩:yV),zA) else
  (bif zG.Down then some (zG,(19:Int)) else
  (g8 F zG.Data).bind fun zF =>
  (bif ((zF.used==(0:Int))||(zF.used != (((zG.Data).length:Nat):Int))) then some ((⟨(0:Int),[],(0:Int),(0:Int),false⟩:yV),(18:Int)) else
  (bif ((zI ((((wK).length:Nat):Int)+(((zQ).length:Nat):Int)))==(0:Int)) then some (zG,(0:Int)) else
  (mV zF.done.head.Snaps).bind fun zN=>(need (((zN).length+(wK).length) * 40≤140737488355328)).bind fun _ =>
  (bD F zF.done.head.Domains (zN++wK)).bind fun zV =>
  (bif (zV != (0:Int)) then some ((⟨(0:Int),[],(0:Int),(0:Int),false⟩:yV),zV) else
  (mW F zQ F (0:Int) zF.done.head.Threads zF.done.head.Domains zF.done.ends zF.done.events (zN++wK) zF.done.packets).bind fun (zD:zY0⊕(yV×Int)) =>
  (match zD with
  | (.inl z7) =>
  (bif decide (z7.2.2.2.1>(20000:Int)) then some ((⟨(0:Int),[],(0:Int),(0:Int),false⟩:yV),(7:Int)) else
  (G1 F wK zQ).bind fun y4 =>
  (bif decide ((zI ((((zG.Data).length:Nat):Int)+y4.2))>zG.Size) then some ((⟨(0:Int),[],(0:Int),(0:Int),false⟩:yV),(6:Int)) else
  (lK F zG y4.1).bind fun yL =>
  some (yL.1,yL.2)))
  | (.inr xG) =>
  some xG))))))


def BI (zG:yV) (z4:Int):Option (yV×Int) :=
  (nQ zG).bind fun zA =>
  (bif (zA.2 != (0:Int)) then some (zA.1,zA.2) else
  (bif (decide (z4<(0:Int))||decide (z4>(1048576:Int))) then some ((⟨(0:Int),[],(0:Int),(0:Int),false⟩:yV),(2:Int)) else
  some ((⟨zA.1.Size,zA.1.Data,zA.1.Durable,z4,zA.1.Down⟩:yV),(0:Int))))


def GO (zG:yV) (nW:Int):Option yV :=
  (bQ zG).bind fun zA =>
  (bif (zA != (0:Int)) then some zG else
  (((bif decide (nW<(zI ((((zG.Data).length:Nat):Int) - zG.Durable))) then some (zI (zG.Durable+(cV nW (0:Int)))) else
  some (((zG.Data).length:Nat):Int)):Option Int)).bind fun (zD:Int) =>
  (need ((0:Int)≤zD∧zD≤(((zG.Data).length:Nat):Int))).bind fun _=>(r9 (sub zG.Data (0:Int) zD)).bind fun zF =>
  some (⟨zG.Size,zF,zD,(-1:Int),false⟩:yV))


def DK (zG:yV) (z4:Int):Option (yV×Int) :=
  (nQ zG).bind fun zA =>
  (bif (zA.2 != (0:Int)) then some (zA.1,zA.2) else
  (bif (decide (z4<(0:Int))||decide (z4>(((zA.1.Data).length:Nat):Int))) then some ((⟨(0:Int),[],(0:Int),(0:Int),false⟩:yV),(2:Int)) else
  (need ((0:Int)≤z4∧z4≤(((zA.1.Data).length:Nat):Int))).bind fun _ =>
  some ((⟨zA.1.Size,sub zA.1.Data (0:Int) z4,nI zA.1.Durable z4,zA.1.Left,zA.1.Down⟩:yV),(0:Int))))


def GC (F:Nat) (zG:yV):Option (yV×Int) :=
  (bQ zG).bind fun zA =>
  (bif (zA != (0:Int)) then some ((⟨(0:Int),[],(0:Int),(0:Int),false⟩:yV),zA) else
  (bif zG.Down then some (zG,(19:Int)) else
  (g8 F zG.Data).bind fun zF =>
  (bif (zF.used==(0:Int)) then some ((⟨(0:Int),[],(0:Int),(0:Int),false⟩:yV),(10:Int)) else
  (DK zG zF.used).bind fun zN =>
  (bif (zN.2 != (0:Int)) then some (zN.1,zN.2) else
  (mB zN.1).bind fun zV =>
  some (zV.1,zV.2)))))


def gI (F:Nat):Option Bool :=
  (B6 (1000:Int)).bind fun zA =>
  (rP ).bind fun zF=>(C8 F zA.1 zF).bind fun zN =>
  (mD F zN.1.Data).bind fun zV =>
  ((bif (zA.2 != (0:Int)) then (some true) else (bif (zN.2 != (0:Int)) then (some true) else ((rP ).bind fun zU=>(CY F zV.1 zU).bind fun yB=>bif !yB then (some true) else (bif ((((zV.2.1).length:Nat):Int) != (0:Int)) then (some true) else (bif (zV.2.2 != (((zN.1.Data).length:Nat):Int)) then (some true) else (some (zV.2.2==(0:Int))))))))).bind fun (zM:Bool) =>
  (bif zM then some false else
  (need ((0:Int)≤(zI (zV.2.2 - (1:Int)))∧(zI (zV.2.2 - (1:Int)))≤(((zN.1.Data).length:Nat):Int))).bind fun _=>(mD F (sub zN.1.Data (0:Int) (zI (zV.2.2 - (1:Int))))).bind fun yY =>
  (rS (0:Int) (5:Int)).bind fun y4=>(i5 F zN.1 [] ([y4]:List yE)).bind fun yL =>
  (bif ((yL.2 != (0:Int))||(yY.2.2 != (0:Int))) then some false else
  (BI zN.1 (zI ((zI ((((yL.1.Data).length:Nat):Int) - zV.2.2)) - (1:Int)))).bind fun xI =>
  (rS (0:Int) (5:Int)).bind fun vD=>(i5 F xI.1 [] ([vD]:List yE)).bind fun jK =>
  (GO jK.1 (1000:Int)).bind fun qT=>(GC F qT).bind fun tX =>
  (kV F (70:Int) []).bind fun q9 =>
  ((bif (jK.2==(19:Int)) then (bif (tX.2==(0:Int)) then (bif ((((tX.1.Data).length:Nat):Int)==zV.2.2) then (bif decide ((((q9).length:Nat):Int)>(2:Int)) then ((xA q9 (0:Int)).bind fun zK=>bif (zK==(70:Int)) then ((xA q9 (1:Int)).bind fun yA=>some (yA==(0:Int))) else (some false)) else (some false)) else (some false)) else (some false)) else (some false))).bind fun (uJ:Bool) =>
  some uJ))


structure XI where
  B:List (Int)
  Bad:Bool
  deriving DecidableEq,Inhabited
def bG (F:Nat) (rec:Int→Int→Option Int) (y9:Int) (xY:Int):Option Int :=
  (bif decide (xY<(8:Int)) then (((bif ((u0 y9 (2:Int))==(1:Int)) then some (vO .u32 (j1 .u32 y9 (2:Int)) (3988292384:Int)) else
  some (j1 .u32 y9 (2:Int))):Option Int)).bind fun (yS:Int) =>
  rec yS (zI (xY+(1:Int))) else
  some y9)

def p8 (F:Nat):Nat→Int→Int→Option Int
  | 0,_,_=>none
  | n+1,y9,xY=>bG F (p8 F n) y9 xY

def dJ (F:Nat) (zC:List (Int)) (rec:Int→Int→Option Int) (zK:Int) (z5:Int):Option Int :=
  (bif decide (z5<(((zC).length:Nat):Int)) then (xA zC z5).bind fun yA =>
  (p8 F F (vO .u32 zK (nM yA)) (0:Int)).bind fun (zT:Int) =>
  rec zT (zI (z5+(1:Int))) else
  some zK)

def aQ (F:Nat) (zC:List (Int)):Nat→Int→Int→Option Int
  | 0,_,_=>none
  | n+1,zK,z5=>dJ F zC (aQ F zC n) zK z5

def fX (F:Nat) (zC:List (Int)):Option Int :=
  (aQ F zC F (4294967295:Int) (0:Int)).bind fun (zD:Int) =>
  some (zI (vO .u32 zD (4294967295:Int)))


def aG (F:Nat) (zB:Int) (rec:Int→Option (Unit⊕Bool)) (z5:Int):Option (Unit⊕Bool) :=
  (bif decide (z5<(((([95,46,58,47,60,62,36,42,126,45]:List Int)).length:Nat):Int)) then (xA ([95,46,58,47,60,62,36,42,126,45]:List Int) z5).bind fun yN =>
  (bif (yN==zB) then some (.inr true) else
  rec (zI (z5+(1:Int)))) else
  some (.inl ()))

def nS (F:Nat) (zB:Int):Nat→Int→Option (Unit⊕Bool)
  | 0,_=>none
  | n+1,z5=>aG F zB (nS F zB n) z5

def iY (F:Nat) (zB:Int):Option Bool :=
  (bif (bif decide (zB≥(97:Int)) then (decide (zB≤(122:Int))||(bif decide (zB≥(65:Int)) then (decide (zB≤(90:Int))||(decide (zB≥(48:Int))&&decide (zB≤(57:Int)))) else (decide (zB≥(48:Int))&&decide (zB≤(57:Int))))) else (bif decide (zB≥(65:Int)) then (decide (zB≤(90:Int))||(decide (zB≥(48:Int))&&decide (zB≤(57:Int)))) else (decide (zB≥(48:Int))&&decide (zB≤(57:Int))))) then some true else
  (nS F zB F (0:Int)).bind fun (zD:Unit⊕Bool) =>
  (match zD with
  | (.inl z7) =>
  some false
  | (.inr xG) =>
  some xG))


def dZ (F:Nat) (zE:List Int) (rec:Int→Option (Unit⊕Int)) (z5:Int):Option (Unit⊕Int) :=
  (bif decide (z5<(((zE).length:Nat):Int)) then (xA zE z5).bind fun zB=>(iY F zB).bind fun zA =>
  (bif !zA then some (.inr (3:Int)) else
  rec (zI (z5+(1:Int)))) else
  some (.inl ()))

def g5 (F:Nat) (zE:List Int):Nat→Int→Option (Unit⊕Int)
  | 0,_=>none
  | n+1,z5=>dZ F zE (g5 F zE n) z5

def dH (F:Nat) (zE:List Int):Option Int :=
  (bif (decide ((((zE).length:Nat):Int)<(1:Int))||decide ((((zE).length:Nat):Int)>(40:Int))) then some (3:Int) else
  (g5 F zE F (0:Int)).bind fun (zD:Unit⊕Int) =>
  (match zD with
  | (.inl z7) =>
  some (0:Int)
  | (.inr xG) =>
  some xG))


def iB (F:Nat) (vJ:y6):Option Int :=
  (bif (decide (vJ.Id<(0:Int))||(decide (vJ.Id>(1000000000000000:Int))||(decide (vJ.Domain<(0:Int))||decide (vJ.Domain≥(8:Int))))) then some (2:Int) else
  (dH F vJ.Name).bind fun zA =>
  some zA)


def aM (F:Nat) (zG:List (yQ)) (vZ:Int) (rec:Int→Option (Unit⊕Int)) (z5:Int):Option (Unit⊕Int) :=
  (bif decide (z5<(((zG).length:Nat):Int)) then (xA zG z5).bind fun zK =>
  (bif (zK.Id==vZ) then some (.inr z5) else
  rec (zI (z5+(1:Int)))) else
  some (.inl ()))

def fB (F:Nat) (zG:List (yQ)) (vZ:Int):Nat→Int→Option (Unit⊕Int)
  | 0,_=>none
  | n+1,z5=>aM F zG vZ (fB F zG vZ n) z5

def nC (F:Nat) (zG:List (yQ)) (vZ:Int):Option Int :=
  (fB F zG vZ F (0:Int)).bind fun (zD:Unit⊕Int) =>
  (match zD with
  | (.inl z7) =>
  some (-1:Int)
  | (.inr xG) =>
  some xG)


def dC (z4:Int):Option Bool :=
  some (decide (z4≥(0:Int))&&decide (z4≤(1000000000000:Int)))


def gQ (F:Nat) (zG:List (yQ)) (zK:y2):Option Int :=
  (((nC F zG zK.A).bind fun zA=>bif decide (zA<(0:Int)) then (some true) else ((nC F zG zK.B).bind fun zF=>some (decide (zF<(0:Int)))))).bind fun (zM:Bool) =>
  (bif zM then some (5:Int) else
  (bif (zK.A==zK.B) then some (1:Int) else
  (((dC zK.AtA).bind fun zN=>bif !zN then (some true) else ((dC zK.AtB.Lo).bind fun zV=>bif !zV then (some true) else ((dC zK.AtB.Hi).bind fun zU=>bif !zU then (some true) else (some (decide (zK.AtB.Lo>zK.AtB.Hi))))))).bind fun (uJ:Bool) =>
  (bif uJ then some (2:Int) else
  some (0:Int))))


def aB (F:Nat) (zG:List (yQ)) (rec:Int→Option (Unit⊕Int)) (z5:Int):Option (Unit⊕Int) :=
  (bif decide (z5<(((zG).length:Nat):Int)) then (((xA zG z5).bind fun y9=>bif decide (y9.Id<(0:Int)) then (some true) else ((xA zG z5).bind fun wW=>bif decide (wW.Id≥(8:Int)) then (some true) else ((xA zG z5).bind fun uI=>bif decide (uI.Ppm<(0:Int)) then (some true) else ((xA zG z5).bind fun u2=>some (decide (u2.Ppm>(10000:Int)))))))).bind fun (uJ:Bool) =>
  (bif uJ then some (.inr (2:Int)) else
  (xA zG z5).bind fun x_7=>(nC F zG x_7.Id).bind fun zA =>
  (bif decide (zA<z5) then some (.inr (4:Int)) else
  rec (zI (z5+(1:Int))))) else
  some (.inl ()))

def fZ (F:Nat) (zG:List (yQ)):Nat→Int→Option (Unit⊕Int)
  | 0,_=>none
  | n+1,z5=>aB F zG (fZ F zG n) z5

def n4 (F:Nat) (zG:List (yQ)) (zQ:List (y2)) (rec:Int→Option (Unit⊕Int)) (wQ:Int):Option (Unit⊕Int) :=
  (bif decide (wQ<(((zQ).length:Nat):Int)) then (xA zQ wQ).bind fun x_8=>(gQ F zG x_8).bind fun zF =>
  (bif (zF != (0:Int)) then some (.inr zF) else
  rec (zI (wQ+(1:Int)))) else
  some (.inl ()))

def f8 (F:Nat) (zG:List (yQ)) (zQ:List (y2)):Nat→Int→Option (Unit⊕Int)
  | 0,_=>none
  | n+1,wQ=>n4 F zG zQ (f8 F zG zQ n) wQ

def cJ (F:Nat) (zG:List (yQ)) (zQ:List (y2)):Option Int :=
  (bif ((((zG).length:Nat):Int)==(0:Int)) then some (8:Int) else
  (bif (decide ((((zG).length:Nat):Int)>(8:Int))||decide ((((zQ).length:Nat):Int)>(200:Int))) then some (7:Int) else
  (((xA zG (0:Int)).bind fun zK=>bif (zK.Id != (0:Int)) then (some true) else ((xA zG (0:Int)).bind fun yA=>some (yA.Ppm != (0:Int))))).bind fun (zM:Bool) =>
  (bif zM then some (10:Int) else
  (fZ F zG F (0:Int)).bind fun (zD:Unit⊕Int) =>
  (match zD with
  | (.inl z7) =>
  (f8 F zG zQ F (0:Int)).bind fun (zT:Unit⊕Int) =>
  (match zT with
  | (.inl qS) =>
  some (0:Int)
  | (.inr q8) =>
  some q8)
  | (.inr xG) =>
  some xG))))


def fY (F:Nat) (zG:List (yQ)) (vZ:Int):Option (Int×Bool) :=
  (nC F zG vZ).bind fun zA =>
  (((cJ F zG []).bind fun zF=>bif (zF != (0:Int)) then (some true) else (some (decide (zA<(0:Int)))))).bind fun (zM:Bool) =>
  (bif zM then some ((0:Int),false) else
  (xA zG zA).bind fun zK =>
  some (zK.Ppm,true))


def aY (F:Nat) (zH:z6) (z5:Int) (rec:Int→Option (Unit⊕Int)) (xY:Int):Option (Unit⊕Int) :=
  (bif decide (xY<z5) then (xA zH.Threads xY).bind fun yA=>(xA zH.Threads z5).bind fun y9 =>
  (bif (yA.Id==y9.Id) then some (.inr (4:Int)) else
  rec (zI (xY+(1:Int)))) else
  some (.inl ()))

def cC (F:Nat) (zH:z6) (z5:Int):Nat→Int→Option (Unit⊕Int)
  | 0,_=>none
  | n+1,xY=>aY F zH z5 (cC F zH z5 n) xY

def aX (F:Nat) (zH:z6) (rec:Int→Option (Unit⊕Int)) (z5:Int):Option (Unit⊕Int) :=
  (bif decide (z5<(((zH.Threads).length:Nat):Int)) then (xA zH.Threads z5).bind fun zK=>(iB F zK).bind fun zA =>
  (bif (zA != (0:Int)) then some (.inr zA) else
  (cC F zH z5 F (0:Int)).bind fun (zT:Unit⊕Int) =>
  (match zT with
  | (.inl z7) =>
  rec (zI (z5+(1:Int)))
  | (.inr xG) =>
  some (.inr xG))) else
  some (.inl ()))

def d7 (F:Nat) (zH:z6):Nat→Int→Option (Unit⊕Int)
  | 0,_=>none
  | n+1,z5=>aX F zH (d7 F zH n) z5

def aC (F:Nat) (zH:z6) (rec:Int→Option (Unit⊕Int)) (wQ:Int):Option (Unit⊕Int) :=
  (bif decide (wQ<(((zH.Threads).length:Nat):Int)) then (xA zH.Threads wQ).bind fun wW=>(fY F zH.Domains wW.Domain).bind fun zN =>
  (bif !zN.2 then some (.inr (5:Int)) else
  rec (zI (wQ+(1:Int)))) else
  some (.inl ()))

def cZ (F:Nat) (zH:z6):Nat→Int→Option (Unit⊕Int)
  | 0,_=>none
  | n+1,wQ=>aC F zH (cZ F zH n) wQ

def fW (F:Nat) (zH:z6):Option Int :=
  (bif ((((zH.Threads).length:Nat):Int)==(0:Int)) then some (8:Int) else
  (bif decide ((((zH.Threads).length:Nat):Int)>(64:Int)) then some (7:Int) else
  (d7 F zH F (0:Int)).bind fun (zD:Unit⊕Int) =>
  (match zD with
  | (.inl qS) =>
  (cJ F zH.Domains zH.Snaps).bind fun zF =>
  (bif (zF != (0:Int)) then some zF else
  (cZ F zH F (0:Int)).bind fun (yS:Unit⊕Int) =>
  (match yS with
  | (.inl q_5) =>
  some (0:Int)
  | (.inr q_6) =>
  some q_6))
  | (.inr q8) =>
  some q8)))


structure XL where
  B:List (Int)
  At:Int
  E:Int
  deriving DecidableEq,Inhabited
def fS (z4:Int):Option Int :=
  (bif decide (z4<(0:Int)) then some (v5 ((v5 ((2:Int) * (v5 (zI (0 - (zI (z4+(1:Int))))))))+(1:Int))) else
  some (v5 ((2:Int) * (v5 z4))))


def aL (F:Nat) (rec:Int→(List Int)→Option (Int×(List Int))) (xR:Int) (zL:List Int):Option (Int×(List Int)) :=
  (bif decide (xR≥(128:Int)) then (need (((zL).length+(([wF ((wF (u0 xR (128:Int)))+(128:Int))]:List Int)).length) * 1≤140737488355328)).bind fun _ =>
  rec (j1 .u64 xR (128:Int)) (zL++([wF ((wF (u0 xR (128:Int)))+(128:Int))]:List Int)) else
  some (xR,zL))

def aP (F:Nat):Nat→Int→(List Int)→Option (Int×(List Int))
  | 0,_,_=>none
  | n+1,xR,zL=>aL F (aP F n) xR zL

def bP (F:Nat) (zC:List (Int)) (z4:Int):Option (List (Int)) :=
  (need (((([]:List Int)).length+(zC).length) * 1≤140737488355328)).bind fun _ =>
  (fS z4).bind fun zA =>
  (aP F F zA ([]++zC)).bind fun (zD:(Int×(List Int))) =>
  (need (((zD.2).length+(([wF zD.1]:List Int)).length) * 1≤140737488355328)).bind fun _ =>
  some (zD.2++([wF zD.1]:List Int))


structure CR where
  Snaps:List (y2)
  Packets:List (yE)
  deriving DecidableEq,Inhabited
def oY (zG:yV) (zH:z6):Option Bool :=
  some (decide ((((zG.Data).length:Nat):Int)≤(4000:Int))&&(decide (zG.Size≤(20000:Int))&&(decide ((((zH.Threads).length:Nat):Int)≤(70:Int))&&(decide ((((zH.Domains).length:Nat):Int)≤(10:Int))&&decide ((((zH.Snaps).length:Nat):Int)≤(20:Int))))))


def gD (F:Nat) (xN:Int) (zC:List (Int)):Option (List (Int)) :=
  (need (((([xN]:List Int)).length+(zC).length) * 1≤140737488355328)).bind fun _ =>
  (bP F ([xN]:List Int) (((zC).length:Nat):Int)).bind fun zA =>
  (fX F (([xN]:List Int)++zC)).bind fun zF=>(bP F zA zF).bind fun zN =>
  (need (((zN).length+(zC).length) * 1≤140737488355328)).bind fun _ =>
  some (zN++zC)


def aT (F:Nat) (zH:z6) (xN:Int) (zC:List (Int)):Option Bool :=
  (((oY (⟨(0:Int),[],(0:Int),(0:Int),false⟩:yV) zH).bind fun zA=>bif !zA then (some true) else (some (decide ((((zC).length:Nat):Int)>(1000:Int)))))).bind fun (zM:Bool) =>
  (bif zM then (gI F).bind fun zF =>
  some zF else
  (((aV F zH).bind fun zN=>(fW F zH).bind fun zV=>bif (zN==zV) then ((kV F xN zC).bind fun zU=>(gD F xN zC).bind fun yB=>bif (zU==yB) then ((gI F).bind fun yY=>some yY) else (some false)) else (some false))).bind fun (uJ:Bool) =>
  some uJ)


abbrev zMb:List Int→AV:=fun l=>AV.sl false 1 (l.map (AV.int .u8))
abbrev zL0:yV:=(⟨(0:Int),[],(0:Int),(0:Int),false⟩:yV)
abbrev zL1:yH:=(⟨(⟨[],[],[]⟩:z6),[],none,(0:Int)⟩:yH)
abbrev zL2:xF:=(⟨(0:Int),(0:Int),([]:List Int),(0:Int),(0:Int),[]⟩:xF)
abbrev zL3:xQ:=(⟨(⟨(⟨[],[],[]⟩:z6),[],none,(0:Int)⟩:yH),(0:Int)⟩:xQ)
abbrev zL4:wC:=(⟨([]:List Int),false,false,false,false,(0:Int),(0:Int),(0:Int),(0:Int)⟩:wC)
abbrev zL5:wC:=(⟨([101,110,100]:List Int),false,false,false,false,(0:Int),(0:Int),(0:Int),(0:Int)⟩:wC)
abbrev zL6:wC:=(⟨([114,117,110]:List Int),false,true,false,false,(0:Int),(63:Int),(0:Int),(0:Int)⟩:wC)
abbrev zL7:wC:=(⟨([109,97,114,107]:List Int),true,false,false,false,(0:Int),(0:Int),(0:Int),(0:Int)⟩:wC)
abbrev zL8:wC:=(⟨([98,101,103,105,110]:List Int),true,false,false,false,(0:Int),(0:Int),(0:Int),(0:Int)⟩:wC)
abbrev zL9:wC:=(⟨([114,101,99,118]:List Int),false,true,false,false,(0:Int),(1000000000000000:Int),(0:Int),(0:Int)⟩:wC)
abbrev oM:wC:=(⟨([115,116,111,112]:List Int),false,true,true,false,(0:Int),(3:Int),(0:Int),(1000000000000000:Int)⟩:wC)
abbrev rC:wC:=(⟨([119,97,107,101]:List Int),false,true,false,false,(0:Int),(1000000000000000:Int),(0:Int),(0:Int)⟩:wC)
abbrev oK:wC:=(⟨([115,101,110,100]:List Int),false,true,false,false,(0:Int),(1000000000000000:Int),(0:Int),(0:Int)⟩:wC)
abbrev oC:wC:=(⟨([102,114,101,101]:List Int),false,true,false,false,(0:Int),(1000000000000000:Int),(0:Int),(0:Int)⟩:wC)
abbrev lZ:wC:=(⟨([115,97,109,112,108,101]:List Int),false,true,false,true,(1:Int),(1000000000000:Int),(0:Int),(0:Int)⟩:wC)
abbrev rY:wC:=(⟨([97,108,108,111,99]:List Int),false,true,true,true,(0:Int),(1000000000000000:Int),(1:Int),(1000000000000:Int)⟩:wC)
abbrev o6:wC:=(⟨([99,111,117,110,116]:List Int),true,true,false,false,(-1000000000000000:Int),(1000000000000000:Int),(0:Int),(0:Int)⟩:wC)
abbrev kU:z9:=Vb 64 [.nilsl,.nilsl,.own 1 0,.own 2 0,.fm true [],Ii 0,Ii 0]
abbrev pQ:z9:=Vb 112 [Ii 0,Ii 0,.str ([]:List Int),Ii 0,Ii 0,.nilsl]
abbrev uX:z9:=Vb 36 [Ii 0,.nilsl,Ii 0,Ii 0,.bool false]
abbrev q7:z9:=Vb 28 [.own 1 0,.own 2 0,.own 3 0]
abbrev tK:z9:=Vb 56 [Ii 0,Ii 0,Ii 0,.own 1 0]
abbrev zB0 (zG:yV):Bool:=(decide (zG.Size<(1:Int))||(decide (zG.Size>(1048576:Int))||(decide ((lN (zG.Data))>zG.Size)||(decide (zG.Durable<(0:Int))||(decide (zG.Durable>(lN (zG.Data)))||(decide (zG.Left<(-1:Int))||decide (zG.Left>(1048576:Int))))))))
abbrev zB1 (zG:yV) (zH:z6):Bool:=(decide ((lN (zG.Data))≤(4000:Int))&&(decide (zG.Size≤(20000:Int))&&(decide ((lN (zH.Threads))≤(70:Int))&&(decide ((lN (zH.Domains))≤(10:Int))&&decide ((lN (zH.Snaps))≤(20:Int))))))
end Go.Ab
