/- Printed: the typed Lean functions of the Go functions, or the proofs that the Go functions meet them. No conditions but those that the theorems name. -/
import Derived.Test.YtoeengmnmhhpgaaA32
namespace Go.Ab
open Go
set_option linter.unusedVariables false
structure xJ where
  Id:Int
  Name:List Int
  Domain:Int
  deriving DecidableEq,Inhabited
def qS (s:xJ):List AV:=[.int .i64 s.Id,.str s.Name,.int .i64 s.Domain]
def z8 (s:xJ):AV:=.agg (qS s)
structure y7 where
  Id:Int
  Ppm:Int
  deriving DecidableEq,Inhabited
def oZ (s:y7):List AV:=[.int .i64 s.Id,.int .i64 s.Ppm]
def z6 (s:y7):AV:=.agg (oZ s)
structure CV where
  Lo:Int
  Hi:Int
  deriving DecidableEq,Inhabited
structure yP where
  A:Int
  AtA:Int
  B:Int
  AtB:CV
  deriving DecidableEq,Inhabited
def pR (s:yP):List AV:=[.int .i64 s.A,.int .i64 s.AtA,.int .i64 s.B,.int .i64 s.AtB.Lo,.int .i64 s.AtB.Hi]
def z4 (s:yP):AV:=.agg (pR s)
structure zU where
  Threads:List (xJ)
  Domains:List (y7)
  Snaps:List (yP)
  deriving DecidableEq,Inhabited
def vD (s:zU):List AV:=[.sl false 3 (List.map z8 s.Threads),.sl false 2 (List.map z6 s.Domains),.sl false 5 (List.map z4 s.Snaps)]
def pY (s:zU):AV:=.agg (vD s)
structure xA where
  At:Int
  Kind:Int
  Name:List Int
  N:Int
  M:Int
  Stack:List (List Int)
  deriving DecidableEq,Inhabited
def jK (s:xA):List AV:=[.int .i64 s.At,.int .i64 s.Kind,.str s.Name,.int .i64 s.N,.int .i64 s.M,.sl false 1 (List.map AV.str s.Stack)]
def wF (s:xA):AV:=.agg (jK s)
structure zQ where
  Thread:Int
  Serial:Int
  Lost:Int
  Events:List (xA)
  deriving DecidableEq,Inhabited
def wH (s:zQ):List AV:=[.int .i64 s.Thread,.int .i64 s.Serial,.int .i64 s.Lost,.sl false 6 (List.map wF s.Events)]
def z0 (s:zQ):AV:=.agg (wH s)
structure tH where
  Snaps:List (yP)
  Packets:List (zQ)
  deriving DecidableEq,Inhabited
def M4 (s:tH):List AV:=[.sl false 5 (List.map z4 s.Snaps),.sl false 4 (List.map z0 s.Packets)]
def tO (s:tH):AV:=.agg (M4 s)
structure z9 where
  Size:Int
  Data:List (Int)
  Durable:Int
  Left:Int
  Down:Bool
  deriving DecidableEq,Inhabited
def xI (s:z9):List AV:=[.int .i64 s.Size,.sl false 1 (List.map (AV.int .u8) s.Data),.int .i64 s.Durable,.int .i64 s.Left,.bool s.Down]
def u3 (s:z9):AV:=.agg (xI s)
def AA (zN:z9) (zM:zU):Option Bool :=
  some (decide ((((zN.Data).length:Nat):Int)≤(4000:Int))&&(decide (zN.Size≤(20000:Int))&&(decide ((((zM.Threads).length:Nat):Int)≤(70:Int))&&(decide ((((zM.Domains).length:Nat):Int)≤(10:Int))&&decide ((((zM.Snaps).length:Nat):Int)≤(20:Int))))))
def DL (F:Nat) (zH:tH) (rec:Int→Option (Unit⊕Bool)) (y8:Int):Option (Unit⊕Bool) :=
  (bif decide (y8<(((zH.Packets).length:Nat):Int)) then (xG zH.Packets y8).bind fun yA =>
  (bif decide ((((yA.Events).length:Nat):Int)>(60:Int)) then some (.inr false) else
  rec (zI (y8+(1:Int)))) else
  some (.inl ()))
def CB (F:Nat) (zH:tH):Nat→Int→Option (Unit⊕Bool)
  | 0,_=>none
  | n+1,y8=>DL F zH (CB F zH n) y8
def AI (F:Nat) (zO:List (tH)) (rec:Int→Option (Unit⊕Bool)) (zG:Int):Option (Unit⊕Bool) :=
  (bif decide (zG<(((zO).length:Nat):Int)) then (xG zO zG).bind fun zH =>
  (bif (decide ((((zH.Snaps).length:Nat):Int)>(10:Int))||decide ((((zH.Packets).length:Nat):Int)>(8:Int))) then some (.inr false) else
  (CB F zH F (0:Int)).bind fun (zR:Unit⊕Bool) =>
  (match zR with
  | (.inl yD) =>
  rec (zI (zG+(1:Int)))
  | (.inr xW) =>
  some (.inr xW))) else
  some (.inl ()))
def CR (F:Nat) (zO:List (tH)):Nat→Int→Option (Unit⊕Bool)
  | 0,_=>none
  | n+1,zG=>AI F zO (CR F zO n) zG
def CT (F:Nat) (zO:List (tH)):Option Bool :=
  (CR F zO F (0:Int)).bind fun (zC:Unit⊕Bool) =>
  (match zC with
  | (.inl kK) =>
  some (decide ((((zO).length:Nat):Int)≤(6:Int)))
  | (.inr nZ) =>
  some nZ)
def C5 (x9:Int):Option (z9×Int) :=
  (bif (decide (x9<(1:Int))||decide (x9>(1048576:Int))) then some ((⟨(0:Int),[],(0:Int),(0:Int),false⟩:z9),(2:Int)) else
  some ((⟨x9,[],(0:Int),(-1:Int),false⟩:z9),(0:Int)))
def HX:Option zU :=
  some (⟨([(⟨(1:Int),([116,49]:List Int),(0:Int)⟩:xJ)]:List xJ),([(⟨(0:Int),(0:Int)⟩:y7)]:List y7),[]⟩:zU)
def cJ (zN:z9):Option Int :=
  (bif (decide (zN.Size<(1:Int))||(decide (zN.Size>(1048576:Int))||(decide ((((zN.Data).length:Nat):Int)>zN.Size)||(decide (zN.Durable<(0:Int))||(decide (zN.Durable>(((zN.Data).length:Nat):Int))||(decide (zN.Left<(-1:Int))||decide (zN.Left>(1048576:Int)))))))) then some (2:Int) else
  some (0:Int))
def EB (zF:List Int) (zB:Int):Option Int :=
  some (jP zF zB)
def aX (zF:List Int) (zB:Int):Option Int :=
  (EB zF zB).bind fun zA =>
  some zA
def B8 (zB:Int):Option Bool :=
  ((bif decide (zB≥(97:Int)) then (bif decide (zB≤(122:Int)) then (some true) else (bif decide (zB≥(65:Int)) then (bif decide (zB≤(90:Int)) then (some true) else (bif decide (zB≥(48:Int)) then (bif decide (zB≤(57:Int)) then (some true) else ((aX ([95,46,58,47,60,62,36,42,126,45]:List Int) zB).bind fun zA=>some (decide (zA≥(0:Int))))) else ((aX ([95,46,58,47,60,62,36,42,126,45]:List Int) zB).bind fun zA=>some (decide (zA≥(0:Int)))))) else (bif decide (zB≥(48:Int)) then (bif decide (zB≤(57:Int)) then (some true) else ((aX ([95,46,58,47,60,62,36,42,126,45]:List Int) zB).bind fun zA=>some (decide (zA≥(0:Int))))) else ((aX ([95,46,58,47,60,62,36,42,126,45]:List Int) zB).bind fun zA=>some (decide (zA≥(0:Int))))))) else (bif decide (zB≥(65:Int)) then (bif decide (zB≤(90:Int)) then (some true) else (bif decide (zB≥(48:Int)) then (bif decide (zB≤(57:Int)) then (some true) else ((aX ([95,46,58,47,60,62,36,42,126,45]:List Int) zB).bind fun zA=>some (decide (zA≥(0:Int))))) else ((aX ([95,46,58,47,60,62,36,42,126,45]:List Int) zB).bind fun zA=>some (decide (zA≥(0:Int)))))) else (bif decide (zB≥(48:Int)) then (bif decide (zB≤(57:Int)) then (some true) else ((aX ([95,46,58,47,60,62,36,42,126,45]:List Int) zB).bind fun zA=>some (decide (zA≥(0:Int))))) else ((aX ([95,46,58,47,60,62,36,42,126,45]:List Int) zB).bind fun zA=>some (decide (zA≥(0:Int)))))))).bind fun (zK:Bool) =>
  some zK
def DR (F:Nat) (zF:List Int) (rec:Int→Option (Unit⊕Int)) (zG:Int):Option (Unit⊕Int) :=
  (bif decide (zG<(((zF).length:Nat):Int)) then (xG zF zG).bind fun zB=>(B8 zB).bind fun zA =>
  (bif !zA then some (.inr (3:Int)) else
  rec (zI (zG+(1:Int)))) else
  some (.inl ()))
def DW (F:Nat) (zF:List Int):Nat→Int→Option (Unit⊕Int)
  | 0,_=>none
  | n+1,zG=>DR F zF (DW F zF n) zG
def cT (F:Nat) (zF:List Int):Option Int :=
  (bif ((zF==([]:List Int))||decide ((((zF).length:Nat):Int)>(40:Int))) then some (3:Int) else
  (DW F zF F (0:Int)).bind fun (zC:Unit⊕Int) =>
  (match zC with
  | (.inl yD) =>
  some (0:Int)
  | (.inr xW) =>
  some xW))
def A3 (F:Nat) (jH:xJ):Option Int :=
  (bif (decide (jH.Id<(0:Int))||(decide (jH.Id>(1000000000000000:Int))||(decide (jH.Domain<(0:Int))||decide (jH.Domain≥(8:Int))))) then some (2:Int) else
  (cT F jH.Name).bind fun zA =>
  some zA)
def EJ (zH:y7) (zY:Int):Option Bool :=
  some (zH.Id==zY)
def gO (F:Nat) (zF:List (y7)) (zB:Int) (rec:Int→Option (Unit⊕Int)) (zG:Int):Option (Unit⊕Int) :=
  (bif decide (zG<(((zF).length:Nat):Int)) then (xG zF zG).bind fun zH=>(EJ zH zB).bind fun zA =>
  (bif zA then some (.inr zG) else
  rec (zI (zG+(1:Int)))) else
  some (.inl ()))
def B6 (F:Nat) (zF:List (y7)) (zB:Int):Nat→Int→Option (Unit⊕Int)
  | 0,_=>none
  | n+1,zG=>gO F zF zB (B6 F zF zB n) zG
def C3 (F:Nat) (zF:List (y7)) (zB:Int):Option Int :=
  (B6 F zF zB F (0:Int)).bind fun (zC:Unit⊕Int) =>
  (match zC with
  | (.inl yD) =>
  some (-1:Int)
  | (.inr xW) =>
  some xW)
def gH (F:Nat) (zN:List (y7)) (id_1:Int):Option Int :=
  (C3 F zN id_1).bind fun zA =>
  some zA
def i9 (F:Nat) (zN:List (y7)) (rec:Int→Option (Unit⊕Int)) (zG:Int):Option (Unit⊕Int) :=
  (bif decide (zG<(((zN).length:Nat):Int)) then (xG zN zG).bind fun zH =>
  (bif (decide (zH.Id<(0:Int))||(decide (zH.Id≥(8:Int))||(decide (zH.Ppm<(0:Int))||decide (zH.Ppm>(10000:Int))))) then some (.inr (2:Int)) else
  (need ((0:Int)≤zG∧zG≤(((zN).length:Nat):Int))).bind fun _=>(gH F (sub zN (0:Int) zG) zH.Id).bind fun zA =>
  (bif decide (zA≥(0:Int)) then some (.inr (4:Int)) else
  rec (zI (zG+(1:Int))))) else
  some (.inl ()))
def AC (F:Nat) (zN:List (y7)):Nat→Int→Option (Unit⊕Int)
  | 0,_=>none
  | n+1,zG=>i9 F zN (AC F zN n) zG
def BS (F:Nat) (zN:List (y7)):Option Int :=
  (AC F zN F (0:Int)).bind fun (zC:Unit⊕Int) =>
  (match zC with
  | (.inl yD) =>
  some (0:Int)
  | (.inr xW) =>
  some xW)
def oU (yF:Int):Option Bool :=
  some (decide (yF≥(0:Int))&&decide (yF≤(1000000000000:Int)))
def D4 (F:Nat) (zN:List (y7)) (zH:yP):Option Int :=
  (gH F zN zH.A).bind fun zA =>
  (((bif decide (zA<(0:Int)) then some (decide (zA<(0:Int))) else
  (gH F zN zH.B).bind fun zJ =>
  some (decide (zJ<(0:Int)))):Option Bool)).bind fun (zC:Bool) =>
  (bif zC then some (5:Int) else
  (bif (zH.A==zH.B) then some (1:Int) else
  (oU zH.AtA).bind fun zP =>
  (bif !zP then some (2:Int) else
  (oU zH.AtB.Lo).bind fun z5 =>
  (bif !z5 then some (2:Int) else
  (oU zH.AtB.Hi).bind fun zW =>
  (bif !zW then some (2:Int) else
  (bif decide (zH.AtB.Lo>zH.AtB.Hi) then some (2:Int) else
  some (0:Int)))))))
def gR (F:Nat) (zN:List (y7)) (zO:List (yP)) (rec:Int→Option (Unit⊕Int)) (zG:Int):Option (Unit⊕Int) :=
  (bif decide (zG<(((zO).length:Nat):Int)) then (xG zO zG).bind fun yA =>
  (D4 F zN yA).bind fun zJ =>
  (bif (zJ != (0:Int)) then some (.inr zJ) else
  rec (zI (zG+(1:Int)))) else
  some (.inl ()))
def BH (F:Nat) (zN:List (y7)) (zO:List (yP)):Nat→Int→Option (Unit⊕Int)
  | 0,_=>none
  | n+1,zG=>gR F zN zO (BH F zN zO n) zG
def lK (F:Nat) (zN:List (y7)) (zO:List (yP)):Option Int :=
  (bif ((((zN).length:Nat):Int)==(0:Int)) then some (8:Int) else
  (bif (decide ((((zN).length:Nat):Int)>(8:Int))||decide ((((zO).length:Nat):Int)>(200:Int))) then some (7:Int) else
  (xG zN (0:Int)).bind fun zH =>
  (bif (!(decide (zH=(⟨(0:Int),(0:Int)⟩:y7)))) then some (10:Int) else
  (BS F zN).bind fun zA =>
  (bif (zA != (0:Int)) then some zA else
  (BH F zN zO F (0:Int)).bind fun (zC:Unit⊕Int) =>
  (match zC with
  | (.inl yD) =>
  some (0:Int)
  | (.inr xW) =>
  some xW)))))
def H4 (zN:y7) (zY:xJ):Option Bool :=
  some (zN.Id==zY.Domain)
def lD (F:Nat) (zF:List (y7)) (zB:xJ) (rec:Int→Option (Unit⊕Int)) (zG:Int):Option (Unit⊕Int) :=
  (bif decide (zG<(((zF).length:Nat):Int)) then (xG zF zG).bind fun zH=>(H4 zH zB).bind fun zA =>
  (bif zA then some (.inr zG) else
  rec (zI (zG+(1:Int)))) else
  some (.inl ()))
def B0 (F:Nat) (zF:List (y7)) (zB:xJ):Nat→Int→Option (Unit⊕Int)
  | 0,_=>none
  | n+1,zG=>lD F zF zB (B0 F zF zB n) zG
def CH (F:Nat) (zF:List (y7)) (zB:xJ):Option Int :=
  (B0 F zF zB F (0:Int)).bind fun (zC:Unit⊕Int) =>
  (match zC with
  | (.inl yD) =>
  some (-1:Int)
  | (.inr xW) =>
  some xW)
def HR (F:Nat) (zF:List (y7)) (zB:xJ):Option Bool :=
  (CH F zF zB).bind fun zA =>
  some (decide (zA≥(0:Int)))
def C0 (F:Nat) (zM:zU) (rec:Int→(List (Int×Bool))→Option (Unit⊕Int)) (zG:Int) (zL:List (Int×Bool)):Option (Unit⊕Int) :=
  (bif decide (zG<(((zM.Threads).length:Nat):Int)) then (xG zM.Threads zG).bind fun zH =>
  (A3 F zH).bind fun zA =>
  (bif (zA != (0:Int)) then some (.inr zA) else
  (bif ((vW zL zH.Id).getD false) then some (.inr (4:Int)) else
  (need ((zL).length<140737488355328)).bind fun _ =>
  rec (zI (zG+(1:Int))) (x5 zL zH.Id true))) else
  some (.inl ()))
def rL (F:Nat) (zM:zU):Nat→Int→(List (Int×Bool))→Option (Unit⊕Int)
  | 0,_,_=>none
  | n+1,zG,zL=>C0 F zM (rL F zM n) zG zL
def gN (F:Nat) (zM:zU) (rec:Int→Option (Unit⊕Int)) (y8:Int):Option (Unit⊕Int) :=
  (bif decide (y8<(((zM.Threads).length:Nat):Int)) then (xG zM.Threads y8).bind fun yA =>
  (HR F zM.Domains yA).bind fun zP =>
  (bif !zP then some (.inr (5:Int)) else
  rec (zI (y8+(1:Int)))) else
  some (.inl ()))
def m9 (F:Nat) (zM:zU):Nat→Int→Option (Unit⊕Int)
  | 0,_=>none
  | n+1,y8=>gN F zM (m9 F zM n) y8
def iB (F:Nat) (zM:zU):Option Int :=
  (bif ((((zM.Threads).length:Nat):Int)==(0:Int)) then some (8:Int) else
  (bif decide ((((zM.Threads).length:Nat):Int)>(64:Int)) then some (7:Int) else
  (rL F zM F (0:Int) []).bind fun (zC:Unit⊕Int) =>
  (match zC with
  | (.inl yD) =>
  (lK F zM.Domains zM.Snaps).bind fun zJ =>
  (bif (zJ != (0:Int)) then some zJ else
  (m9 F zM F (0:Int)).bind fun (zR:Unit⊕Int) =>
  (match zR with
  | (.inl kK) =>
  some (0:Int)
  | (.inr nZ) =>
  some nZ))
  | (.inr xW) =>
  some xW)))
def B7 (yF:Int):Option Int :=
  some (tW .u64 (pP .u64 (jO yF) (1:Int)) (jO (qI .i64 yF (63:Int))))
def iE (F:Nat) (rec:Int→Int→(List Int)→Option (Int×(List Int))) (x9:Int) (vE:Int) (zL:List Int):Option (Int×(List Int)) :=
  (need ((0:Int)≤x9∧x9<((10:Nat):Int))).bind fun _=>((zL)[(x9).toNat]?).bind fun zH =>
  (bif decide (vE<(128:Int)) then some (zI (x9+(1:Int)),(zL).set ((x9).toNat) (pA (uG .u64 vE (127:Int)))) else
  (need ((0:Int)≤(zI ((zI (x9+(1:Int))) - (1:Int)))∧(zI ((zI (x9+(1:Int))) - (1:Int)))<((10:Nat):Int))).bind fun _=>(((zL).set ((x9).toNat) (pA (uG .u64 vE (127:Int))))[(zI ((zI (x9+(1:Int))) - (1:Int))).toNat]?).bind fun yA=>(need ((0:Int)≤(zI ((zI (x9+(1:Int))) - (1:Int)))∧(zI ((zI (x9+(1:Int))) - (1:Int)))<((10:Nat):Int))).bind fun _=>(((zL).set ((x9).toNat) (pA (uG .u64 vE (127:Int))))[(zI ((zI (x9+(1:Int))) - (1:Int))).toNat]?).bind fun xR =>
  rec (zI (x9+(1:Int))) (qI .u64 vE (7:Int)) (((zL).set ((x9).toNat) (pA (uG .u64 vE (127:Int)))).set ((zI ((zI (x9+(1:Int))) - (1:Int))).toNat) (ior .u8 yA (128:Int))))
def dH (F:Nat):Nat→Int→Int→(List Int)→Option (Int×(List Int))
  | 0,_,_,_=>none
  | n+1,x9,vE,zL=>iE F (dH F n) x9 vE zL
def u0 (F:Nat) (zE:List (Int)) (yF:Int):Option (List (Int)) :=
  (B7 yF).bind fun zA =>
  (dH F F (0:Int) zA (List.replicate 10 (0:Int))).bind fun (zC:(Int×(List Int))) =>
  (need ((0:Int)≤zC.1∧zC.1≤((10:Nat):Int)∧10≤(zC.2).length)).bind fun _=>(need (0≤((zC.1).toNat)∧((zC.1).toNat)≤(zC.2).length)).bind fun _=>(need (((sub zE (0:Int) (((zE).length:Nat):Int)).length+(((zC.2).take ((zC.1).toNat)).drop 0).length) * 1≤140737488355328)).bind fun _=>(need (0<(((zC.2).take ((zC.1).toNat)).drop 0).length∨(sub zE (0:Int) (((zE).length:Nat):Int)).length=0)).bind fun _ =>
  some ((sub zE (0:Int) (((zE).length:Nat):Int))++(((zC.2).take ((zC.1).toNat)).drop 0))
def oG (F:Nat) (zE:List (Int)) (zF:List Int):Option (List (Int)) :=
  (u0 F zE (((zF).length:Nat):Int)).bind fun zA =>
  (need ((0:Int)≤(zI ((((zA).length:Nat):Int)+(((zF).length:Nat):Int)))∧((zI ((((zA).length:Nat):Int)+(((zF).length:Nat):Int))).toNat) * 1≤281474976710656)).bind fun _ =>
  (need (0≤((zI ((((zA).length:Nat):Int)+(((zF).length:Nat):Int))).toNat)∧((zI ((((zA).length:Nat):Int)+(((zF).length:Nat):Int))).toNat)≤((List.replicate ((zI ((((zA).length:Nat):Int)+(((zF).length:Nat):Int))).toNat) (0:Int))).length)).bind fun _ =>
  (need ((((zA).length:Nat):Int)≤(((zI ((((zA).length:Nat):Int)+(((zF).length:Nat):Int))).toNat:Nat):Int))).bind fun _=>(need (((zA).length)≤((zI ((((zA).length:Nat):Int)+(((zF).length:Nat):Int))).toNat)∧((zI ((((zA).length:Nat):Int)+(((zF).length:Nat):Int))).toNat)≤((cpy (List.replicate ((zI ((((zA).length:Nat):Int)+(((zF).length:Nat):Int))).toNat) (0:Int)) 0 ((zI ((((zA).length:Nat):Int)+(((zF).length:Nat):Int))).toNat) zA)).length)).bind fun _ =>
  some (cpy (cpy (List.replicate ((zI ((((zA).length:Nat):Int)+(((zF).length:Nat):Int))).toNat) (0:Int)) 0 ((zI ((((zA).length:Nat):Int)+(((zF).length:Nat):Int))).toNat) zA) ((zA).length) ((zI ((((zA).length:Nat):Int)+(((zF).length:Nat):Int))).toNat) zF)
def lI (F:Nat) (zF:yP) (rec:(List Int)→Int→Option (List Int)) (b7:List Int) (zG:Int):Option (List Int) :=
  (bif decide (zG<((5:Nat):Int)) then (xG ([zF.A,zF.AtA,zF.B,zF.AtB.Lo,zF.AtB.Hi]:List Int) zG).bind fun zH =>
  (u0 F b7 zH).bind fun zA =>
  rec zA (zI (zG+(1:Int))) else
  some b7)
def gA (F:Nat) (zF:yP):Nat→(List Int)→Int→Option (List Int)
  | 0,_,_=>none
  | n+1,b7,zG=>lI F zF (gA F zF n) b7 zG
def iO (F:Nat) (zE:List (Int)) (zF:yP):Option (List (Int)) :=
  (gA F zF F zE (0:Int)).bind fun (zC:(List Int)) =>
  some zC
def CS (F:Nat) (zM:zU) (rec:Int→(List Int)→Option (List Int)) (zG:Int) (zL:List Int):Option (List Int) :=
  (bif decide (zG<(((zM.Threads).length:Nat):Int)) then (xG zM.Threads zG).bind fun zH =>
  (u0 F zL zH.Id).bind fun zJ=>(oG F zJ zH.Name).bind fun zP=>(u0 F zP zH.Domain).bind fun z5 =>
  rec (zI (zG+(1:Int))) z5 else
  some zL)
def lA (F:Nat) (zM:zU):Nat→Int→(List Int)→Option (List Int)
  | 0,_,_=>none
  | n+1,zG,zL=>CS F zM (lA F zM n) zG zL
def AQ (F:Nat) (zM:zU) (rec:Int→(List Int)→Option (List Int)) (y8:Int) (zZ:List Int):Option (List Int) :=
  (bif decide (y8<(((zM.Domains).length:Nat):Int)) then (xG zM.Domains y8).bind fun yA =>
  (u0 F zZ yA.Id).bind fun yV=>(u0 F yV yA.Ppm).bind fun xB =>
  rec (zI (y8+(1:Int))) xB else
  some zZ)
def oP (F:Nat) (zM:zU):Nat→Int→(List Int)→Option (List Int)
  | 0,_,_=>none
  | n+1,y8,zZ=>AQ F zM (oP F zM n) y8 zZ
def AP (F:Nat) (zM:zU) (rec:(List Int)→Int→Option (List Int)) (zE:List Int) (wS:Int):Option (List Int) :=
  (bif decide (wS<(((zM.Snaps).length:Nat):Int)) then (xG zM.Snaps wS).bind fun xR =>
  (iO F zE xR).bind fun yL =>
  rec yL (zI (wS+(1:Int))) else
  some zE)
def oM (F:Nat) (zM:zU):Nat→(List Int)→Int→Option (List Int)
  | 0,_,_=>none
  | n+1,zE,wS=>AP F zM (oM F zM n) zE wS
def rO (F:Nat) (zM:zU):Option (List (Int)) :=
  (u0 F [] (((zM.Threads).length:Nat):Int)).bind fun zA =>
  (lA F zM F (0:Int) zA).bind fun (zC:(List Int)) =>
  (u0 F zC (((zM.Domains).length:Nat):Int)).bind fun zW =>
  (oP F zM F (0:Int) zW).bind fun (zR:(List Int)) =>
  (u0 F zR (((zM.Snaps).length:Nat):Int)).bind fun yX =>
  (oM F zM F yX (0:Int)).bind fun (y5:(List Int)) =>
  some y5
def g8 (F:Nat) (rec:Int→Int→Option Int) (xR:Int) (y8:Int):Option Int :=
  (bif decide (y8<(8:Int)) then (bif ((uG .u32 xR (1:Int))==(1:Int)) then rec (tW .u32 (qI .u32 xR (1:Int)) (3988292384:Int)) (zI (y8+(1:Int))) else
  rec (qI .u32 xR (1:Int)) (zI (y8+(1:Int)))) else
  some xR)
def d7 (F:Nat):Nat→Int→Int→Option Int
  | 0,_,_=>none
  | n+1,xR,y8=>g8 F (d7 F n) xR y8
def A5 (F:Nat) (zE:List (Int)) (rec:Int→Int→Option Int) (zH:Int) (zG:Int):Option Int :=
  (bif decide (zG<(((zE).length:Nat):Int)) then (xG zE zG).bind fun yA =>
  (d7 F F (tW .u32 zH (AO yA)) (0:Int)).bind fun (zR:Int) =>
  rec zR (zI (zG+(1:Int))) else
  some zH)
def lH (F:Nat) (zE:List (Int)):Nat→Int→Int→Option Int
  | 0,_,_=>none
  | n+1,zH,zG=>A5 F zE (lH F zE n) zH zG
def D3 (F:Nat) (zE:List (Int)):Option Int :=
  (lH F zE F (4294967295:Int) (0:Int)).bind fun (zC:Int) =>
  some (zI (tW .u32 (4294967295:Int) zC))
def rM (F:Nat) (kE:Int) (zE:List (Int)):Option Int :=
  (need (((([kE]:List Int)).length+(zE).length) * 1≤140737488355328)).bind fun _=>(D3 F (([kE]:List Int)++zE)).bind fun zA =>
  some zA
def dB (F:Nat) (kE:Int) (zE:List (Int)):Option (List (Int)) :=
  (u0 F ([kE]:List Int) (((zE).length:Nat):Int)).bind fun zA =>
  (rM F kE zE).bind fun zJ=>(u0 F zA zJ).bind fun zP=>(need (((zP).length+(zE).length) * 1≤140737488355328)).bind fun _ =>
  some (zP++zE)
def CF (zF:List (Int)):Option (List (Int)) :=
  (need (((([]:List Int)).length+(zF).length) * 1≤140737488355328)).bind fun _ =>
  some ([]++zF)
def bM (zN:z9):Option (z9×Int) :=
  (cJ zN).bind fun zA =>
  (bif (zA != (0:Int)) then some ((⟨(0:Int),[],(0:Int),(0:Int),false⟩:z9),zA) else
  (bif zN.Down then some (zN,(19:Int)) else
  (CF zN.Data).bind fun zJ =>
  some ((⟨zN.Size,zJ,zN.Durable,zN.Left,zN.Down⟩:z9),(0:Int))))
def C7 (zN:z9) (zE:List (Int)):Option (z9×Int) :=
  (bM zN).bind fun zA =>
  (bif (zA.2 != (0:Int)) then some (zA.1,zA.2) else
  (bif decide ((zI ((((zA.1.Data).length:Nat):Int)+(((zE).length:Nat):Int)))>zA.1.Size) then some ((⟨(0:Int),[],(0:Int),(0:Int),false⟩:z9),(6:Int)) else
  (bif (decide (zA.1.Left≥(0:Int))&&decide (zA.1.Left<(((zE).length:Nat):Int))) then (need ((0:Int)≤zA.1.Left∧zA.1.Left≤(((zE).length:Nat):Int))).bind fun _=>(need (((zA.1.Data).length+(sub zE (0:Int) zA.1.Left).length) * 1≤140737488355328)).bind fun _ =>
  some ((⟨zA.1.Size,(zA.1.Data++(sub zE (0:Int) zA.1.Left)),zA.1.Durable,(0:Int),true⟩:z9),(19:Int)) else
  (need (((zA.1.Data).length+(zE).length) * 1≤140737488355328)).bind fun _ =>
  (bif decide (zA.1.Left≥(0:Int)) then some ((⟨zA.1.Size,(zA.1.Data++zE),zA.1.Durable,zI (zA.1.Left - (((zE).length:Nat):Int)),zA.1.Down⟩:z9),(0:Int)) else
  some ((⟨zA.1.Size,(zA.1.Data++zE),zA.1.Durable,zA.1.Left,zA.1.Down⟩:z9),(0:Int))))))
def mL (zN:z9):Option (z9×Int) :=
  (bM zN).bind fun zA =>
  (bif (zA.2 != (0:Int)) then some (zA.1,zA.2) else
  (bif (zA.1.Left==(0:Int)) then some ((⟨zA.1.Size,zA.1.Data,zA.1.Durable,zA.1.Left,true⟩:z9),(19:Int)) else
  some ((⟨zA.1.Size,zA.1.Data,(((zA.1.Data).length:Nat):Int),zA.1.Left,zA.1.Down⟩:z9),(0:Int))))
def BP (F:Nat) (qT:List (List (Int))) (rec:Int→Int→(List Int)→Int→Int→Bool→Option ((Int×(List Int)×Int×Int×Bool)⊕(z9×Int))) (zG:Int) (zB:Int) (yK:List Int) (yG:Int) (yC:Int) (yS:Bool):Option ((Int×(List Int)×Int×Int×Bool)⊕(z9×Int)) :=
  (bif decide (zG<(((qT).length:Nat):Int)) then (xG qT zG).bind fun zH =>
  (C7 (⟨zB,yK,yG,yC,yS⟩:z9) zH).bind fun zA =>
  (bif (zA.2 != (0:Int)) then some (.inr (zA.1,zA.2)) else
  rec (zI (zG+(1:Int))) zA.1.Size zA.1.Data zA.1.Durable zA.1.Left zA.1.Down) else
  some (.inl (zB,yK,yG,yC,yS)))
def BD (F:Nat) (qT:List (List (Int))):Nat→Int→Int→(List Int)→Int→Int→Bool→Option ((Int×(List Int)×Int×Int×Bool)⊕(z9×Int))
  | 0,_,_,_,_,_,_=>none
  | n+1,zG,zB,yK,yG,yC,yS=>BP F qT (BD F qT n) zG zB yK yG yC yS
def mK (F:Nat) (zN:z9) (qT:List (List (Int))):Option (z9×Int) :=
  (BD F qT F (0:Int) zN.Size zN.Data zN.Durable zN.Left zN.Down).bind fun (zC:(Int×(List Int)×Int×Int×Bool)⊕(z9×Int)) =>
  (match zC with
  | (.inl yD) =>
  (mL (⟨yD.1,yD.2.1,yD.2.2.1,yD.2.2.2.1,yD.2.2.2.2⟩:z9)).bind fun zJ =>
  some (zJ.1,zJ.2)
  | (.inr xW) =>
  some xW)
def r9 (F:Nat) (zN:z9) (zM:zU):Option (z9×Int) :=
  (cJ zN).bind fun zA =>
  (bif (zA != (0:Int)) then some ((⟨(0:Int),[],(0:Int),(0:Int),false⟩:z9),zA) else
  (bif decide ((((zN.Data).length:Nat):Int)>(0:Int)) then some ((⟨(0:Int),[],(0:Int),(0:Int),false⟩:z9),(18:Int)) else
  (iB F zM).bind fun zJ =>
  (bif (zJ != (0:Int)) then some ((⟨(0:Int),[],(0:Int),(0:Int),false⟩:z9),zJ) else
  (rO F zM).bind fun zP=>(dB F (72:Int) zP).bind fun z5=>(mK F zN ([z5]:List (List (Int)))).bind fun zW =>
  some (zW.1,zW.2))))
def DX (vE:Int):Option Int :=
  some (tW .i64 (zI (qI .u64 vE (1:Int))) (zI (0 - (zI (uG .u64 vE (1:Int))))))
def BN (F:Nat) (zE:List (Int)) (rec:Int→Int→Option (Unit⊕(Int×Int×Int))) (vE:Int) (zG:Int):Option (Unit⊕(Int×Int×Int)) :=
  (bif decide (zG<(((zE).length:Nat):Int)) then (xG zE zG).bind fun zH =>
  (bif ((zG==(9:Int))&&decide (zH>(1:Int))) then some (.inr ((0:Int),(0:Int),(10:Int))) else
  (need ((0:Int)≤(zI ((7:Int) * zG)))).bind fun _ =>
  (bif decide (zH≥(128:Int)) then rec (ior .u64 vE (pP .u64 (jO (uG .u8 zH (127:Int))) (zI ((7:Int) * zG)))) (zI (zG+(1:Int))) else
  (bif ((zH==(0:Int))&&decide (zG>(0:Int))) then some (.inr ((0:Int),(0:Int),(10:Int))) else
  (DX (ior .u64 vE (pP .u64 (jO (uG .u8 zH (127:Int))) (zI ((7:Int) * zG))))).bind fun zA =>
  some (.inr (zA,zI (zG+(1:Int)),(0:Int)))))) else
  some (.inl ()))
def fW (F:Nat) (zE:List (Int)):Nat→Int→Int→Option (Unit⊕(Int×Int×Int))
  | 0,_,_=>none
  | n+1,vE,zG=>BN F zE (fW F zE n) vE zG
def bL (F:Nat) (zE:List (Int)):Option (Int×Int×Int) :=
  (fW F zE F (0:Int) (0:Int)).bind fun (zC:Unit⊕(Int×Int×Int)) =>
  (match zC with
  | (.inl yD) =>
  some ((0:Int),(0:Int),(8:Int))
  | (.inr xW) =>
  some xW)
def rV (F:Nat) (zE:List (Int)):Option (Int×(List (Int))×Int) :=
  (bif ((((zE).length:Nat):Int)==(0:Int)) then some ((0:Int),[],(0:Int)) else
  (need ((1:Int)≤(((zE).length:Nat):Int))).bind fun _=>(bL F (sub zE (1:Int) (((zE).length:Nat):Int))).bind fun zA =>
  (bif (zA.2.2 != (0:Int)) then some ((0:Int),[],(0:Int)) else
  (need ((0:Int)≤(zI ((1:Int)+zA.2.1))∧(zI ((1:Int)+zA.2.1))≤(((zE).length:Nat):Int))).bind fun _=>(bL F (sub zE (zI ((1:Int)+zA.2.1)) (((zE).length:Nat):Int))).bind fun zJ =>
  (bif ((zJ.2.2 != (0:Int))||(decide (zA.1<(0:Int))||decide (zA.1>(zI ((((zE).length:Nat):Int) - (zI ((zI ((1:Int)+zA.2.1))+zJ.2.1))))))) then some ((0:Int),[],(0:Int)) else
  (need ((0:Int)≤(zI ((zI ((1:Int)+zA.2.1))+zJ.2.1))∧(zI ((zI ((1:Int)+zA.2.1))+zJ.2.1))≤(zI ((zI ((zI ((1:Int)+zA.2.1))+zJ.2.1))+zA.1))∧(zI ((zI ((zI ((1:Int)+zA.2.1))+zJ.2.1))+zA.1))≤(((zE).length:Nat):Int))).bind fun _ =>
  (xG zE (0:Int)).bind fun zH=>(rM F zH (sub zE (zI ((zI ((1:Int)+zA.2.1))+zJ.2.1)) (zI ((zI ((zI ((1:Int)+zA.2.1))+zJ.2.1))+zA.1)))).bind fun zP =>
  (bif (zP != zJ.1) then some ((0:Int),[],(0:Int)) else
  (xG zE (0:Int)).bind fun yA =>
  some (yA,sub zE (zI ((zI ((1:Int)+zA.2.1))+zJ.2.1)) (zI ((zI ((zI ((1:Int)+zA.2.1))+zJ.2.1))+zA.1)),zI ((zI ((zI ((1:Int)+zA.2.1))+zJ.2.1))+zA.1))))))
structure vB where
  b:List (Int)
  bad:Bool
  deriving DecidableEq,Inhabited
def uU (s:vB):List AV:=[.sl false 1 (List.map (AV.int .u8) s.b),.bool s.bad]
def pX (F:Nat) (zF:vB):Option (Int×vB) :=
  (bL F zF.b).bind fun zA =>
  (bif (zA.2.2 != (0:Int)) then some ((0:Int),(⟨[],true⟩:vB)) else
  (need ((0:Int)≤zA.2.1∧zA.2.1≤(((zF.b).length:Nat):Int))).bind fun _ =>
  some (zA.1,(⟨sub zF.b zA.2.1 (((zF.b).length:Nat):Int),zF.bad⟩:vB)))
def lR (F:Nat) (zF:vB) (kL:Int):Option (Int×vB) :=
  (pX F zF).bind fun zA =>
  (bif (decide (zA.1<(0:Int))||decide (zA.1>kL)) then some ((0:Int),(⟨zA.2.b,true⟩:vB)) else
  some (zA.1,zA.2))
def rZ (F:Nat) (zE:List (Int)) (kL:Int):Option ((List Int)×Int×Int) :=
  (bL F zE).bind fun zA =>
  (bif (zA.2.2 != (0:Int)) then some (([]:List Int),(0:Int),zA.2.2) else
  (bif decide (zA.1<(0:Int)) then some (([]:List Int),(0:Int),(10:Int)) else
  (bif decide (zA.1>kL) then some (([]:List Int),(0:Int),(7:Int)) else
  (bif decide (zA.1>(zI ((((zE).length:Nat):Int) - zA.2.1))) then some (([]:List Int),(0:Int),(8:Int)) else
  (need ((0:Int)≤zA.2.1∧zA.2.1≤(zI (zA.2.1+zA.1))∧(zI (zA.2.1+zA.1))≤(((zE).length:Nat):Int))).bind fun _ =>
  some (sub zE zA.2.1 (zI (zA.2.1+zA.1)),zI (zA.2.1+zA.1),(0:Int))))))
def A7 (F:Nat) (zF:vB):Option ((List Int)×vB) :=
  (rZ F zF.b (40:Int)).bind fun zA =>
  (bif (zA.2.2 != (0:Int)) then some (([]:List Int),(⟨[],true⟩:vB)) else
  (need ((0:Int)≤zA.2.1∧zA.2.1≤(((zF.b).length:Nat):Int))).bind fun _ =>
  some (zA.1,(⟨sub zF.b zA.2.1 (((zF.b).length:Nat):Int),zF.bad⟩:vB)))
def m4 (F:Nat) (zF:vB):Option (yP×vB) :=
  (pX F zF).bind fun zA=>(pX F zA.2).bind fun zJ=>(pX F zJ.2).bind fun zP =>
  (pX F zP.2).bind fun z5 =>
  (pX F z5.2).bind fun zW =>
  some ((⟨zA.1,zJ.1,zP.1,(⟨z5.1,zW.1⟩:CV)⟩:yP),zW.2)
def cW (zY:List (Int)) (zE:List (Int)):Option Bool :=
  some (zY==zE)
def g9 (F:Nat) (zA:Int×vB) (rec:Int→(List Int)→Bool→(List xJ)→Option ((List Int)×Bool×(List xJ))) (zG:Int) (zB:List Int) (yK:Bool) (zL:List xJ):Option ((List Int)×Bool×(List xJ)) :=
  (bif decide (zG<zA.1) then (pX F (⟨zB,yK⟩:vB)).bind fun zJ=>(A7 F zJ.2).bind fun zP =>
  (pX F zP.2).bind fun z5=>(need (((zL).length+(([(⟨zJ.1,zP.1,z5.1⟩:xJ)]:List xJ)).length) * 32≤140737488355328)).bind fun _ =>
  rec (zI (zG+(1:Int))) z5.2.b z5.2.bad (zL++([(⟨zJ.1,zP.1,z5.1⟩:xJ)]:List xJ)) else
  some (zB,yK,zL))
def mE (F:Nat) (zA:Int×vB):Nat→Int→(List Int)→Bool→(List xJ)→Option ((List Int)×Bool×(List xJ))
  | 0,_,_,_,_=>none
  | n+1,zG,zB,yK,zL=>g9 F zA (mE F zA n) zG zB yK zL
def gU (F:Nat) (zW:Int×vB) (rec:Int→(List Int)→Bool→(List y7)→Option ((List Int)×Bool×(List y7))) (y8:Int) (yG:List Int) (yC:Bool) (zZ:List y7):Option ((List Int)×Bool×(List y7)) :=
  (bif decide (y8<zW.1) then (pX F (⟨yG,yC⟩:vB)).bind fun yV =>
  (pX F yV.2).bind fun xB=>(need (((zZ).length+(([(⟨yV.1,xB.1⟩:y7)]:List y7)).length) * 16≤140737488355328)).bind fun _ =>
  rec (zI (y8+(1:Int))) xB.2.b xB.2.bad (zZ++([(⟨yV.1,xB.1⟩:y7)]:List y7)) else
  some (yG,yC,zZ))
def mV (F:Nat) (zW:Int×vB):Nat→Int→(List Int)→Bool→(List y7)→Option ((List Int)×Bool×(List y7))
  | 0,_,_,_,_=>none
  | n+1,y8,yG,yC,zZ=>gU F zW (mV F zW n) y8 yG yC zZ
def gD (F:Nat) (yX:Int×vB) (rec:Int→(List Int)→Bool→(List yP)→Option ((List Int)×Bool×(List yP))) (wS:Int) (yS:List Int) (xE:Bool) (yY:List yP):Option ((List Int)×Bool×(List yP)) :=
  (bif decide (wS<yX.1) then (m4 F (⟨yS,xE⟩:vB)).bind fun yL=>(need (((yY).length+(([yL.1]:List yP)).length) * 40≤140737488355328)).bind fun _ =>
  rec (zI (wS+(1:Int))) yL.2.b yL.2.bad (yY++([yL.1]:List yP)) else
  some (yS,xE,yY))
def rF (F:Nat) (yX:Int×vB):Nat→Int→(List Int)→Bool→(List yP)→Option ((List Int)×Bool×(List yP))
  | 0,_,_,_,_=>none
  | n+1,wS,yS,xE,yY=>gD F yX (rF F yX n) wS yS xE yY
def AY (F:Nat) (zE:List (Int)):Option (zU×Bool) :=
  (lR F (⟨zE,false⟩:vB) (64:Int)).bind fun zA =>
  (mE F zA F (0:Int) zA.2.b zA.2.bad []).bind fun (zC:((List Int)×Bool×(List xJ))) =>
  (lR F (⟨zC.1,zC.2.1⟩:vB) (8:Int)).bind fun zW =>
  (mV F zW F (0:Int) zW.2.b zW.2.bad []).bind fun (zR:((List Int)×Bool×(List y7))) =>
  (lR F (⟨zR.1,zR.2.1⟩:vB) (200:Int)).bind fun yX =>
  (rF F yX F (0:Int) yX.2.b yX.2.bad []).bind fun (y5:((List Int)×Bool×(List yP))) =>
  ((bif !y5.2.1 then ((rO F (⟨zC.2.2,zR.2.2,y5.2.2⟩:zU)).bind fun xM=>(cW xM zE).bind fun v7=>some v7) else (some false))).bind fun (zK:Bool) =>
  some ((⟨zC.2.2,zR.2.2,y5.2.2⟩:zU),zK)
structure xU where
  next:Int
  last:Int
  deriving DecidableEq,Inhabited
def O7 (s:xU):List AV:=[.int .i64 s.next,.int .i64 s.last]
def y0 (s:xU):AV:=.agg (O7 s)
structure yJ where
  head:zU
  packets:List (zQ)
  ends:Option (List (Int×xU))
  events:Int
  deriving DecidableEq,Inhabited
structure xZ where
  done:yJ
  used:Int
  deriving DecidableEq,Inhabited
def HY (zF:List (zQ)):Option (List (zQ)) :=
  (need (((([]:List zQ)).length+(zF).length) * 48≤140737488355328)).bind fun _ =>
  some ([]++zF)
def r6 (zF:List (yP)):Option (List (yP)) :=
  (need (((([]:List yP)).length+(zF).length) * 40≤140737488355328)).bind fun _ =>
  some ([]++zF)
def oK (zB:yJ):Option yJ :=
  (HY zB.packets).bind fun zA =>
  (r6 zB.head.Snaps).bind fun zJ =>
  some (⟨(⟨zB.head.Threads,zB.head.Domains,zJ⟩:zU),zA,zB.ends,zB.events⟩:yJ)
def D2 (F:Nat) (zE:List (Int)):Option (yP×Bool) :=
  (m4 F (⟨zE,false⟩:vB)).bind fun zA =>
  ((bif !zA.2.bad then ((iO F [] zA.1).bind fun zJ=>(cW zJ zE).bind fun zP=>some zP) else (some false))).bind fun (zK:Bool) =>
  some (zA.1,zK)
structure uZ where
  b:List (Int)
  used:Int
  fault:Int
  deriving DecidableEq,Inhabited
def t6 (s:uZ):List AV:=[.sl false 1 (List.map (AV.int .u8) s.b),.int .i64 s.used,.int .i64 s.fault]
def aK (F:Nat) (zH:uZ):Option (Int×uZ) :=
  (bif (zH.fault != (0:Int)) then some ((0:Int),zH) else
  (need ((0:Int)≤zH.used∧zH.used≤(((zH.b).length:Nat):Int))).bind fun _=>(bL F (sub zH.b zH.used (((zH.b).length:Nat):Int))).bind fun zA =>
  some (zA.1,(⟨zH.b,zI (zH.used+zA.2.1),zA.2.2⟩:uZ)))
def bJ (F:Nat) (zH:uZ) (kL:Int):Option (Int×uZ) :=
  (aK F zH).bind fun zA =>
  (bif (zA.2.fault != (0:Int)) then some ((0:Int),zA.2) else
  (bif decide (zA.1<(0:Int)) then some ((0:Int),(⟨zA.2.b,zA.2.used,(10:Int)⟩:uZ)) else
  (bif decide (zA.1>kL) then some ((0:Int),(⟨zA.2.b,zA.2.used,(7:Int)⟩:uZ)) else
  some (zA.1,zA.2))))
def CD (F:Nat) (zH:uZ):Option ((List Int)×uZ) :=
  (bif (zH.fault != (0:Int)) then some (([]:List Int),zH) else
  (need ((0:Int)≤zH.used∧zH.used≤(((zH.b).length:Nat):Int))).bind fun _=>(rZ F (sub zH.b zH.used (((zH.b).length:Nat):Int)) (40:Int)).bind fun zA =>
  some (zA.1,(⟨zH.b,zI (zH.used+zA.2.1),zA.2.2⟩:uZ)))
structure zT where
  c0:Int
  c1:Int
  deriving DecidableEq,Inhabited
def SR (s:zT):List AV:=[.int .i64 s.c0,.int .i64 s.c1]
def yW (s:zT):AV:=.agg (SR s)
def fV (F:Nat) (yE:List (List Int)) (rec:Int→(List ((List Int)×Bool))→Option (Unit⊕Int)) (zG:Int) (zL:List ((List Int)×Bool)):Option (Unit⊕Int) :=
  (bif decide (zG<(((yE).length:Nat):Int)) then (xG yE zG).bind fun zH =>
  (cT F zH).bind fun zA =>
  (bif (zA != (0:Int)) then some (.inr zA) else
  (bif ((vW zL zH).getD false) then some (.inr (4:Int)) else
  (need ((zL).length<140737488355328)).bind fun _ =>
  rec (zI (zG+(1:Int))) (x5 zL zH true))) else
  some (.inl ()))
def rK (F:Nat) (yE:List (List Int)):Nat→Int→(List ((List Int)×Bool))→Option (Unit⊕Int)
  | 0,_,_=>none
  | n+1,zG,zL=>fV F yE (rK F yE n) zG zL
def B9 (F:Nat) (yE:List (List Int)):Option Int :=
  (rK F yE F (0:Int) []).bind fun (zC:Unit⊕Int) =>
  (match zC with
  | (.inl yD) =>
  some (0:Int)
  | (.inr xW) =>
  some xW)
def B2 (F:Nat) (yE:List (List Int)) (yI:List (zT)) (rec:Int→(List (zT×Bool))→(List Int)→Option (Unit⊕Int)) (zG:Int) (zL:List (zT×Bool)) (zZ:List Int):Option (Unit⊕Int) :=
  (bif decide (zG<(((yI).length:Nat):Int)) then (xG yI zG).bind fun zH =>
  (bif (decide (zH.c0<(-1:Int))||(decide (zH.c0≥zG)||(decide (zH.c1<(0:Int))||decide (zH.c1≥(((yE).length:Nat):Int))))) then some (.inr (2:Int)) else
  (bif ((vW zL zH).getD false) then some (.inr (4:Int)) else
  (need ((zL).length<140737488355328)).bind fun _ =>
  (xG zZ zG).bind fun yA =>
  (((bif (zH.c0 != (-1:Int)) then (xG ((zZ).set ((zG).toNat) (1:Int)) zG).bind fun xR=>(xG ((zZ).set ((zG).toNat) (1:Int)) zH.c0).bind fun v9=>(xG ((zZ).set ((zG).toNat) (1:Int)) zG).bind fun uK =>
  some (((zZ).set ((zG).toNat) (1:Int)).set ((zG).toNat) (zI (xR+v9))) else
  some ((zZ).set ((zG).toNat) (1:Int))):Option (List Int))).bind fun (zR:(List Int)) =>
  (xG zR zG).bind fun n6 =>
  (bif decide (n6>(32:Int)) then some (.inr (7:Int)) else
  rec (zI (zG+(1:Int))) (x5 zL zH true) zR))) else
  some (.inl ()))
def oT (F:Nat) (yE:List (List Int)) (yI:List (zT)):Nat→Int→(List (zT×Bool))→(List Int)→Option (Unit⊕Int)
  | 0,_,_,_=>none
  | n+1,zG,zL,zZ=>B2 F yE yI (oT F yE yI n) zG zL zZ
def cL (F:Nat) (yE:List (List Int)) (yI:List (zT)):Option Int :=
  (bif (decide ((((yE).length:Nat):Int)>(1000:Int))||decide ((((yI).length:Nat):Int)>(1000:Int))) then some (7:Int) else
  (B9 F yE).bind fun zA =>
  (bif (zA != (0:Int)) then some zA else
  (need (((yI).length) * 8≤281474976710656)).bind fun _ =>
  (oT F yE yI F (0:Int) [] (List.replicate ((yI).length) (0:Int))).bind fun (zC:Unit⊕Int) =>
  (match zC with
  | (.inl yD) =>
  some (0:Int)
  | (.inr xW) =>
  some xW)))
structure jN where
  b:List (Int)
  used:Int
  fault:Int
  deriving DecidableEq,Inhabited
def cI (s:jN):List AV:=[.sl false 1 (List.map (AV.int .u8) s.b),.int .i64 s.used,.int .i64 s.fault]
def nN (F:Nat) (zH:jN):Option (Int×jN) :=
  (bif (zH.fault != (0:Int)) then some ((0:Int),zH) else
  (need ((0:Int)≤zH.used∧zH.used≤(((zH.b).length:Nat):Int))).bind fun _=>(bL F (sub zH.b zH.used (((zH.b).length:Nat):Int))).bind fun zA =>
  some (zA.1,(⟨zH.b,zI (zH.used+zA.2.1),zA.2.2⟩:jN)))
def DQ (vH:Int):Option (Bool×Bool×Bool×Bool) :=
  some (((vH==(1:Int))||((vH==(3:Int))||(vH==(4:Int)))),decide (vH≥(4:Int)),((vH==(9:Int))||(vH==(11:Int))),((vH==(5:Int))||(vH==(11:Int))))
def CQ (F:Nat) (rec:Int→Int→(List (List Int))→Option (List (List Int))) (xF:Int) (t3:Int) (zL:List (List Int)):Option (List (List Int)) :=
  (bif decide (xF<t3) then (xG zL t3).bind fun zH=>(xG zL xF).bind fun yA=>(xG zL xF).bind fun xR=>(xG ((zL).set ((xF).toNat) zH) t3).bind fun v9 =>
  rec (zI (xF+(1:Int))) (zI (t3 - (1:Int))) (((zL).set ((xF).toNat) zH).set ((t3).toNat) yA) else
  some zL)
def oL (F:Nat):Nat→Int→Int→(List (List Int))→Option (List (List Int))
  | 0,_,_,_=>none
  | n+1,xF,t3,zL=>CQ F (oL F n) xF t3 zL
def AT (F:Nat) (zF:List (List Int)):Option (List (List Int)) :=
  (oL F F (0:Int) (zI ((((zF).length:Nat):Int) - (1:Int))) zF).bind fun (zC:(List (List Int))) =>
  some zC
def i5 (F:Nat) (yE:List (List Int)) (yI:List (zT)) (rec:Int→(List (List Int))→Option (List (List Int))) (qJ:Int) (zL:List (List Int)):Option (List (List Int)) :=
  (bif (qJ != (-1:Int)) then (xG yI qJ).bind fun zH=>(xG yE zH.c1).bind fun yA=>(need (((zL).length+(([yA]:List (List Int))).length) * 16≤140737488355328)).bind fun _ =>
  (xG yI qJ).bind fun xR =>
  rec xR.c0 (zL++([yA]:List (List Int))) else
  some zL)
def D6 (F:Nat) (yE:List (List Int)) (yI:List (zT)):Nat→Int→(List (List Int))→Option (List (List Int))
  | 0,_,_=>none
  | n+1,qJ,zL=>i5 F yE yI (D6 F yE yI n) qJ zL
def oV (F:Nat) (yE:List (List Int)) (yI:List (zT)) (xF:Int):Option ((List (List Int))×Int) :=
  (cL F yE yI).bind fun zA =>
  (bif (zA != (0:Int)) then some ([],(1:Int)) else
  (bif (decide (xF<(-1:Int))||decide (xF≥(((yI).length:Nat):Int))) then some ([],(2:Int)) else
  (D6 F yE yI F xF []).bind fun (zC:(List (List Int))) =>
  (AT F zC).bind fun zJ=>(need ((zJ).length=(zC).length)).bind fun _ =>
  some (zJ,(0:Int))))
structure wO where
  word:List Int
  name:Bool
  n:Bool
  m:Bool
  stack:Bool
  least:Int
  most:Int
  mLeast:Int
  mMost:Int
  deriving DecidableEq,Inhabited
def DE (s:wO):List AV:=[.str s.word,.bool s.name,.bool s.n,.bool s.m,.bool s.stack,.int .i64 s.least,.int .i64 s.most,.int .i64 s.mLeast,.int .i64 s.mMost]
def cH (s:wO):AV:=.agg (DE s)
def mX:Option (List (wO)) :=
  some ([(⟨([]:List Int),false,false,false,false,(0:Int),(0:Int),(0:Int),(0:Int)⟩:wO),(⟨([98,101,103,105,110]:List Int),true,false,false,false,(0:Int),(0:Int),(0:Int),(0:Int)⟩:wO),(⟨([101,110,100]:List Int),false,false,false,false,(0:Int),(0:Int),(0:Int),(0:Int)⟩:wO),(⟨([109,97,114,107]:List Int),true,false,false,false,(0:Int),(0:Int),(0:Int),(0:Int)⟩:wO),(⟨([99,111,117,110,116]:List Int),true,true,false,false,(-1000000000000000:Int),(1000000000000000:Int),(0:Int),(0:Int)⟩:wO),(⟨([115,97,109,112,108,101]:List Int),false,true,false,true,(1:Int),(1000000000000:Int),(0:Int),(0:Int)⟩:wO),(⟨([115,101,110,100]:List Int),false,true,false,false,(0:Int),(1000000000000000:Int),(0:Int),(0:Int)⟩:wO),(⟨([114,101,99,118]:List Int),false,true,false,false,(0:Int),(1000000000000000:Int),(0:Int),(0:Int)⟩:wO),(⟨([114,117,110]:List Int),false,true,false,false,(0:Int),(63:Int),(0:Int),(0:Int)⟩:wO),(⟨([115,116,111,112]:List Int),false,true,true,false,(0:Int),(3:Int),(0:Int),(1000000000000000:Int)⟩:wO),(⟨([119,97,107,101]:List Int),false,true,false,false,(0:Int),(1000000000000000:Int),(0:Int),(0:Int)⟩:wO),(⟨([97,108,108,111,99]:List Int),false,true,true,true,(0:Int),(1000000000000000:Int),(1:Int),(1000000000000:Int)⟩:wO),(⟨([102,114,101,101]:List Int),false,true,false,false,(0:Int),(1000000000000000:Int),(0:Int),(0:Int)⟩:wO)]:List wO)
def BT (vH:Int):Option (wO×Bool) :=
  (mX ).bind fun zA =>
  (bif (decide (vH<(1:Int))||decide (vH≥(((zA).length:Nat):Int))) then some ((⟨([]:List Int),false,false,false,false,(0:Int),(0:Int),(0:Int),(0:Int)⟩:wO),false) else
  (xG zA vH).bind fun zH =>
  some (zH,true))
def C8 (F:Nat) (zO:List (List Int)) (rec:Int→Option (Unit⊕Int)) (zG:Int):Option (Unit⊕Int) :=
  (bif decide (zG<(((zO).length:Nat):Int)) then (xG zO zG).bind fun zH =>
  (cT F zH).bind fun zA =>
  (bif (zA != (0:Int)) then some (.inr zA) else
  rec (zI (zG+(1:Int)))) else
  some (.inl ()))
def C2 (F:Nat) (zO:List (List Int)):Nat→Int→Option (Unit⊕Int)
  | 0,_=>none
  | n+1,zG=>C8 F zO (C2 F zO n) zG
def o8 (F:Nat) (zO:List (List Int)):Option Int :=
  (bif decide ((((zO).length:Nat):Int)>(32:Int)) then some (7:Int) else
  (C2 F zO F (0:Int)).bind fun (zC:Unit⊕Int) =>
  (match zC with
  | (.inl yD) =>
  some (0:Int)
  | (.inr xW) =>
  some xW))
def DO (F:Nat) (f_1:wO) (z7:xA):Option Int :=
  (bif f_1.name then (cT F z7.Name).bind fun zA =>
  some zA else
  (o8 F z7.Stack).bind fun zJ =>
  some zJ)
def fO (F:Nat) (z7:xA):Option Int :=
  (bif (decide (z7.At<(0:Int))||decide (z7.At>(1000000000000:Int))) then some (2:Int) else
  (BT z7.Kind).bind fun zA =>
  ((bif !zA.2 then (some true) else (bif !zA.1.name then (bif !(z7.Name==([]:List Int)) then (some true) else (bif !zA.1.n then (bif (z7.N != (0:Int)) then (some true) else (bif !zA.1.m then (bif (z7.M != (0:Int)) then (some true) else (bif !zA.1.stack then (some (decide ((((z7.Stack).length:Nat):Int)>(0:Int)))) else (some false))) else (bif !zA.1.stack then (some (decide ((((z7.Stack).length:Nat):Int)>(0:Int)))) else (some false)))) else (bif !zA.1.m then (bif (z7.M != (0:Int)) then (some true) else (bif !zA.1.stack then (some (decide ((((z7.Stack).length:Nat):Int)>(0:Int)))) else (some false))) else (bif !zA.1.stack then (some (decide ((((z7.Stack).length:Nat):Int)>(0:Int)))) else (some false))))) else (bif !zA.1.n then (bif (z7.N != (0:Int)) then (some true) else (bif !zA.1.m then (bif (z7.M != (0:Int)) then (some true) else (bif !zA.1.stack then (some (decide ((((z7.Stack).length:Nat):Int)>(0:Int)))) else (some false))) else (bif !zA.1.stack then (some (decide ((((z7.Stack).length:Nat):Int)>(0:Int)))) else (some false)))) else (bif !zA.1.m then (bif (z7.M != (0:Int)) then (some true) else (bif !zA.1.stack then (some (decide ((((z7.Stack).length:Nat):Int)>(0:Int)))) else (some false))) else (bif !zA.1.stack then (some (decide ((((z7.Stack).length:Nat):Int)>(0:Int)))) else (some false))))))).bind fun (zK:Bool) =>
  (bif zK then some (1:Int) else
  (DO F zA.1 z7).bind fun zJ =>
  (bif (zJ != (0:Int)) then some zJ else
  (bif (zA.1.n&&(decide (z7.N<zA.1.least)||decide (z7.N>zA.1.most))) then some (2:Int) else
  (bif ((z7.Kind==(9:Int))&&((z7.N != (2:Int))&&(z7.M != (0:Int)))) then some (1:Int) else
  (bif (zA.1.m&&(bif decide (z7.M<zA.1.mLeast) then ((z7.Kind != (9:Int))||(z7.N==(2:Int))) else (decide (z7.M>zA.1.mMost)&&((z7.Kind != (9:Int))||(z7.N==(2:Int)))))) then some (2:Int) else
  some (0:Int)))))))
def DU (F:Nat) (yE:List (List Int)) (yI:List (zT)) (zE:List (Int)):Option (xA×Int×Int) :=
  (cL F yE yI).bind fun zA =>
  (bif (zA != (0:Int)) then some ((⟨(0:Int),(0:Int),([]:List Int),(0:Int),(0:Int),[]⟩:xA),(0:Int),(1:Int)) else
  (nN F (⟨zE,(0:Int),(0:Int)⟩:jN)).bind fun zJ =>
  (nN F zJ.2).bind fun zP =>
  (((bif ((zP.2.fault==(0:Int))&&(decide (zJ.1<(1:Int))||decide (zJ.1>(12:Int)))) then some (10:Int) else
  some zP.2.fault):Option Int)).bind fun (zC:Int) =>
  (DQ zJ.1).bind fun z5 =>
  (((bif z5.1 then (nN F (⟨zP.2.b,zP.2.used,zC⟩:jN)).bind fun zW =>
  some (zW.1,zW.2.b,zW.2.used,zW.2.fault) else
  some ((0:Int),zP.2.b,zP.2.used,zC)):Option (Int×(List Int)×Int×Int))).bind fun (zR:(Int×(List Int)×Int×Int)) =>
  (((bif z5.2.1 then (nN F (⟨zR.2.1,zR.2.2.1,zR.2.2.2⟩:jN)).bind fun yV =>
  some (yV.2.b,yV.2.used,yV.2.fault,yV.1) else
  some (zR.2.1,zR.2.2.1,zR.2.2.2,(0:Int))):Option ((List Int)×Int×Int×Int))).bind fun (y5:((List Int)×Int×Int×Int)) =>
  (((bif z5.2.2.1 then (nN F (⟨y5.1,y5.2.1,y5.2.2.1⟩:jN)).bind fun xB =>
  some (xB.2.b,xB.2.used,xB.2.fault,xB.1) else
  some (y5.1,y5.2.1,y5.2.2.1,(0:Int))):Option ((List Int)×Int×Int×Int))).bind fun (xX:((List Int)×Int×Int×Int)) =>
  (((bif z5.2.2.2 then (nN F (⟨xX.1,xX.2.1,xX.2.2.1⟩:jN)).bind fun yX =>
  some (yX.1,yX.2.b,yX.2.used,yX.2.fault) else
  some ((-1:Int),xX.1,xX.2.1,xX.2.2.1)):Option (Int×(List Int)×Int×Int))).bind fun (wZ:(Int×(List Int)×Int×Int)) =>
  (((bif (wZ.2.2.2 != (0:Int)) then some (.inr ((⟨(0:Int),(0:Int),([]:List Int),(0:Int),(0:Int),[]⟩:xA),(0:Int),wZ.2.2.2)) else
  (bif (z5.1&&(decide (zR.1<(0:Int))||decide (zR.1≥(((yE).length:Nat):Int)))) then some (.inr ((⟨(0:Int),(0:Int),([]:List Int),(0:Int),(0:Int),[]⟩:xA),(0:Int),(2:Int))) else
  (bif (decide (wZ.1<(-1:Int))||decide (wZ.1≥(((yI).length:Nat):Int))) then some (.inr ((⟨(0:Int),(0:Int),([]:List Int),(0:Int),(0:Int),[]⟩:xA),(0:Int),(2:Int))) else
  some (.inl ())))):Option (Unit⊕(xA×Int×Int)))).bind fun (o_6:Unit⊕(xA×Int×Int)) =>
  (match o_6 with
  | (.inl yD) =>
  (((bif z5.1 then (xG yE zR.1).bind fun zH =>
  some zH else
  some ([]:List Int)):Option (List Int))).bind fun (b8:(List Int)) =>
  (oV F yE yI wZ.1).bind fun yL =>
  (fO F (⟨zP.1,zJ.1,b8,y5.2.2.2,xX.2.2.2,yL.1⟩:xA)).bind fun xM =>
  (bif (xM != (0:Int)) then some ((⟨(0:Int),(0:Int),([]:List Int),(0:Int),(0:Int),[]⟩:xA),(0:Int),(10:Int)) else
  some ((⟨zP.1,zJ.1,b8,y5.2.2.2,xX.2.2.2,yL.1⟩:xA),wZ.2.2.1,(0:Int)))
  | (.inr xW) =>
  some xW))
def DB (F:Nat) (zO:List (xA)) (rec:Int→Option (Unit⊕Int)) (zG:Int):Option (Unit⊕Int) :=
  (bif decide (zG<(((zO).length:Nat):Int)) then (xG zO zG).bind fun zH =>
  (fO F zH).bind fun zA =>
  (bif (zA != (0:Int)) then some (.inr zA) else
  ((bif decide (zG>(0:Int)) then ((xG zO (zI (zG - (1:Int)))).bind fun yA=>some (decide (zH.At<yA.At))) else (some false))).bind fun (zK:Bool) =>
  (bif zK then some (.inr (11:Int)) else
  rec (zI (zG+(1:Int))))) else
  some (.inl ()))
def rB (F:Nat) (zO:List (xA)):Nat→Int→Option (Unit⊕Int)
  | 0,_=>none
  | n+1,zG=>DB F zO (rB F zO n) zG
def DM (F:Nat) (zO:List (xA)):Option Int :=
  (rB F zO F (0:Int)).bind fun (zC:Unit⊕Int) =>
  (match zC with
  | (.inl yD) =>
  some (0:Int)
  | (.inr xW) =>
  some xW)
def cQ (F:Nat) (zK:zQ) (rec:Int→Option (Unit⊕Int)) (zG:Int):Option (Unit⊕Int) :=
  (bif decide (zG<((3:Nat):Int)) then (xG ([zK.Thread,zK.Serial,zK.Lost]:List Int) zG).bind fun zH =>
  (bif (decide (zH<(0:Int))||decide (zH>(1000000000000000:Int))) then some (.inr (2:Int)) else
  rec (zI (zG+(1:Int)))) else
  some (.inl ()))
def BU (F:Nat) (zK:zQ):Nat→Int→Option (Unit⊕Int)
  | 0,_=>none
  | n+1,zG=>cQ F zK (BU F zK n) zG
def fD (F:Nat) (zK:zQ):Option Int :=
  (BU F zK F (0:Int)).bind fun (zC:Unit⊕Int) =>
  (match zC with
  | (.inl yD) =>
  (((bif decide (zK.Lost>zK.Serial) then some (decide (zK.Lost>zK.Serial)) else
  some (decide ((zI (zK.Serial+(((zK.Events).length:Nat):Int)))>(1000000000000000:Int)))):Option Bool)).bind fun (zR:Bool) =>
  (bif zR then some (2:Int) else
  (bif ((((zK.Events).length:Nat):Int)==(0:Int)) then some (8:Int) else
  (bif decide ((((zK.Events).length:Nat):Int)>(1000:Int)) then some (7:Int) else
  (DM F zK.Events).bind fun zA =>
  some zA)))
  | (.inr xW) =>
  some xW)
def i6 (F:Nat) (zF:List (List Int)) (zY:List Int) (rec:Int→Option (Unit⊕Int)) (zG:Int):Option (Unit⊕Int) :=
  (bif decide (zG<(((zF).length:Nat):Int)) then (xG zF zG).bind fun zH =>
  (bif (zY==zH) then some (.inr zG) else
  rec (zI (zG+(1:Int)))) else
  some (.inl ()))
def AE (F:Nat) (zF:List (List Int)) (zY:List Int):Nat→Int→Option (Unit⊕Int)
  | 0,_=>none
  | n+1,zG=>i6 F zF zY (AE F zF zY n) zG
def CJ (F:Nat) (zF:List (List Int)) (zY:List Int):Option Int :=
  (AE F zF zY F (0:Int)).bind fun (zC:Unit⊕Int) =>
  (match zC with
  | (.inl yD) =>
  some (-1:Int)
  | (.inr xW) =>
  some xW)
def EX (zF:List (List Int)):Option (List (List Int)) :=
  (need (((([]:List (List Int))).length+(zF).length) * 16≤140737488355328)).bind fun _ =>
  some ([]++zF)
def mN (F:Nat) (yE:List (List Int)) (zF:List Int):Option (Int×(List (List Int))×Int) :=
  (cT F zF).bind fun zA =>
  (bif (zA != (0:Int)) then some ((0:Int),yE,zA) else
  (CJ F yE zF).bind fun zJ =>
  (bif decide (zJ≥(0:Int)) then some (zJ,yE,(0:Int)) else
  (bif decide ((((yE).length:Nat):Int)≥(1000:Int)) then some ((0:Int),yE,(6:Int)) else
  (EX yE).bind fun zP=>(need (((zP).length+(([zF]:List (List Int))).length) * 16≤140737488355328)).bind fun _ =>
  some ((((yE).length:Nat):Int),(zP++([zF]:List (List Int))),(0:Int)))))
def E3 (zF:List (zT)):Option (List (zT)) :=
  (need (((([]:List zT)).length+(zF).length) * 16≤140737488355328)).bind fun _ =>
  some ([]++zF)
def gI (F:Nat) (zF:List (zT)) (zY:zT) (rec:Int→Option (Unit⊕Int)) (zG:Int):Option (Unit⊕Int) :=
  (bif decide (zG<(((zF).length:Nat):Int)) then (xG zF zG).bind fun zH =>
  (bif (decide (zY=zH)) then some (.inr zG) else
  rec (zI (zG+(1:Int)))) else
  some (.inl ()))
def AL (F:Nat) (zF:List (zT)) (zY:zT):Nat→Int→Option (Unit⊕Int)
  | 0,_=>none
  | n+1,zG=>gI F zF zY (AL F zF zY n) zG
def B5 (F:Nat) (zF:List (zT)) (zY:zT):Option Int :=
  (AL F zF zY F (0:Int)).bind fun (zC:Unit⊕Int) =>
  (match zC with
  | (.inl yD) =>
  some (-1:Int)
  | (.inr xW) =>
  some xW)
def BZ (F:Nat) (yE:List (List Int)) (yI:List (zT)) (zO:List (List Int)) (rec:Int→(List (List Int))→Int→(List zT)→Option ((Int×(List (List Int))×(List zT))⊕(Int×(List (List Int))×(List (zT))×Int))) (wT:Int) (yF:List (List Int)) (zG:Int) (zL:List zT):Option ((Int×(List (List Int))×(List zT))⊕(Int×(List (List Int))×(List (zT))×Int)) :=
  (bif decide (zG<(((zO).length:Nat):Int)) then (xG zO zG).bind fun zH =>
  (mN F yF zH).bind fun zP =>
  (bif (zP.2.2 != (0:Int)) then some (.inr ((0:Int),yE,yI,zP.2.2)) else
  (B5 F zL (⟨wT,zP.1⟩:zT)).bind fun z5 =>
  (bif decide (z5≥(0:Int)) then rec z5 zP.2.1 (zI (zG+(1:Int))) zL else
  (bif decide ((((zL).length:Nat):Int)≥(1000:Int)) then some (.inr ((0:Int),yE,yI,(6:Int))) else
  (need (((zL).length+(([(⟨wT,zP.1⟩:zT)]:List zT)).length) * 16≤140737488355328)).bind fun _ =>
  rec (((zL).length:Nat):Int) zP.2.1 (zI (zG+(1:Int))) (zL++([(⟨wT,zP.1⟩:zT)]:List zT))))) else
  some (.inl (wT,yF,zL)))
def rP (F:Nat) (yE:List (List Int)) (yI:List (zT)) (zO:List (List Int)):Nat→Int→(List (List Int))→Int→(List zT)→Option ((Int×(List (List Int))×(List zT))⊕(Int×(List (List Int))×(List (zT))×Int))
  | 0,_,_,_,_=>none
  | n+1,wT,yF,zG,zL=>BZ F yE yI zO (rP F yE yI zO n) wT yF zG zL
def oE (F:Nat) (yE:List (List Int)) (yI:List (zT)) (zO:List (List Int)):Option (Int×(List (List Int))×(List (zT))×Int) :=
  (o8 F zO).bind fun zA =>
  (bif (zA != (0:Int)) then some ((0:Int),yE,yI,zA) else
  (E3 yI).bind fun zJ =>
  (rP F yE yI zO F (-1:Int) yE (0:Int) zJ).bind fun (zC:(Int×(List (List Int))×(List zT))⊕(Int×(List (List Int))×(List (zT))×Int)) =>
  (match zC with
  | (.inl yD) =>
  some (yD.1,yD.2.1,yD.2.2,(0:Int))
  | (.inr xW) =>
  some xW))
def D1 (F:Nat) (yE:List (List Int)) (yI:List (zT)) (z7:xA):Option ((List (Int))×(List (List Int))×(List (zT))×Int) :=
  (cL F yE yI).bind fun zA =>
  (bif (zA != (0:Int)) then some ([],[],[],(1:Int)) else
  (fO F z7).bind fun zJ =>
  (bif (zJ != (0:Int)) then some ([],[],[],zJ) else
  (DQ z7.Kind).bind fun zP =>
  (u0 F [] z7.Kind).bind fun z5=>(u0 F z5 z7.At).bind fun zW =>
  (((bif zP.1 then (mN F yE z7.Name).bind fun yV =>
  (bif (yV.2.2 != (0:Int)) then some (.inr ([],[],[],yV.2.2)) else
  (u0 F zW yV.1).bind fun xB =>
  some (.inl (yV.2.1,xB))) else
  some (.inl (yE,zW))):Option (((List (List Int))×(List Int))⊕((List (Int))×(List (List Int))×(List (zT))×Int)))).bind fun (zC:((List (List Int))×(List Int))⊕((List (Int))×(List (List Int))×(List (zT))×Int)) =>
  (match zC with
  | (.inl yD) =>
  (((bif zP.2.1 then (u0 F yD.2 z7.N).bind fun yX =>
  some yX else
  some yD.2):Option (List Int))).bind fun (zR:(List Int)) =>
  (((bif zP.2.2.1 then (u0 F zR z7.M).bind fun yL =>
  some yL else
  some zR):Option (List Int))).bind fun (y5:(List Int)) =>
  (((bif zP.2.2.2 then (oE F yD.1 yI z7.Stack).bind fun xM =>
  (bif (xM.2.2.2 != (0:Int)) then some (.inr ([],[],[],xM.2.2.2)) else
  (u0 F y5 xM.1).bind fun v7 =>
  some (.inl (xM.2.1,xM.2.2.1,v7))) else
  some (.inl (yD.1,yI,y5))):Option (((List (List Int))×(List zT)×(List Int))⊕((List (Int))×(List (List Int))×(List (zT))×Int)))).bind fun (xX:((List (List Int))×(List zT)×(List Int))⊕((List (Int))×(List (List Int))×(List (zT))×Int)) =>
  (match xX with
  | (.inl kK) =>
  some (kK.2.2,kK.1,kK.2.1,(0:Int))
  | (.inr nZ) =>
  some nZ)
  | (.inr xW) =>
  some xW)))
def CC (F:Nat) (zO:List (Int)) (rec:Int→(List Int)→Option (List Int)) (zG:Int) (zL:List Int):Option (List Int) :=
  (bif decide (zG<(((zO).length:Nat):Int)) then (xG zO zG).bind fun zH =>
  (u0 F zL zH).bind fun zA =>
  rec (zI (zG+(1:Int))) zA else
  some zL)
def o6 (F:Nat) (zO:List (Int)):Nat→Int→(List Int)→Option (List Int)
  | 0,_,_=>none
  | n+1,zG,zL=>CC F zO (o6 F zO n) zG zL
def DG (F:Nat) (zO:List (Int)):Option (List (Int)) :=
  (o6 F zO F (0:Int) []).bind fun (zC:(List Int)) =>
  some zC
def DD (F:Nat) (zO:List (Int)) (rec:Int→(List Int)→Option (List Int)) (zG:Int) (zL:List Int):Option (List Int) :=
  (bif decide (zG<(((zO).length:Nat):Int)) then (xG zO zG).bind fun zH =>
  (u0 F zL zH).bind fun zA =>
  rec (zI (zG+(1:Int))) zA else
  some zL)
def rX (F:Nat) (zO:List (Int)):Nat→Int→(List Int)→Option (List Int)
  | 0,_,_=>none
  | n+1,zG,zL=>DD F zO (rX F zO n) zG zL
def fZ (F:Nat) (zE:List (Int)) (zO:List (Int)):Option (List (Int)) :=
  (rX F zO F (0:Int) zE).bind fun (zC:(List Int)) =>
  some zC
def BJ (F:Nat) (zK:zQ) (rec:(List (List Int))→(List zT)→Int→(List Int)→Option (((List (List Int))×(List zT)×(List Int))⊕((List (Int))×Int))) (yE:List (List Int)) (yI:List zT) (zG:Int) (zL:List Int):Option (((List (List Int))×(List zT)×(List Int))⊕((List (Int))×Int)) :=
  (bif decide (zG<(((zK.Events).length:Nat):Int)) then (xG zK.Events zG).bind fun zH =>
  (D1 F yE yI zH).bind fun zJ =>
  (bif (zJ.2.2.2 != (0:Int)) then some (.inr ([],zJ.2.2.2)) else
  (need (((zL).length+(zJ.1).length) * 1≤140737488355328)).bind fun _ =>
  rec zJ.2.1 zJ.2.2.1 (zI (zG+(1:Int))) (zL++zJ.1)) else
  some (.inl (yE,yI,zL)))
def rU (F:Nat) (zK:zQ):Nat→(List (List Int))→(List zT)→Int→(List Int)→Option (((List (List Int))×(List zT)×(List Int))⊕((List (Int))×Int))
  | 0,_,_,_,_=>none
  | n+1,yE,yI,zG,zL=>BJ F zK (rU F zK n) yE yI zG zL
def CZ (F:Nat) (yD:(List (List Int))×(List zT)×(List Int)) (rec:Int→(List Int)→Option (List Int)) (y8:Int) (zZ:List Int):Option (List Int) :=
  (bif decide (y8<(((yD.1).length:Nat):Int)) then (xG yD.1 y8).bind fun yA =>
  (oG F zZ yA).bind fun z5 =>
  rec (zI (y8+(1:Int))) z5 else
  some zZ)
def rI (F:Nat) (yD:(List (List Int))×(List zT)×(List Int)):Nat→Int→(List Int)→Option (List Int)
  | 0,_,_=>none
  | n+1,y8,zZ=>CZ F yD (rI F yD n) y8 zZ
def A6 (F:Nat) (yD:(List (List Int))×(List zT)×(List Int)) (rec:Int→(List Int)→Option (List Int)) (wS:Int) (yY:List Int):Option (List Int) :=
  (bif decide (wS<(((yD.2.1).length:Nat):Int)) then (xG yD.2.1 wS).bind fun xR =>
  (fZ F yY ([xR.c0,xR.c1]:List Int)).bind fun yV =>
  rec (zI (wS+(1:Int))) yV else
  some yY)
def r5 (F:Nat) (yD:(List (List Int))×(List zT)×(List Int)):Nat→Int→(List Int)→Option (List Int)
  | 0,_,_=>none
  | n+1,wS,yY=>A6 F yD (r5 F yD n) wS yY
def dU (F:Nat) (zK:zQ):Option ((List (Int))×Int) :=
  (fD F zK).bind fun zA =>
  (bif (zA != (0:Int)) then some ([],zA) else
  (rU F zK F [] [] (0:Int) []).bind fun (zC:((List (List Int))×(List zT)×(List Int))⊕((List (Int))×Int)) =>
  (match zC with
  | (.inl yD) =>
  (DG F ([zK.Thread,zK.Serial,zK.Lost,(((yD.1).length:Nat):Int)]:List Int)).bind fun zP =>
  (rI F yD F (0:Int) zP).bind fun (zR:(List Int)) =>
  (fZ F zR ([(((yD.2.1).length:Nat):Int)]:List Int)).bind fun zW =>
  (r5 F yD F (0:Int) zW).bind fun (y5:(List Int)) =>
  (fZ F y5 ([(((zK.Events).length:Nat):Int)]:List Int)).bind fun xB=>(need (((xB).length+(yD.2.2).length) * 1≤140737488355328)).bind fun _ =>
  some ((xB++yD.2.2),(0:Int))
  | (.inr xW) =>
  some xW))
def gE (F:Nat) (rec:Int→(List Int)→Int→Int→(List (List Int))→Option ((List Int)×Int×Int×(List (List Int)))) (yF:Int) (zB:List Int) (yK:Int) (yG:Int) (zL:List (List Int)):Option ((List Int)×Int×Int×(List (List Int))) :=
  (bif (decide (yF>(0:Int))&&(yG==(0:Int))) then (CD F (⟨zB,yK,yG⟩:uZ)).bind fun zW=>(need (((zL).length+(([zW.1]:List (List Int))).length) * 16≤140737488355328)).bind fun _ =>
  rec (zI (yF - (1:Int))) zW.2.b zW.2.used zW.2.fault (zL++([zW.1]:List (List Int))) else
  some (zB,yK,yG,zL))
def rD (F:Nat):Nat→Int→(List Int)→Int→Int→(List (List Int))→Option ((List Int)×Int×Int×(List (List Int)))
  | 0,_,_,_,_,_=>none
  | n+1,yF,zB,yK,yG,zL=>gE F (rD F n) yF zB yK yG zL
def fX (F:Nat) (rec:Int→(List Int)→Int→Int→(List zT)→Option ((List Int)×Int×Int×(List zT))) (jA:Int) (yC:List Int) (yS:Int) (xE:Int) (zZ:List zT):Option ((List Int)×Int×Int×(List zT)) :=
  (bif (decide (jA>(0:Int))&&(xE==(0:Int))) then (aK F (⟨yC,yS,xE⟩:uZ)).bind fun xB =>
  (aK F xB.2).bind fun yX=>(need (((zZ).length+(([(⟨xB.1,yX.1⟩:zT)]:List zT)).length) * 16≤140737488355328)).bind fun _ =>
  rec (zI (jA - (1:Int))) yX.2.b yX.2.used yX.2.fault (zZ++([(⟨xB.1,yX.1⟩:zT)]:List zT)) else
  some (yC,yS,xE,zZ))
def rY (F:Nat):Nat→Int→(List Int)→Int→Int→(List zT)→Option ((List Int)×Int×Int×(List zT))
  | 0,_,_,_,_,_=>none
  | n+1,jA,yC,yS,xE,zZ=>fX F (rY F n) jA yC yS xE zZ
def gY (F:Nat) (zE:List (Int)) (zC:((List Int)×Int×Int×(List (List Int)))) (zR:((List Int)×Int×Int×(List zT))) (rec:Int→Int→Int→(List xA)→Option (Int×Int×(List xA))) (bA:Int) (wU:Int) (w7:Int) (yY:List xA):Option (Int×Int×(List xA)) :=
  (bif (decide (bA>(0:Int))&&(w7==(0:Int))) then (need ((0:Int)≤wU∧wU≤(((zE).length:Nat):Int))).bind fun _=>(DU F zC.2.2.2 zR.2.2.2 (sub zE wU (((zE).length:Nat):Int))).bind fun v7 =>
  (need (((yY).length+(([v7.1]:List xA)).length) * 72≤140737488355328)).bind fun _ =>
  rec (zI (bA - (1:Int))) (zI (wU+v7.2.1)) v7.2.2 (yY++([v7.1]:List xA)) else
  some (wU,w7,yY))
def oN (F:Nat) (zE:List (Int)) (zC:((List Int)×Int×Int×(List (List Int)))) (zR:((List Int)×Int×Int×(List zT))):Nat→Int→Int→Int→(List xA)→Option (Int×Int×(List xA))
  | 0,_,_,_,_=>none
  | n+1,bA,wU,w7,yY=>gY F zE zC zR (oN F zE zC zR n) bA wU w7 yY
def BE (F:Nat) (zE:List (Int)):Option (zQ×Int×Int) :=
  (aK F (⟨zE,(0:Int),(0:Int)⟩:uZ)).bind fun zA =>
  (aK F zA.2).bind fun zJ =>
  (aK F zJ.2).bind fun zP =>
  (bJ F zP.2 (1000:Int)).bind fun z5 =>
  (rD F F z5.1 z5.2.b z5.2.used z5.2.fault []).bind fun (zC:((List Int)×Int×Int×(List (List Int)))) =>
  (bJ F (⟨zC.1,zC.2.1,zC.2.2.1⟩:uZ) (1000:Int)).bind fun yV =>
  (rY F F yV.1 yV.2.b yV.2.used yV.2.fault []).bind fun (zR:((List Int)×Int×Int×(List zT))) =>
  (((bif (zR.2.2.1==(0:Int)) then (cL F zC.2.2.2 zR.2.2.2).bind fun yL =>
  some yL else
  some zR.2.2.1):Option Int)).bind fun (y5:Int) =>
  (bJ F (⟨zR.1,zR.2.1,y5⟩:uZ) (1000:Int)).bind fun xM =>
  (oN F zE zC zR F xM.1 xM.2.used xM.2.fault []).bind fun (xX:(Int×Int×(List xA))) =>
  (((bif (xX.2.1==(0:Int)) then (fD F (⟨zA.1,zJ.1,zP.1,xX.2.2⟩:zQ)).bind fun vK =>
  some vK else
  some xX.2.1):Option Int)).bind fun (wZ:Int) =>
  (bif (wZ != (0:Int)) then some ((⟨(0:Int),(0:Int),(0:Int),[]⟩:zQ),(0:Int),wZ) else
  (dU F (⟨zA.1,zJ.1,zP.1,xX.2.2⟩:zQ)).bind fun jI =>
  ((bif (jI.2 != (0:Int)) then (some true) else ((need ((0:Int)≤xX.1∧xX.1≤(((zE).length:Nat):Int))).bind fun _=>(cW jI.1 (sub zE (0:Int) xX.1)).bind fun t4=>some (!t4)))).bind fun (zK:Bool) =>
  (bif zK then some ((⟨(0:Int),(0:Int),(0:Int),[]⟩:zQ),(0:Int),(10:Int)) else
  some ((⟨zA.1,zJ.1,zP.1,xX.2.2⟩:zQ),xX.1,(0:Int))))
def JE (jH:xJ) (zY:zQ):Option Bool :=
  some (jH.Id==zY.Thread)
def gP (F:Nat) (zF:List (xJ)) (zB:zQ) (rec:Int→Option (Unit⊕Int)) (zG:Int):Option (Unit⊕Int) :=
  (bif decide (zG<(((zF).length:Nat):Int)) then (xG zF zG).bind fun zH=>(JE zH zB).bind fun zA =>
  (bif zA then some (.inr zG) else
  rec (zI (zG+(1:Int)))) else
  some (.inl ()))
def CI (F:Nat) (zF:List (xJ)) (zB:zQ):Nat→Int→Option (Unit⊕Int)
  | 0,_=>none
  | n+1,zG=>gP F zF zB (CI F zF zB n) zG
def GP (F:Nat) (zF:List (xJ)) (zB:zQ):Option Int :=
  (CI F zF zB F (0:Int)).bind fun (zC:Unit⊕Int) =>
  (match zC with
  | (.inl yD) =>
  some (-1:Int)
  | (.inr xW) =>
  some xW)
def CU (F:Nat) (zF:List (xJ)) (zB:zQ):Option Bool :=
  (GP F zF zB).bind fun zA =>
  some (decide (zA≥(0:Int)))
def oA (F:Nat) (zB:yJ) (zK:zQ):Option (Int×yJ) :=
  (CU F zB.head.Threads zK).bind fun zA =>
  (bif !zA then some ((5:Int),zB) else
  ((bif (zK.Serial != (zI ((((vW ((zB.ends).getD []) zK.Thread).getD (⟨(0:Int),(0:Int)⟩:xU)).next)+zK.Lost))) then (some true) else ((xG zK.Events (0:Int)).bind fun zH=>some (decide (zH.At<(((vW ((zB.ends).getD []) zK.Thread).getD (⟨(0:Int),(0:Int)⟩:xU)).last)))))).bind fun (pC:Bool) =>
  (bif pC then some ((11:Int),zB) else
  (((bif (zB.ends).isNone then some [] else
  some ((zB.ends).getD [])):Option (List (Int×xU)))).bind fun (zC:(List (Int×xU))) =>
  (xG zK.Events (zI ((((zK.Events).length:Nat):Int) - (1:Int)))).bind fun yA=>(need ((zC).length<140737488355328)).bind fun _ =>
  (need (((zB.packets).length+(([zK]:List zQ)).length) * 48≤140737488355328)).bind fun _ =>
  some ((0:Int),(⟨zB.head,(zB.packets++([zK]:List zQ)),(some (x5 zC zK.Thread (⟨zI (zK.Serial+(((zK.Events).length:Nat):Int)),yA.At⟩:xU))),zI (zB.events+(((zK.Events).length:Nat):Int))⟩:yJ))))
def gZ (F:Nat) (zE:List (Int)) (rec:Bool→Bool→Int→(List xJ)→(List y7)→(List yP)→(Option (List (Int×xU)))→Int→Int→(List zQ)→(List xJ)→(List y7)→(Option (List (Int×xU)))→Int→(List yP)→(List zQ)→Option xZ) (kM:Bool) (n7:Bool) (wT:Int) (zB:List xJ) (yK:List y7) (yG:List yP) (yC:Option (List (Int×xU))) (yS:Int) (xE:Int) (zL:List zQ) (wU:List xJ) (w7:List y7) (wX:Option (List (Int×xU))) (v8:Int) (zZ:List yP) (yY:List zQ):Option xZ :=
  (need ((0:Int)≤wT∧wT≤(((zE).length:Nat):Int))).bind fun _=>(rV F (sub zE wT (((zE).length:Nat):Int))).bind fun zW =>
  (bif (zW.2.2==(0:Int)) then some (⟨(⟨(⟨zB,yK,yG⟩:zU),zL,yC,yS⟩:yJ),xE⟩:xZ) else
  (bif (zW.1==(83:Int)) then (D2 F zW.2.1).bind fun yV =>
  (need (((zZ).length+(([yV.1]:List yP)).length) * 40≤140737488355328)).bind fun _ =>
  ((bif !yV.2 then (some true) else (bif n7 then (some true) else ((lK F w7 (zZ++([yV.1]:List yP))).bind fun xB=>some (xB != (0:Int)))))).bind fun (pC:Bool) =>
  (bif pC then some (⟨(⟨(⟨zB,yK,yG⟩:zU),zL,yC,yS⟩:yJ),xE⟩:xZ) else
  rec true n7 (zI (wT+zW.2.2)) zB yK yG yC yS xE zL wU w7 wX v8 (zZ++([yV.1]:List yP)) yY) else
  (bif (zW.1==(80:Int)) then (BE F zW.2.1).bind fun yX =>
  ((bif (yX.2.2 != (0:Int)) then (some (true,wU,w7,wX,v8,zZ,yY)) else (bif (yX.2.1 != (((zW.2.1).length:Nat):Int)) then (some (true,wU,w7,wX,v8,zZ,yY)) else ((oA F (⟨(⟨wU,w7,zZ⟩:zU),yY,wX,v8⟩:yJ) yX.1).bind fun yL=>bif (yL.1 != (0:Int)) then (some (true,yL.2.head.Threads,yL.2.head.Domains,yL.2.ends,yL.2.events,yL.2.head.Snaps,yL.2.packets)) else (some (decide (yL.2.events>(20000:Int)),yL.2.head.Threads,yL.2.head.Domains,yL.2.ends,yL.2.events,yL.2.head.Snaps,yL.2.packets)))))).bind fun (qU:Bool×(List xJ)×(List y7)×(Option (List (Int×xU)))×Int×(List yP)×(List zQ)) =>
  (bif qU.1 then some (⟨(⟨(⟨zB,yK,yG⟩:zU),zL,yC,yS⟩:yJ),xE⟩:xZ) else
  rec true true (zI (wT+zW.2.2)) zB yK yG yC yS xE zL qU.2.1 qU.2.2.1 qU.2.2.2.1 qU.2.2.2.2.1 qU.2.2.2.2.2.1 qU.2.2.2.2.2.2) else
  (bif (zW.1==(70:Int)) then (bif (decide ((((zW.2.1).length:Nat):Int)>(0:Int))||!kM) then some (⟨(⟨(⟨zB,yK,yG⟩:zU),zL,yC,yS⟩:yJ),xE⟩:xZ) else
  (oK (⟨(⟨wU,w7,zZ⟩:zU),yY,wX,v8⟩:yJ)).bind fun xM =>
  rec false false (zI (wT+zW.2.2)) wU w7 zZ wX v8 (zI (wT+zW.2.2)) yY xM.head.Threads xM.head.Domains xM.ends xM.events xM.head.Snaps xM.packets) else
  some (⟨(⟨(⟨zB,yK,yG⟩:zU),zL,yC,yS⟩:yJ),xE⟩:xZ)))))
def o9 (F:Nat) (zE:List (Int)):Nat→Bool→Bool→Int→(List xJ)→(List y7)→(List yP)→(Option (List (Int×xU)))→Int→Int→(List zQ)→(List xJ)→(List y7)→(Option (List (Int×xU)))→Int→(List yP)→(List zQ)→Option xZ
  | 0,_,_,_,_,_,_,_,_,_,_,_,_,_,_,_,_=>none
  | n+1,kM,n7,wT,zB,yK,yG,yC,yS,xE,zL,wU,w7,wX,v8,zZ,yY=>gZ F zE (o9 F zE n) kM n7 wT zB yK yG yC yS xE zL wU w7 wX v8 zZ yY
def dJ (F:Nat) (zE:List (Int)):Option xZ :=
  (rV F zE).bind fun zA =>
  (AY F zA.2.1).bind fun zJ =>
  ((bif (zA.2.2==(0:Int)) then (some true) else (bif (zA.1 != (72:Int)) then (some true) else (bif !zJ.2 then (some true) else ((iB F zJ.1).bind fun zP=>some (zP != (0:Int))))))).bind fun (zK:Bool) =>
  (bif zK then some (⟨(⟨(⟨[],[],[]⟩:zU),[],none,(0:Int)⟩:yJ),(0:Int)⟩:xZ) else
  (oK (⟨zJ.1,[],none,(0:Int)⟩:yJ)).bind fun z5 =>
  (o9 F zE F false false zA.2.2 zJ.1.Threads zJ.1.Domains zJ.1.Snaps none (0:Int) zA.2.2 [] z5.head.Threads z5.head.Domains z5.ends z5.events z5.head.Snaps z5.packets).bind fun (zC:xZ) =>
  some zC)
def d8 (F:Nat) (zE:List (Int)):Option (zU×(List (zQ))×Int) :=
  (dJ F zE).bind fun zA =>
  some (zA.done.head,zA.done.packets,zA.used)
def gX (F:Nat) (zY:zU) (zE:zU) (rec:Int→Option (Unit⊕Bool)) (xF:Int):Option (Unit⊕Bool) :=
  (bif decide (xF<(((zY.Threads).length:Nat):Int)) then (xG zY.Threads xF).bind fun zH=>(xG zE.Threads xF).bind fun yA =>
  (bif (!(decide (zH=yA))) then some (.inr false) else
  rec (zI (xF+(1:Int)))) else
  some (.inl ()))
def AX (F:Nat) (zY:zU) (zE:zU):Nat→Int→Option (Unit⊕Bool)
  | 0,_=>none
  | n+1,xF=>gX F zY zE (AX F zY zE n) xF
def lO (F:Nat) (zY:zU) (zE:zU) (rec:Int→Option (Unit⊕Bool)) (qJ:Int):Option (Unit⊕Bool) :=
  (bif decide (qJ<(((zY.Domains).length:Nat):Int)) then (xG zY.Domains qJ).bind fun xR=>(xG zE.Domains qJ).bind fun v9 =>
  (bif (!(decide (xR=v9))) then some (.inr false) else
  rec (zI (qJ+(1:Int)))) else
  some (.inl ()))
def BF (F:Nat) (zY:zU) (zE:zU):Nat→Int→Option (Unit⊕Bool)
  | 0,_=>none
  | n+1,qJ=>lO F zY zE (BF F zY zE n) qJ
def g6 (F:Nat) (zY:zU) (zE:zU) (rec:Int→Option (Unit⊕Bool)) (aM:Int):Option (Unit⊕Bool) :=
  (bif decide (aM<(((zY.Snaps).length:Nat):Int)) then (xG zY.Snaps aM).bind fun uK=>(xG zE.Snaps aM).bind fun n6 =>
  (bif (!(decide (uK=n6))) then some (.inr false) else
  rec (zI (aM+(1:Int)))) else
  some (.inl ()))
def BK (F:Nat) (zY:zU) (zE:zU):Nat→Int→Option (Unit⊕Bool)
  | 0,_=>none
  | n+1,aM=>g6 F zY zE (BK F zY zE n) aM
def m8 (F:Nat) (zY:zU) (zE:zU):Option Bool :=
  (bif (((((zY.Threads).length:Nat):Int) != (((zE.Threads).length:Nat):Int))||(((((zY.Domains).length:Nat):Int) != (((zE.Domains).length:Nat):Int))||((((zY.Snaps).length:Nat):Int) != (((zE.Snaps).length:Nat):Int)))) then some false else
  (AX F zY zE F (0:Int)).bind fun (zC:Unit⊕Bool) =>
  (match zC with
  | (.inl yD) =>
  (BF F zY zE F (0:Int)).bind fun (zR:Unit⊕Bool) =>
  (match zR with
  | (.inl kK) =>
  (BK F zY zE F (0:Int)).bind fun (y5:Unit⊕Bool) =>
  (match y5 with
  | (.inl q_5) =>
  some true
  | (.inr q_6) =>
  some q_6)
  | (.inr nZ) =>
  some nZ)
  | (.inr xW) =>
  some xW))
def GC (fP:Int) (wT:Int):Option zQ :=
  some (⟨(1:Int),fP,(0:Int),([(⟨wT,(3:Int),([97]:List Int),(0:Int),(0:Int),[]⟩:xA)]:List xA)⟩:zQ)
def A4 (F:Nat) (vL:List (yP)) (rec:Int→(List (List (Int)))→Option (List (List (Int)))) (zG:Int) (zL:List (List (Int))):Option (List (List (Int))) :=
  (bif decide (zG<(((vL).length:Nat):Int)) then (xG vL zG).bind fun zH =>
  (iO F [] zH).bind fun zA=>(dB F (83:Int) zA).bind fun zJ=>(need (((zL).length+(([zJ]:List (List (Int)))).length) * 24≤140737488355328)).bind fun _ =>
  rec (zI (zG+(1:Int))) (zL++([zJ]:List (List (Int)))) else
  some zL)
def AN (F:Nat) (vL:List (yP)):Nat→Int→(List (List (Int)))→Option (List (List (Int)))
  | 0,_,_=>none
  | n+1,zG,zL=>A4 F vL (AN F vL n) zG zL
def DF (F:Nat) (zO:List (zQ)) (rec:Int→(List (List (Int)))→Option (List (List (Int)))) (y8:Int) (zZ:List (List (Int))):Option (List (List (Int))) :=
  (bif decide (y8<(((zO).length:Nat):Int)) then (xG zO y8).bind fun yA =>
  (dU F yA).bind fun zP =>
  (dB F (80:Int) zP.1).bind fun z5=>(need (((zZ).length+(([z5]:List (List (Int)))).length) * 24≤140737488355328)).bind fun _ =>
  rec (zI (y8+(1:Int))) (zZ++([z5]:List (List (Int)))) else
  some zZ)
def A2 (F:Nat) (zO:List (zQ)):Nat→Int→(List (List (Int)))→Option (List (List (Int)))
  | 0,_,_=>none
  | n+1,y8,zZ=>DF F zO (A2 F zO n) y8 zZ
def D8 (F:Nat) (zR:(List (List (Int)))) (zW:(List (Int))) (rec:Int→Int→Option Int) (x9:Int) (wS:Int):Option Int :=
  (bif decide (wS<((((zR++([zW]:List (List (Int))))).length:Nat):Int)) then (xG (zR++([zW]:List (List (Int)))) wS).bind fun xR =>
  rec (zI (x9+(((xR).length:Nat):Int))) (zI (wS+(1:Int))) else
  some x9)
def AD (F:Nat) (zR:(List (List (Int)))) (zW:(List (Int))):Nat→Int→Int→Option Int
  | 0,_,_=>none
  | n+1,x9,wS=>D8 F zR zW (AD F zR zW n) x9 wS
def C4 (F:Nat) (vL:List (yP)) (zO:List (zQ)):Option ((List (List (Int)))×Int) :=
  (AN F vL F (0:Int) []).bind fun (zC:(List (List (Int)))) =>
  (A2 F zO F (0:Int) zC).bind fun (zR:(List (List (Int)))) =>
  (dB F (70:Int) []).bind fun zW=>(need (((zR).length+(([zW]:List (List (Int)))).length) * 24≤140737488355328)).bind fun _ =>
  (AD F zR zW F (0:Int) (0:Int)).bind fun (y5:Int) =>
  some ((zR++([zW]:List (List (Int)))),y5)
abbrev zY0:Type:=((List xJ)×(List y7)×(Option (List (Int×xU)))×Int×(List yP)×(List zQ))
def B1 (F:Nat) (zO:List (zQ)) (rec:Int→(List xJ)→(List y7)→(Option (List (Int×xU)))→Int→(List yP)→(List zQ)→Option (zY0⊕(z9×Int))) (zG:Int) (zB:List xJ) (yK:List y7) (yG:Option (List (Int×xU))) (yC:Int) (zL:List yP) (zZ:List zQ):Option (zY0⊕(z9×Int)) :=
  (bif decide (zG<(((zO).length:Nat):Int)) then (xG zO zG).bind fun zH =>
  (fD F zH).bind fun zW =>
  (bif (zW != (0:Int)) then some (.inr ((⟨(0:Int),[],(0:Int),(0:Int),false⟩:z9),zW)) else
  (oA F (⟨(⟨zB,yK,zL⟩:zU),zZ,yG,yC⟩:yJ) zH).bind fun yV =>
  (bif (yV.1 != (0:Int)) then some (.inr ((⟨(0:Int),[],(0:Int),(0:Int),false⟩:z9),yV.1)) else
  (dU F zH).bind fun xB =>
  (bif (xB.2 != (0:Int)) then some (.inr ((⟨(0:Int),[],(0:Int),(0:Int),false⟩:z9),xB.2)) else
  rec (zI (zG+(1:Int))) yV.2.head.Threads yV.2.head.Domains yV.2.ends yV.2.events yV.2.head.Snaps yV.2.packets))) else
  some (.inl (zB,yK,yG,yC,zL,zZ)))
def CA (F:Nat) (zO:List (zQ)):Nat→Int→(List xJ)→(List y7)→(Option (List (Int×xU)))→Int→(List yP)→(List zQ)→Option (zY0⊕(z9×Int))
  | 0,_,_,_,_,_,_,_=>none
  | n+1,zG,zB,yK,yG,yC,zL,zZ=>B1 F zO (CA F zO n) zG zB yK yG yC zL zZ
def iV (F:Nat) (zN:z9) (vL:List (yP)) (zO:List (zQ)):Option (z9×Int) :=
  (cJ zN).bind fun zA =>
  (bif (zA != (0:Int)) then some ((⟨(0:Int),[],(0:Int),(0:Int),false⟩:z9),zA) else
  (bif zN.Down then some (zN,(19:Int)) else
  (dJ F zN.Data).bind fun zJ =>
  (bif ((zJ.used==(0:Int))||(zJ.used != (((zN.Data).length:Nat):Int))) then some ((⟨(0:Int),[],(0:Int),(0:Int),false⟩:z9),(18:Int)) else
  (bif ((zI ((((vL).length:Nat):Int)+(((zO).length:Nat):Int)))==(0:Int)) then some (zN,(0:Int)) else
  (r6 zJ.done.head.Snaps).bind fun zP=>(need (((zP).length+(vL).length) * 40≤140737488355328)).bind fun _ =>
  (lK F zJ.done.head.Domains (zP++vL)).bind fun z5 =>
  (bif (z5 != (0:Int)) then some ((⟨(0:Int),[],(0:Int),(0:Int),false⟩:z9),z5) else
  (CA F zO F (0:Int) zJ.done.head.Threads zJ.done.head.Domains zJ.done.ends zJ.done.events (zP++vL) zJ.done.packets).bind fun (zC:zY0⊕(z9×Int)) =>
  (match zC with
  | (.inl yD) =>
  (bif decide (yD.2.2.2.1>(20000:Int)) then some ((⟨(0:Int),[],(0:Int),(0:Int),false⟩:z9),(7:Int)) else
  (C4 F vL zO).bind fun yX =>
  (bif decide ((zI ((((zN.Data).length:Nat):Int)+yX.2))>zN.Size) then some ((⟨(0:Int),[],(0:Int),(0:Int),false⟩:z9),(6:Int)) else
  (mK F zN yX.1).bind fun yL =>
  some (yL.1,yL.2)))
  | (.inr xW) =>
  some xW))))))
def N5 (zN:z9) (yF:Int):Option (z9×Int) :=
  (bM zN).bind fun zA =>
  (bif (zA.2 != (0:Int)) then some (zA.1,zA.2) else
  (bif (decide (yF<(0:Int))||decide (yF>(1048576:Int))) then some ((⟨(0:Int),[],(0:Int),(0:Int),false⟩:z9),(2:Int)) else
  some ((⟨zA.1.Size,zA.1.Data,zA.1.Durable,yF,zA.1.Down⟩:z9),(0:Int))))
def M8 (zN:z9) (fQ:Int):Option z9 :=
  (cJ zN).bind fun zA =>
  (bif (zA != (0:Int)) then some zN else
  (((bif decide (fQ<(zI ((((zN.Data).length:Nat):Int) - zN.Durable))) then some (zI (zN.Durable+(mU fQ (0:Int)))) else
  some (((zN.Data).length:Nat):Int)):Option Int)).bind fun (zC:Int) =>
  (need ((0:Int)≤zC∧zC≤(((zN.Data).length:Nat):Int))).bind fun _=>(CF (sub zN.Data (0:Int) zC)).bind fun zJ =>
  some (⟨zN.Size,zJ,zC,(-1:Int),false⟩:z9))
def J5 (zN:z9) (yF:Int):Option (z9×Int) :=
  (bM zN).bind fun zA =>
  (bif (zA.2 != (0:Int)) then some (zA.1,zA.2) else
  (bif (decide (yF<(0:Int))||decide (yF>(((zA.1.Data).length:Nat):Int))) then some ((⟨(0:Int),[],(0:Int),(0:Int),false⟩:z9),(2:Int)) else
  (need ((0:Int)≤yF∧yF≤(((zA.1.Data).length:Nat):Int))).bind fun _ =>
  some ((⟨zA.1.Size,sub zA.1.Data (0:Int) yF,fL zA.1.Durable yF,zA.1.Left,zA.1.Down⟩:z9),(0:Int))))
def M2 (F:Nat) (zN:z9):Option (z9×Int) :=
  (cJ zN).bind fun zA =>
  (bif (zA != (0:Int)) then some ((⟨(0:Int),[],(0:Int),(0:Int),false⟩:z9),zA) else
  (bif zN.Down then some (zN,(19:Int)) else
  (dJ F zN.Data).bind fun zJ =>
  (bif (zJ.used==(0:Int)) then some ((⟨(0:Int),[],(0:Int),(0:Int),false⟩:z9),(10:Int)) else
  (J5 zN zJ.used).bind fun zP =>
  (bif (zP.2 != (0:Int)) then some (zP.1,zP.2) else
  (mL zP.1).bind fun z5 =>
  some (z5.1,z5.2)))))
def d9 (F:Nat):Option Bool :=
  (C5 (1000:Int)).bind fun zA =>
  (HX ).bind fun zJ=>(r9 F zA.1 zJ).bind fun zP =>
  (d8 F zP.1.Data).bind fun z5 =>
  ((bif (zA.2 != (0:Int)) then (some true) else (bif (zP.2 != (0:Int)) then (some true) else ((HX ).bind fun zW=>(m8 F z5.1 zW).bind fun yV=>bif !yV then (some true) else (bif ((((z5.2.1).length:Nat):Int) != (0:Int)) then (some true) else (bif (z5.2.2 != (((zP.1.Data).length:Nat):Int)) then (some true) else (some (z5.2.2==(0:Int))))))))).bind fun (zK:Bool) =>
  (bif zK then some false else
  (need ((0:Int)≤(zI (z5.2.2 - (1:Int)))∧(zI (z5.2.2 - (1:Int)))≤(((zP.1.Data).length:Nat):Int))).bind fun _=>(d8 F (sub zP.1.Data (0:Int) (zI (z5.2.2 - (1:Int))))).bind fun xB =>
  (GC (0:Int) (5:Int)).bind fun yX=>(iV F zP.1 [] ([yX]:List zQ)).bind fun yL =>
  (bif ((yL.2 != (0:Int))||(xB.2.2 != (0:Int))) then some false else
  (N5 zP.1 (zI ((zI ((((yL.1.Data).length:Nat):Int) - z5.2.2)) - (1:Int)))).bind fun xM =>
  (GC (0:Int) (5:Int)).bind fun v7=>(iV F xM.1 [] ([v7]:List zQ)).bind fun vK =>
  (M8 vK.1 (1000:Int)).bind fun jI=>(M2 F jI).bind fun t4 =>
  (dB F (70:Int) []).bind fun jY =>
  ((bif (vK.2==(19:Int)) then (bif (t4.2==(0:Int)) then (bif ((((t4.1.Data).length:Nat):Int)==z5.2.2) then (bif decide ((((jY).length:Nat):Int)>(2:Int)) then ((xG jY (0:Int)).bind fun zH=>bif (zH==(70:Int)) then ((xG jY (1:Int)).bind fun yA=>some (yA==(0:Int))) else (some false)) else (some false)) else (some false)) else (some false)) else (some false))).bind fun (pC:Bool) =>
  some pC))
def gG (F:Nat) (zY:List (List Int)) (zE:List (List Int)) (rec:Int→Option (Unit⊕Bool)) (xF:Int):Option (Unit⊕Bool) :=
  (bif decide (xF<(((zY).length:Nat):Int)) then (xG zY xF).bind fun zH=>(xG zE xF).bind fun yA =>
  (bif !(zH==yA) then some (.inr false) else
  rec (zI (xF+(1:Int)))) else
  some (.inl ()))
def AK (F:Nat) (zY:List (List Int)) (zE:List (List Int)):Nat→Int→Option (Unit⊕Bool)
  | 0,_=>none
  | n+1,xF=>gG F zY zE (AK F zY zE n) xF
def A9 (F:Nat) (zY:List (List Int)) (zE:List (List Int)):Option Bool :=
  (bif ((((zY).length:Nat):Int) != (((zE).length:Nat):Int)) then some false else
  (AK F zY zE F (0:Int)).bind fun (zC:Unit⊕Bool) =>
  (match zC with
  | (.inl yD) =>
  some true
  | (.inr xW) =>
  some xW))
def DP (F:Nat) (zY:xA) (zE:xA):Option Bool :=
  ((bif (zY.At==zE.At) then (bif (zY.Kind==zE.Kind) then (bif (zY.Name==zE.Name) then (bif (zY.N==zE.N) then (bif (zY.M==zE.M) then ((A9 F zY.Stack zE.Stack).bind fun zA=>some zA) else (some false)) else (some false)) else (some false)) else (some false)) else (some false))).bind fun (zK:Bool) =>
  some zK
def lC (F:Nat) (zY:zQ) (zE:zQ) (rec:Int→Option (Unit⊕Bool)) (xF:Int):Option (Unit⊕Bool) :=
  (bif decide (xF<(((zY.Events).length:Nat):Int)) then (xG zY.Events xF).bind fun zH=>(xG zE.Events xF).bind fun yA=>(DP F zH yA).bind fun zA =>
  (bif !zA then some (.inr false) else
  rec (zI (xF+(1:Int)))) else
  some (.inl ()))
def BA (F:Nat) (zY:zQ) (zE:zQ):Nat→Int→Option (Unit⊕Bool)
  | 0,_=>none
  | n+1,xF=>lC F zY zE (BA F zY zE n) xF
def AB (F:Nat) (zY:zQ) (zE:zQ):Option Bool :=
  (bif ((zY.Thread != zE.Thread)||((zY.Serial != zE.Serial)||((zY.Lost != zE.Lost)||((((zY.Events).length:Nat):Int) != (((zE.Events).length:Nat):Int))))) then some false else
  (BA F zY zE F (0:Int)).bind fun (zC:Unit⊕Bool) =>
  (match zC with
  | (.inl yD) =>
  some true
  | (.inr xW) =>
  some xW))
def lG (F:Nat) (zY:List (zQ)) (zE:List (zQ)) (rec:Int→Option (Unit⊕Bool)) (xF:Int):Option (Unit⊕Bool) :=
  (bif decide (xF<(((zY).length:Nat):Int)) then (xG zY xF).bind fun zH=>(xG zE xF).bind fun yA=>(AB F zH yA).bind fun zA =>
  (bif !zA then some (.inr false) else
  rec (zI (xF+(1:Int)))) else
  some (.inl ()))
def B4 (F:Nat) (zY:List (zQ)) (zE:List (zQ)):Nat→Int→Option (Unit⊕Bool)
  | 0,_=>none
  | n+1,xF=>lG F zY zE (B4 F zY zE n) xF
def m7 (F:Nat) (zY:List (zQ)) (zE:List (zQ)):Option Bool :=
  (bif ((((zY).length:Nat):Int) != (((zE).length:Nat):Int)) then some false else
  (B4 F zY zE F (0:Int)).bind fun (zC:Unit⊕Bool) =>
  (match zC with
  | (.inl yD) =>
  some true
  | (.inr xW) =>
  some xW))
abbrev zY1:Type:=(Int×(List Int)×Int×Int×Bool×(List yP)×(List zQ)×(List Int)×(List Int))
def DC (F:Nat) (zO:List (tH)) (rec:Int→Int→(List Int)→Int→Int→Bool→(List yP)→(List zQ)→(List Int)→(List Int)→Option zY1) (zG:Int) (zB:Int) (yK:List Int) (yG:Int) (yC:Int) (yS:Bool) (zL:List yP) (zZ:List zQ) (yY:List Int) (t8:List Int):Option zY1 :=
  (bif decide (zG<(((zO).length:Nat):Int)) then (xG zO zG).bind fun zH =>
  (iV F (⟨zB,yK,yG,yC,yS⟩:z9) zH.Snaps zH.Packets).bind fun xB =>
  (bif (xB.2 != (0:Int)) then rec (zI (zG+(1:Int))) zB yK yG yC yS zL zZ yY t8 else
  (need (((zL).length+(zH.Snaps).length) * 40≤140737488355328)).bind fun _ =>
  (need (((zZ).length+(zH.Packets).length) * 48≤140737488355328)).bind fun _ =>
  (need (((yY).length+(([(((xB.1.Data).length:Nat):Int)]:List Int)).length) * 8≤140737488355328)).bind fun _=>(need (((t8).length+(([((((zZ++zH.Packets)).length:Nat):Int)]:List Int)).length) * 8≤140737488355328)).bind fun _ =>
  rec (zI (zG+(1:Int))) xB.1.Size xB.1.Data xB.1.Durable xB.1.Left xB.1.Down (zL++zH.Snaps) (zZ++zH.Packets) (yY++([(((xB.1.Data).length:Nat):Int)]:List Int)) (t8++([((((zZ++zH.Packets)).length:Nat):Int)]:List Int))) else
  some (zB,yK,yG,yC,yS,zL,zZ,yY,t8))
def EA (F:Nat) (zO:List (tH)):Nat→Int→Int→(List Int)→Int→Int→Bool→(List yP)→(List zQ)→(List Int)→(List Int)→Option zY1
  | 0,_,_,_,_,_,_,_,_,_,_=>none
  | n+1,zG,zB,yK,yG,yC,yS,zL,zZ,yY,t8=>DC F zO (EA F zO n) zG zB yK yG yC yS zL zZ yY t8
def D9 (F:Nat) (uQ:Int) (zC:zY1) (rec:Int→Int→Option Int) (vH:Int) (y8:Int):Option Int :=
  (bif decide (y8<(((zC.2.2.2.2.2.2.2.1).length:Nat):Int)) then (xG zC.2.2.2.2.2.2.2.1 y8).bind fun xR =>
  (bif decide (xR≤uQ) then rec y8 (zI (y8+(1:Int))) else
  rec vH (zI (y8+(1:Int)))) else
  some vH)
def BG (F:Nat) (uQ:Int) (zC:zY1):Nat→Int→Int→Option Int
  | 0,_,_=>none
  | n+1,vH,y8=>D9 F uQ zC (BG F uQ zC n) vH y8
def gQ (F:Nat) (zM:zU) (zO:List (tH)) (uQ:Int):Option Bool :=
  (((AA (⟨(0:Int),[],(0:Int),(0:Int),false⟩:z9) zM).bind fun zA=>bif !zA then (some true) else ((CT F zO).bind fun zJ=>some (!zJ)))).bind fun (zK:Bool) =>
  (bif zK then (d9 F).bind fun zP =>
  some zP else
  (C5 (60000:Int)).bind fun z5 =>
  (r9 F z5.1 zM).bind fun zW =>
  (bif (zW.2 != (0:Int)) then (d9 F).bind fun yV =>
  some yV else
  (need (((([]:List yP)).length+(zM.Snaps).length) * 40≤140737488355328)).bind fun _ =>
  (EA F zO F (0:Int) zW.1.Size zW.1.Data zW.1.Durable zW.1.Left zW.1.Down ([]++zM.Snaps) [] ([(((zW.1.Data).length:Nat):Int)]:List Int) ([(0:Int)]:List Int)).bind fun (zC:zY1) =>
  (d8 F zC.2.1).bind fun yX =>
  ((bif (yX.2.2 != (((zC.2.1).length:Nat):Int)) then (some true) else ((m8 F yX.1 (⟨zM.Threads,zM.Domains,zC.2.2.2.2.2.1⟩:zU)).bind fun yL=>bif !yL then (some true) else ((m7 F yX.2.1 zC.2.2.2.2.2.2.1).bind fun xM=>some (!xM))))).bind fun (pC:Bool) =>
  (bif pC then some false else
  (bif (decide (uQ<(0:Int))||decide (uQ>(((zC.2.1).length:Nat):Int))) then (d9 F).bind fun v7 =>
  some v7 else
  (need ((0:Int)≤uQ∧uQ≤(((zC.2.1).length:Nat):Int))).bind fun _=>(d8 F (sub zC.2.1 (0:Int) uQ)).bind fun vK =>
  (xG zC.2.2.2.2.2.2.2.1 (0:Int)).bind fun yA =>
  (bif decide (uQ<yA) then ((bif (vK.2.2==(0:Int)) then (bif ((((vK.2.1).length:Nat):Int)==(0:Int)) then ((d9 F).bind fun jI=>some jI) else (some false)) else (some false))).bind fun (qU:Bool) =>
  some qU else
  (BG F uQ zC F (0:Int) (0:Int)).bind fun (zR:Int) =>
  (((xG zC.2.2.2.2.2.2.2.1 zR).bind fun v9=>bif (vK.2.2==v9) then ((xG zC.2.2.2.2.2.2.2.2 zR).bind fun uK=>(need ((0:Int)≤uK∧uK≤(((zC.2.2.2.2.2.2.1).length:Nat):Int))).bind fun _=>(need (0≤((uK).toNat)∧((uK).toNat)≤(zC.2.2.2.2.2.2.1).length)).bind fun _=>(m7 F vK.2.1 (((zC.2.2.2.2.2.2.1).take ((uK).toNat)).drop 0)).bind fun t4=>bif t4 then ((d9 F).bind fun jY=>some jY) else (some false)) else (some false))).bind fun (p_4:Bool) =>
  some p_4)))))
abbrev zMb:List Int→AV:=fun l=>AV.sl false 1 (l.map (AV.int .u8))
abbrev zL0:z9:=(⟨(0:Int),[],(0:Int),(0:Int),false⟩:z9)
abbrev zL1:yJ:=(⟨(⟨[],[],[]⟩:zU),[],none,(0:Int)⟩:yJ)
abbrev zL2:xA:=(⟨(0:Int),(0:Int),([]:List Int),(0:Int),(0:Int),[]⟩:xA)
abbrev zL3:xZ:=(⟨(⟨(⟨[],[],[]⟩:zU),[],none,(0:Int)⟩:yJ),(0:Int)⟩:xZ)
abbrev zL4:wO:=(⟨([]:List Int),false,false,false,false,(0:Int),(0:Int),(0:Int),(0:Int)⟩:wO)
abbrev zL5:wO:=(⟨([101,110,100]:List Int),false,false,false,false,(0:Int),(0:Int),(0:Int),(0:Int)⟩:wO)
abbrev zL6:wO:=(⟨([114,117,110]:List Int),false,true,false,false,(0:Int),(63:Int),(0:Int),(0:Int)⟩:wO)
abbrev zL7:wO:=(⟨([109,97,114,107]:List Int),true,false,false,false,(0:Int),(0:Int),(0:Int),(0:Int)⟩:wO)
abbrev zL8:wO:=(⟨([98,101,103,105,110]:List Int),true,false,false,false,(0:Int),(0:Int),(0:Int),(0:Int)⟩:wO)
abbrev zL9:wO:=(⟨([114,101,99,118]:List Int),false,true,false,false,(0:Int),(1000000000000000:Int),(0:Int),(0:Int)⟩:wO)
abbrev GA:wO:=(⟨([115,116,111,112]:List Int),false,true,true,false,(0:Int),(3:Int),(0:Int),(1000000000000000:Int)⟩:wO)
abbrev GQ:wO:=(⟨([119,97,107,101]:List Int),false,true,false,false,(0:Int),(1000000000000000:Int),(0:Int),(0:Int)⟩:wO)
abbrev GV:wO:=(⟨([115,101,110,100]:List Int),false,true,false,false,(0:Int),(1000000000000000:Int),(0:Int),(0:Int)⟩:wO)
abbrev G0:wO:=(⟨([102,114,101,101]:List Int),false,true,false,false,(0:Int),(1000000000000000:Int),(0:Int),(0:Int)⟩:wO)
abbrev EK:wO:=(⟨([115,97,109,112,108,101]:List Int),false,true,false,true,(1:Int),(1000000000000:Int),(0:Int),(0:Int)⟩:wO)
abbrev HU:wO:=(⟨([97,108,108,111,99]:List Int),false,true,true,true,(0:Int),(1000000000000000:Int),(1:Int),(1000000000000:Int)⟩:wO)
abbrev HG:wO:=(⟨([99,111,117,110,116]:List Int),true,true,false,false,(-1000000000000000:Int),(1000000000000000:Int),(0:Int),(0:Int)⟩:wO)
abbrev bR:yB:=Vb 67 [.nilsl,.nilsl,.own 1 0,.own 2 0,.fm true [],Ii 0,Ii 0]
abbrev cZ:yB:=Vb 89 [Ii 0,Ii 0,.str ([]:List Int),Ii 0,Ii 0,.nilsl]
abbrev qY:yB:=Vb 31 [Ii 0,.nilsl,Ii 0,Ii 0,.bool false]
abbrev p9:yB:=Vb 26 [.own 1 0,.own 2 0,.own 3 0]
abbrev j6:yB:=Vb 54 [Ii 0,Ii 0,Ii 0,.own 1 0]
abbrev zB0 (zN:z9) (zM:zU):Bool:=(decide ((lN (zN.Data))≤(4000:Int))&&(decide (zN.Size≤(20000:Int))&&(decide ((lN (zM.Threads))≤(70:Int))&&(decide ((lN (zM.Domains))≤(10:Int))&&decide ((lN (zM.Snaps))≤(20:Int))))))
abbrev zB1 (zN:z9):Bool:=(decide (zN.Size<(1:Int))||(decide (zN.Size>(1048576:Int))||(decide ((lN (zN.Data))>zN.Size)||(decide (zN.Durable<(0:Int))||(decide (zN.Durable>(lN (zN.Data)))||(decide (zN.Left<(-1:Int))||decide (zN.Left>(1048576:Int))))))))
end Go.Ab
