/- Printed: the typed Lean functions of the Go functions, or the proofs that the Go functions meet them. No conditions but those that the theorems name. -/
import Derived.Test.YtoeengmnmhhpgaaGreatA32
import Derived.Test.YtoeengmnmhhpgaaGreatA42
namespace Go.Ab
open Go
set_option linter.unusedVariables false
structure yD where
  Size:Int
  Data:List Int
  Durable:Int
  Left:Int
  Down:Bool
  deriving DecidableEq,Inhabited
def yM (s:yD):List AV:=[.int .i64 s.Size,.sl false 1 (List.map (AV.int .u8) s.Data),.int .i64 s.Durable,.int .i64 s.Left,.bool s.Down]
def xV (s:yD):AV:=.agg (yM s)
def Q7 (wV:Int):Option (yD×Int) :=
  (bif (decide (wV<1)||decide (wV>1048576)) then some ((⟨0,[],0,0,false⟩:yD),2) else
  some ((⟨wV,[],0,(-1),false⟩:yD),0))
structure xI where
  Id:Int
  Name:List Int
  Domain:Int
  deriving DecidableEq,Inhabited
def jZ (s:xI):List AV:=[.int .i64 s.Id,.str s.Name,.int .i64 s.Domain]
def yJ (s:xI):AV:=.agg (jZ s)
structure xA where
  Id:Int
  Ppm:Int
  deriving DecidableEq,Inhabited
def C5 (s:xA):List AV:=[.int .i64 s.Id,.int .i64 s.Ppm]
def yA (s:xA):AV:=.agg (C5 s)
structure CB where
  Lo:Int
  Hi:Int
  deriving DecidableEq,Inhabited
structure yZ where
  A:Int
  AtA:Int
  B:Int
  AtB:CB
  deriving DecidableEq,Inhabited
def pL (s:yZ):List AV:=[.int .i64 s.A,.int .i64 s.AtA,.int .i64 s.B,.int .i64 s.AtB.Lo,.int .i64 s.AtB.Hi]
def z9 (s:yZ):AV:=.agg (pL s)
structure yB where
  Threads:List xI
  Domains:List xA
  Snaps:List yZ
  deriving DecidableEq,Inhabited
def wL (s:yB):List AV:=[.sl false 3 (List.map yJ s.Threads),.sl false 2 (List.map yA s.Domains),.sl false 5 (List.map z9 s.Snaps)]
def qO (s:yB):AV:=.agg (wL s)
def OD:Option yB :=
  some (⟨[(⟨1,([116,49]:List Int),0⟩:xI)],[(⟨0,0⟩:xA)],[]⟩:yB)
def fJ (zG:yD):Option Int :=
  (bif (decide (zG.Size<1)||(decide (zG.Size>1048576)||(decide (((zG.Data.length:Nat):Int)>zG.Size)||(decide (zG.Durable<0)||(decide (zG.Durable>((zG.Data.length:Nat):Int))||(decide (zG.Left<(-1))||decide (zG.Left>1048576))))))) then some 2 else
  some 0)
def M2 (zL:List Int) (zB:Int):Option Int :=
  some (pD zL zB)
def bP (zL:List Int) (zB:Int):Option Int :=
  (M2 zL zB).bind fun zA =>
  some zA
def G4 (zB:Int):Option Bool :=
  ((bif decide (zB>=97) then (bif decide (zB<=122) then (some true) else (bif decide (zB>=65) then (bif decide (zB<=90) then (some true) else (bif decide (zB>=48) then (bif decide (zB<=57) then (some true) else ((bP ([95,46,58,47,60,62,36,42,126,45]:List Int) zB).bind fun zA=>some (decide (zA>=0)))) else ((bP ([95,46,58,47,60,62,36,42,126,45]:List Int) zB).bind fun zA=>some (decide (zA>=0))))) else (bif decide (zB>=48) then (bif decide (zB<=57) then (some true) else ((bP ([95,46,58,47,60,62,36,42,126,45]:List Int) zB).bind fun zA=>some (decide (zA>=0)))) else ((bP ([95,46,58,47,60,62,36,42,126,45]:List Int) zB).bind fun zA=>some (decide (zA>=0)))))) else (bif decide (zB>=65) then (bif decide (zB<=90) then (some true) else (bif decide (zB>=48) then (bif decide (zB<=57) then (some true) else ((bP ([95,46,58,47,60,62,36,42,126,45]:List Int) zB).bind fun zA=>some (decide (zA>=0)))) else ((bP ([95,46,58,47,60,62,36,42,126,45]:List Int) zB).bind fun zA=>some (decide (zA>=0))))) else (bif decide (zB>=48) then (bif decide (zB<=57) then (some true) else ((bP ([95,46,58,47,60,62,36,42,126,45]:List Int) zB).bind fun zA=>some (decide (zA>=0)))) else ((bP ([95,46,58,47,60,62,36,42,126,45]:List Int) zB).bind fun zA=>some (decide (zA>=(0:Int)))))))).bind fun (zN:Bool) =>
  some zN
def K6 (F:Nat) (zL:List Int) (rec:Int->Option (Unit⊕Int)) (zP:Int):Option (Unit⊕Int) :=
  (bif decide (zP<((zL.length:Nat):Int)) then (yX zL zP).bind fun zB=>(G4 zB).bind fun zA =>
  (bif !zA then some (.inr 3) else
  rec (zI (zP+1))) else
  some (.inl ()))
def KY (F:Nat) (zL:List Int):Nat->Int->Option (Unit⊕Int)
  | 0,_=>none
  | n+1,zP=>K6 F zL (KY F zL n) zP
def dY (F:Nat) (zL:List Int):Option Int :=
  (bif ((zL==([]:List Int))||decide (((zL.length:Nat):Int)>40)) then some 3 else
  (KY F zL F (0:Int)).bind fun (zE:Unit⊕Int) =>
  (match zE with
  | (.inl zX) =>
  some 0
  | (.inr xJ) =>
  some xJ))
def HL (F:Nat) (tO:xI):Option Int :=
  (bif (decide (tO.Id<0)||(decide (tO.Id>1000000000000000)||(decide (tO.Domain<0)||decide (tO.Domain>=8)))) then some 2 else
  (dY F tO.Name).bind fun zA =>
  some zA)
def OM (zH:xA) (y0:Int):Option Bool :=
  some (zH.Id==y0)
def oH (F:Nat) (zL:List xA) (zB:Int) (rec:Int->Option (Unit⊕Int)) (zP:Int):Option (Unit⊕Int) :=
  (bif decide (zP<((zL.length:Nat):Int)) then (yX zL zP).bind fun zH=>(OM zH zB).bind fun zA =>
  (bif zA then some (.inr zP) else
  rec (zI (zP+1))) else
  some (.inl ()))
def ED (F:Nat) (zL:List xA) (zB:Int):Nat->Int->Option (Unit⊕Int)
  | 0,_=>none
  | n+1,zP=>oH F zL zB (ED F zL zB n) zP
def JW (F:Nat) (zL:List xA) (zB:Int):Option Int :=
  (ED F zL zB F (0:Int)).bind fun (zE:Unit⊕Int) =>
  (match zE with
  | (.inl zX) =>
  some (-1)
  | (.inr xJ) =>
  some xJ)
def lS (F:Nat) (zG:List xA) (qL:Int):Option Int :=
  (JW F zG qL).bind fun zA =>
  some zA
def mY (F:Nat) (zG:List xA) (rec:Int->Option (Unit⊕Int)) (zP:Int):Option (Unit⊕Int) :=
  (bif decide (zP<((zG.length:Nat):Int)) then (yX zG zP).bind fun zH =>
  (bif (decide (zH.Id<0)||(decide (zH.Id>=8)||(decide (zH.Ppm<0)||decide (zH.Ppm>10000)))) then some (.inr 2) else
  (need (0<=zP/\zP<=((zG.length:Nat):Int))).bind fun _=>(lS F (sub zG 0 zP) zH.Id).bind fun zA =>
  (bif decide (zA>=0) then some (.inr 4) else
  rec (zI (zP+1)))) else
  some (.inl ()))
def DX (F:Nat) (zG:List xA):Nat->Int->Option (Unit⊕Int)
  | 0,_=>none
  | n+1,zP=>mY F zG (DX F zG n) zP
def HM (F:Nat) (zG:List xA):Option Int :=
  (DX F zG F (0:Int)).bind fun (zE:Unit⊕Int) =>
  (match zE with
  | (.inl zX) =>
  some 0
  | (.inr xJ) =>
  some xJ)
def C3 (z5:Int):Option Bool :=
  some (decide (z5>=0)&&decide (z5<=1000000000000))
def D1 (F:Nat) (zG:List xA) (zH:yZ):Option Int :=
  (lS F zG zH.A).bind fun zA =>
  (((bif decide (zA<0) then some (decide (zA<0)) else
  (lS F zG zH.B).bind fun zC =>
  some (decide (zC<0))):Option Bool)).bind fun (zE:Bool) =>
  (bif zE then some 5 else
  (bif (zH.A==zH.B) then some 1 else
  (C3 zH.AtA).bind fun zM =>
  (bif !zM then some 2 else
  (C3 zH.AtB.Lo).bind fun zT =>
  (bif !zT then some 2 else
  (C3 zH.AtB.Hi).bind fun zU =>
  (bif !zU then some 2 else
  (bif decide (zH.AtB.Lo>zH.AtB.Hi) then some 2 else
  some 0))))))
def oX (F:Nat) (zG:List xA) (zO:List yZ) (rec:Int->Option (Unit⊕Int)) (zP:Int):Option (Unit⊕Int) :=
  (bif decide (zP<((zO.length:Nat):Int)) then (yX zO zP).bind fun yO =>
  (D1 F zG yO).bind fun zC =>
  (bif (zC != 0) then some (.inr zC) else
  rec (zI (zP+1))) else
  some (.inl ()))
def G2 (F:Nat) (zG:List xA) (zO:List yZ):Nat->Int->Option (Unit⊕Int)
  | 0,_=>none
  | n+1,zP=>oX F zG zO (G2 F zG zO n) zP
def oQ (F:Nat) (zG:List xA) (zO:List yZ):Option Int :=
  (bif (((zG.length:Nat):Int)==0) then some 8 else
  (bif (decide (((zG.length:Nat):Int)>8)||decide (((zO.length:Nat):Int)>200)) then some 7 else
  (yX zG (0:Int)).bind fun zH =>
  (bif (!(decide (zH=(⟨0,0⟩:xA)))) then some 10 else
  (HM F zG).bind fun zA =>
  (bif (zA != 0) then some zA else
  (G2 F zG zO F (0:Int)).bind fun (zE:Unit⊕Int) =>
  (match zE with
  | (.inl zX) =>
  some 0
  | (.inr xJ) =>
  some xJ)))))
def OL (zG:xA) (y0:xI):Option Bool :=
  some (zG.Id==y0.Domain)
def o8 (F:Nat) (zL:List xA) (zB:xI) (rec:Int->Option (Unit⊕Int)) (zP:Int):Option (Unit⊕Int) :=
  (bif decide (zP<((zL.length:Nat):Int)) then (yX zL zP).bind fun zH=>(OL zH zB).bind fun zA =>
  (bif zA then some (.inr zP) else
  rec (zI (zP+1))) else
  some (.inl ()))
def EB (F:Nat) (zL:List xA) (zB:xI):Nat->Int->Option (Unit⊕Int)
  | 0,_=>none
  | n+1,zP=>o8 F zL zB (EB F zL zB n) zP
def G1 (F:Nat) (zL:List xA) (zB:xI):Option Int :=
  (EB F zL zB F (0:Int)).bind fun (zE:Unit⊕Int) =>
  (match zE with
  | (.inl zX) =>
  some (-1)
  | (.inr xJ) =>
  some xJ)
def L1 (F:Nat) (zL:List xA) (zB:xI):Option Bool :=
  (G1 F zL zB).bind fun zA =>
  some (decide (zA>=0))
def HI (F:Nat) (zJ:yB) (rec:Int->(List (Int×Bool))->Option (Unit⊕Int)) (zP:Int) (zK:List (Int×Bool)):Option (Unit⊕Int) :=
  (bif decide (zP<((zJ.Threads.length:Nat):Int)) then (yX zJ.Threads zP).bind fun zH =>
  (HL F zH).bind fun zA =>
  (bif (zA != 0) then some (.inr zA) else
  (bif ((uY zK zH.Id).getD false) then some (.inr 4) else
  (need (zK.length<140737488355328)).bind fun _ =>
  rec (zI (zP+1)) (w8 zK zH.Id true))) else
  some (.inl ()))
def C7 (F:Nat) (zJ:yB):Nat->Int->(List (Int×Bool))->Option (Unit⊕Int)
  | 0,_,_=>none
  | n+1,zP,zK=>HI F zJ (C7 F zJ n) zP zK
def oU (F:Nat) (zJ:yB) (rec:Int->Option (Unit⊕Int)) (wE:Int):Option (Unit⊕Int) :=
  (bif decide (wE<((zJ.Threads.length:Nat):Int)) then (yX zJ.Threads wE).bind fun yO =>
  (L1 F zJ.Domains yO).bind fun zM =>
  (bif !zM then some (.inr 5) else
  rec (zI (wE+1))) else
  some (.inl ()))
def AN (F:Nat) (zJ:yB):Nat->Int->Option (Unit⊕Int)
  | 0,_=>none
  | n+1,wE=>oU F zJ (AN F zJ n) wE
def rA (F:Nat) (zJ:yB):Option Int :=
  (bif (((zJ.Threads.length:Nat):Int)==0) then some 8 else
  (bif decide (((zJ.Threads.length:Nat):Int)>64) then some 7 else
  (C7 F zJ F 0 []).bind fun (zE:Unit⊕Int) =>
  (match zE with
  | (.inl zX) =>
  (oQ F zJ.Domains zJ.Snaps).bind fun zC =>
  (bif (zC != 0) then some zC else
  (AN F zJ F (0:Int)).bind fun (zR:Unit⊕Int) =>
  (match zR with
  | (.inl vQ) =>
  some 0
  | (.inr t3) =>
  some t3))
  | (.inr xJ) =>
  some xJ)))
def GV (z5:Int):Option Int :=
  some (tW .u64 (nV .u64 (v6 z5) 1) (v6 (jV .i64 z5 63)))
def oJ (F:Nat) (rec:Int->Int->(List Int)->Option (Int×(List Int))) (wV:Int) (wH:Int) (zK:List Int):Option (Int×(List Int)) :=
  (need (0<=wV/\wV<((10:Nat):Int))).bind fun _=>((zK)[wV.toNat]?).bind fun zH =>
  (bif decide (wH<128) then some (zI (wV+1),zK.set wV.toNat (tN (tT .u64 wH 127))) else
  (need (0<=(zI ((zI (wV+1)) - 1))/\(zI ((zI (wV+1)) - 1))<((10:Nat):Int))).bind fun _=>((zK.set wV.toNat (tN (tT .u64 wH 127)))[(zI ((zI (wV+1)) - (1:Int))).toNat]?).bind fun yO=>(need (0<=(zI ((zI (wV+1)) - 1))/\(zI ((zI (wV+1)) - 1))<((10:Nat):Int))).bind fun _=>((zK.set wV.toNat (tN (tT .u64 wH 127)))[(zI ((zI (wV+1)) - (1:Int))).toNat]?).bind fun xE =>
  rec (zI (wV+1)) (jV .u64 wH 7) ((zK.set wV.toNat (tN (tT .u64 wH (127:Int)))).set ((zI ((zI (wV+1)) - (1:Int))).toNat) (ior .u8 yO 128)))
def gO (F:Nat):Nat->Int->Int->(List Int)->Option (Int×(List Int))
  | 0,_,_,_=>none
  | n+1,wV,wH,zK=>oJ F (gO F n) wV wH zK
def qT (F:Nat) (zF:List Int) (z5:Int):Option (List Int) :=
  (GV z5).bind fun zA =>
  (gO F F 0 zA (List.replicate 10 (0:Int))).bind fun (zE:(Int×(List Int))) =>
  (need (0<=zE.1/\zE.1<=((10:Nat):Int)/\10<=zE.2.length)).bind fun _=>(need (0<=zE.1.toNat/\(zE.1.toNat)<=zE.2.length)).bind fun _=>(need (((sub zF 0 ((zF.length:Nat):Int)).length+((zE.2.take zE.1.toNat).drop 0).length) * 1<=140737488355328)).bind fun _=>(need (0<((zE.2.take zE.1.toNat).drop 0).length\/(sub zF 0 ((zF.length:Nat):Int)).length=0)).bind fun _ =>
  some ((sub zF 0 ((zF.length:Nat):Int))++((zE.2.take zE.1.toNat).drop 0))
def CZ (F:Nat) (zF:List Int) (zL:List Int):Option (List Int) :=
  (qT F zF ((zL.length:Nat):Int)).bind fun zA =>
  (need (0<=(zI (((zA.length:Nat):Int)+((zL.length:Nat):Int)))/\((zI (((zA.length:Nat):Int)+((zL.length:Nat):Int))).toNat) * 1<=281474976710656)).bind fun _ =>
  (need (0<=((zI (((zA.length:Nat):Int)+((zL.length:Nat):Int))).toNat)/\((zI (((zA.length:Nat):Int)+((zL.length:Nat):Int))).toNat)<=((List.replicate ((zI (((zA.length:Nat):Int)+((zL.length:Nat):Int))).toNat) (0:Int))).length)).bind fun _ =>
  (need (((zA.length:Nat):Int)<=(((zI (((zA.length:Nat):Int)+((zL.length:Nat):Int))).toNat:Nat):Int))).bind fun _=>(need (zA.length<=((zI (((zA.length:Nat):Int)+((zL.length:Nat):Int))).toNat)/\((zI (((zA.length:Nat):Int)+((zL.length:Nat):Int))).toNat)<=((cpy (List.replicate ((zI (((zA.length:Nat):Int)+((zL.length:Nat):Int))).toNat) (0:Int)) 0 ((zI (((zA.length:Nat):Int)+((zL.length:Nat):Int))).toNat) zA)).length)).bind fun _ =>
  some (cpy (cpy (List.replicate ((zI (((zA.length:Nat):Int)+((zL.length:Nat):Int))).toNat) (0:Int)) 0 ((zI (((zA.length:Nat):Int)+((zL.length:Nat):Int))).toNat) zA) zA.length ((zI (((zA.length:Nat):Int)+((zL.length:Nat):Int))).toNat) zL)
def mO (F:Nat) (zL:yZ) (rec:(List Int)->Int->Option (List Int)) (dJ:List Int) (zP:Int):Option (List Int) :=
  (bif decide (zP<((5:Nat):Int)) then (yX [zL.A,zL.AtA,zL.B,zL.AtB.Lo,zL.AtB.Hi] zP).bind fun zH =>
  (qT F dJ zH).bind fun zA =>
  rec zA (zI (zP+1)) else
  some dJ)
def mU (F:Nat) (zL:yZ):Nat->(List Int)->Int->Option (List Int)
  | 0,_,_=>none
  | n+1,dJ,zP=>mO F zL (mU F zL n) dJ zP
def lO (F:Nat) (zF:List Int) (zL:yZ):Option (List Int) :=
  (mU F zL F zF (0:Int)).bind fun (zE:(List Int)) =>
  some zE
def JR (F:Nat) (zJ:yB) (rec:Int->(List Int)->Option (List Int)) (zP:Int) (zK:List Int):Option (List Int) :=
  (bif decide (zP<((zJ.Threads.length:Nat):Int)) then (yX zJ.Threads zP).bind fun zH =>
  (qT F zK zH.Id).bind fun zC=>(CZ F zC zH.Name).bind fun zM=>(qT F zM zH.Domain).bind fun zT =>
  rec (zI (zP+1)) zT else
  some zK)
def mS (F:Nat) (zJ:yB):Nat->Int->(List Int)->Option (List Int)
  | 0,_,_=>none
  | n+1,zP,zK=>JR F zJ (mS F zJ n) zP zK
def JY (F:Nat) (zJ:yB) (rec:Int->(List Int)->Option (List Int)) (wE:Int) (z4:List Int):Option (List Int) :=
  (bif decide (wE<((zJ.Domains.length:Nat):Int)) then (yX zJ.Domains wE).bind fun yO =>
  (qT F z4 yO.Id).bind fun yF=>(qT F yF yO.Ppm).bind fun yY =>
  rec (zI (wE+1)) yY else
  some z4)
def CY (F:Nat) (zJ:yB):Nat->Int->(List Int)->Option (List Int)
  | 0,_,_=>none
  | n+1,wE,z4=>JY F zJ (CY F zJ n) wE z4
def JL (F:Nat) (zJ:yB) (rec:(List Int)->Int->Option (List Int)) (zF:List Int) (vU:Int):Option (List Int) :=
  (bif decide (vU<((zJ.Snaps.length:Nat):Int)) then (yX zJ.Snaps vU).bind fun xE =>
  (lO F zF xE).bind fun yR =>
  rec yR (zI (vU+1)) else
  some zF)
def DQ (F:Nat) (zJ:yB):Nat->(List Int)->Int->Option (List Int)
  | 0,_,_=>none
  | n+1,zF,vU=>JL F zJ (DQ F zJ n) zF vU
def B7 (F:Nat) (zJ:yB):Option (List Int) :=
  (qT F [] ((zJ.Threads.length:Nat):Int)).bind fun zA =>
  (mS F zJ F 0 zA).bind fun (zE:(List Int)) =>
  (qT F zE ((zJ.Domains.length:Nat):Int)).bind fun zU =>
  (CY F zJ F 0 zU).bind fun (zR:(List Int)) =>
  (qT F zR ((zJ.Snaps.length:Nat):Int)).bind fun yH =>
  (DQ F zJ F yH (0:Int)).bind fun (yK:(List Int)) =>
  some yK
def o6 (F:Nat) (rec:Int->Int->Option Int) (xE:Int) (wE:Int):Option Int :=
  (bif decide (wE<8) then (bif ((tT .u32 xE 1)==1) then rec (tW .u32 (jV .u32 xE 1) 3988292384) (zI (wE+1)) else
  rec (jV .u32 xE 1) (zI (wE+1))) else
  some xE)
def gM (F:Nat):Nat->Int->Int->Option Int
  | 0,_,_=>none
  | n+1,xE,wE=>o6 F (gM F n) xE wE
def D9 (F:Nat) (zF:List Int) (rec:Int->Int->Option Int) (zH:Int) (zP:Int):Option Int :=
  (bif decide (zP<((zF.length:Nat):Int)) then (yX zF zP).bind fun yO =>
  (gM F F (tW .u32 zH (iB yO)) (0:Int)).bind fun (zR:Int) =>
  rec zR (zI (zP+1)) else
  some zH)
def mG (F:Nat) (zF:List Int):Nat->Int->Int->Option Int
  | 0,_,_=>none
  | n+1,zH,zP=>D9 F zF (mG F zF n) zH zP
def ET (F:Nat) (zF:List Int):Option Int :=
  (mG F zF F 4294967295 (0:Int)).bind fun (zE:Int) =>
  some (zI (tW .u32 4294967295 zE))
def CJ (F:Nat) (t4:Int) (zF:List Int):Option Int :=
  (need ((([t4]).length+zF.length) * 1<=140737488355328)).bind fun _=>(ET F ([t4]++zF)).bind fun zA =>
  some zA
def fA (F:Nat) (t4:Int) (zF:List Int):Option (List Int) :=
  (qT F [t4] ((zF.length:Nat):Int)).bind fun zA =>
  (CJ F t4 zF).bind fun zC=>(qT F zA zC).bind fun zM=>(need ((zM.length+zF.length) * 1<=140737488355328)).bind fun _ =>
  some (zM++zF)
def GB (zL:List Int):Option (List Int) :=
  (need (((([]:List Int)).length+zL.length) * 1<=140737488355328)).bind fun _ =>
  some ([]++zL)
def dC (zG:yD):Option (yD×Int) :=
  (fJ zG).bind fun zA =>
  (bif (zA != 0) then some ((⟨0,[],0,0,false⟩:yD),zA) else
  (bif zG.Down then some (zG,19) else
  (GB zG.Data).bind fun zC =>
  some ((⟨zG.Size,zC,zG.Durable,zG.Left,zG.Down⟩:yD),0)))
def EP (zG:yD) (zF:List Int):Option (yD×Int) :=
  (dC zG).bind fun zA =>
  (bif (zA.2 != 0) then some (zA.1,zA.2) else
  (bif decide ((zI (((zA.1.Data.length:Nat):Int)+((zF.length:Nat):Int)))>zA.1.Size) then some ((⟨0,[],0,0,false⟩:yD),6) else
  (bif (decide (zA.1.Left>=0)&&decide (zA.1.Left<((zF.length:Nat):Int))) then (need (0<=zA.1.Left/\zA.1.Left<=((zF.length:Nat):Int))).bind fun _=>(need ((zA.1.Data.length+(sub zF 0 zA.1.Left).length) * 1<=140737488355328)).bind fun _ =>
  some ((⟨zA.1.Size,(zA.1.Data++(sub zF 0 zA.1.Left)),zA.1.Durable,0,true⟩:yD),19) else
  (need ((zA.1.Data.length+zF.length) * 1<=140737488355328)).bind fun _ =>
  (bif decide (zA.1.Left>=0) then some ((⟨zA.1.Size,(zA.1.Data++zF),zA.1.Durable,zI (zA.1.Left - ((zF.length:Nat):Int)),zA.1.Down⟩:yD),0) else
  some ((⟨zA.1.Size,(zA.1.Data++zF),zA.1.Durable,zA.1.Left,zA.1.Down⟩:yD),0)))))
def CS (zG:yD):Option (yD×Int) :=
  (dC zG).bind fun zA =>
  (bif (zA.2 != 0) then some (zA.1,zA.2) else
  (bif (zA.1.Left==0) then some ((⟨zA.1.Size,zA.1.Data,zA.1.Durable,zA.1.Left,true⟩:yD),19) else
  some ((⟨zA.1.Size,zA.1.Data,((zA.1.Data.length:Nat):Int),zA.1.Left,zA.1.Down⟩:yD),0)))
def G9 (F:Nat) (kD:List (List Int)) (rec:Int->Int->(List Int)->Int->Int->Bool->Option ((Int×(List Int)×Int×Int×Bool)⊕(yD×Int))) (zP:Int) (zB:Int) (y5:List Int) (y6:Int) (yW:Int) (xC:Bool):Option ((Int×(List Int)×Int×Int×Bool)⊕(yD×Int)) :=
  (bif decide (zP<((kD.length:Nat):Int)) then (yX kD zP).bind fun zH =>
  (EP (⟨zB,y5,y6,yW,xC⟩:yD) zH).bind fun zA =>
  (bif (zA.2 != 0) then some (.inr (zA.1,zA.2)) else
  rec (zI (zP+1)) zA.1.Size zA.1.Data zA.1.Durable zA.1.Left zA.1.Down) else
  some (.inl (zB,y5,y6,yW,xC)))
def KL (F:Nat) (kD:List (List Int)):Nat->Int->Int->(List Int)->Int->Int->Bool->Option ((Int×(List Int)×Int×Int×Bool)⊕(yD×Int))
  | 0,_,_,_,_,_,_=>none
  | n+1,zP,zB,y5,y6,yW,xC=>G9 F kD (KL F kD n) zP zB y5 y6 yW xC
def DH (F:Nat) (zG:yD) (kD:List (List Int)):Option (yD×Int) :=
  (KL F kD F 0 zG.Size zG.Data zG.Durable zG.Left zG.Down).bind fun (zE:(Int×(List Int)×Int×Int×Bool)⊕(yD×Int)) =>
  (match zE with
  | (.inl zX) =>
  (CS (⟨zX.1,zX.2.1,zX.2.2.1,zX.2.2.2.1,zX.2.2.2.2⟩:yD)).bind fun zC =>
  some (zC.1,zC.2)
  | (.inr xJ) =>
  some xJ)
def BH (F:Nat) (zG:yD) (zJ:yB):Option (yD×Int) :=
  (fJ zG).bind fun zA =>
  (bif (zA != 0) then some ((⟨0,[],0,0,false⟩:yD),zA) else
  (bif decide (((zG.Data.length:Nat):Int)>0) then some ((⟨0,[],0,0,false⟩:yD),18) else
  (rA F zJ).bind fun zC =>
  (bif (zC != 0) then some ((⟨0,[],0,0,false⟩:yD),zC) else
  (B7 F zJ).bind fun zM=>(fA F 72 zM).bind fun zT=>(DH F zG [zT]).bind fun zU =>
  some (zU.1,zU.2))))
def KI (wH:Int):Option Int :=
  some (tW .i64 (zI (jV .u64 wH 1)) (zI (0 - (zI (tT .u64 wH 1)))))
def K3 (F:Nat) (zF:List Int) (rec:Int->Int->Option (Unit⊕(Int×Int×Int))) (wH:Int) (zP:Int):Option (Unit⊕(Int×Int×Int)) :=
  (bif decide (zP<((zF.length:Nat):Int)) then (yX zF zP).bind fun zH =>
  (bif ((zP==9)&&decide (zH>1)) then some (.inr (0,0,10)) else
  (need (0<=(zI (7 * zP)))).bind fun _ =>
  (bif decide (zH>=128) then rec (ior .u64 wH (nV .u64 (v6 (tT .u8 zH 127)) (zI (7 * zP)))) (zI (zP+1)) else
  (bif ((zH==0)&&decide (zP>0)) then some (.inr (0,0,10)) else
  (KI (ior .u64 wH (nV .u64 (v6 (tT .u8 zH 127)) (zI (7 * zP))))).bind fun zA =>
  some (.inr (zA,zI (zP+1),0))))) else
  some (.inl ()))
def lJ (F:Nat) (zF:List Int):Nat->Int->Int->Option (Unit⊕(Int×Int×Int))
  | 0,_,_=>none
  | n+1,wH,zP=>K3 F zF (lJ F zF n) wH zP
def dB (F:Nat) (zF:List Int):Option (Int×Int×Int) :=
  (lJ F zF F 0 (0:Int)).bind fun (zE:Unit⊕(Int×Int×Int)) =>
  (match zE with
  | (.inl zX) =>
  some (0,0,8)
  | (.inr xJ) =>
  some xJ)
def DL (F:Nat) (zF:List Int):Option (Int×(List Int)×Int) :=
  (bif (((zF.length:Nat):Int)==0) then some (0,[],0) else
  (need (1<=((zF.length:Nat):Int))).bind fun _=>(dB F (sub zF 1 ((zF.length:Nat):Int))).bind fun zA =>
  (bif (zA.2.2 != 0) then some (0,[],0) else
  (need (0<=(zI (1+zA.2.1))/\(zI (1+zA.2.1))<=((zF.length:Nat):Int))).bind fun _=>(dB F (sub zF (zI (1+zA.2.1)) ((zF.length:Nat):Int))).bind fun zC =>
  (bif ((zC.2.2 != 0)||(decide (zA.1<0)||decide (zA.1>(zI (((zF.length:Nat):Int) - (zI ((zI (1+zA.2.1))+zC.2.1))))))) then some (0,[],0) else
  (need (0<=(zI ((zI (1+zA.2.1))+zC.2.1))/\(zI ((zI (1+zA.2.1))+zC.2.1))<=(zI ((zI ((zI (1+zA.2.1))+zC.2.1))+zA.1))/\(zI ((zI ((zI (1+zA.2.1))+zC.2.1))+zA.1))<=((zF.length:Nat):Int))).bind fun _ =>
  (yX zF (0:Int)).bind fun zH=>(CJ F zH (sub zF (zI ((zI (1+zA.2.1))+zC.2.1)) (zI ((zI ((zI (1+zA.2.1))+zC.2.1))+zA.1)))).bind fun zM =>
  (bif (zM != zC.1) then some (0,[],0) else
  (yX zF (0:Int)).bind fun yO =>
  some (yO,sub zF (zI ((zI (1+zA.2.1))+zC.2.1)) (zI ((zI ((zI (1+zA.2.1))+zC.2.1))+zA.1)),zI ((zI ((zI (1+zA.2.1))+zC.2.1))+zA.1))))))
structure uD where
  b:List Int
  bad:Bool
  deriving DecidableEq,Inhabited
def qK (s:uD):List AV:=[.sl false 1 (List.map (AV.int .u8) s.b),.bool s.bad]
def aE (F:Nat) (zL:uD):Option (Int×uD) :=
  (dB F zL.b).bind fun zA =>
  (bif (zA.2.2 != 0) then some (0,(⟨[],true⟩:uD)) else
  (need (0<=zA.2.1/\zA.2.1<=((zL.b.length:Nat):Int))).bind fun _ =>
  some (zA.1,(⟨sub zL.b zA.2.1 ((zL.b.length:Nat):Int),zL.bad⟩:uD)))
def oE (F:Nat) (zL:uD) (tH:Int):Option (Int×uD) :=
  (aE F zL).bind fun zA =>
  (bif (decide (zA.1<0)||decide (zA.1>tH)) then some (0,(⟨zA.2.b,true⟩:uD)) else
  some (zA.1,zA.2))
def mV (F:Nat) (zF:List Int) (tH:Int):Option ((List Int)×Int×Int) :=
  (dB F zF).bind fun zA =>
  (bif (zA.2.2 != 0) then some (([]:List Int),0,zA.2.2) else
  (bif decide (zA.1<0) then some (([]:List Int),0,10) else
  (bif decide (zA.1>tH) then some (([]:List Int),0,7) else
  (bif decide (zA.1>(zI (((zF.length:Nat):Int) - zA.2.1))) then some (([]:List Int),0,8) else
  (need (0<=zA.2.1/\zA.2.1<=(zI (zA.2.1+zA.1))/\(zI (zA.2.1+zA.1))<=((zF.length:Nat):Int))).bind fun _ =>
  some (sub zF zA.2.1 (zI (zA.2.1+zA.1)),zI (zA.2.1+zA.1),0)))))
def H9 (F:Nat) (zL:uD):Option ((List Int)×uD) :=
  (mV F zL.b (40:Int)).bind fun zA =>
  (bif (zA.2.2 != 0) then some (([]:List Int),(⟨[],true⟩:uD)) else
  (need (0<=zA.2.1/\zA.2.1<=((zL.b.length:Nat):Int))).bind fun _ =>
  some (zA.1,(⟨sub zL.b zA.2.1 ((zL.b.length:Nat):Int),zL.bad⟩:uD)))
def r8 (F:Nat) (zL:uD):Option (yZ×uD) :=
  (aE F zL).bind fun zA=>(aE F zA.2).bind fun zC=>(aE F zC.2).bind fun zM =>
  (aE F zM.2).bind fun zT =>
  (aE F zT.2).bind fun zU =>
  some ((⟨zA.1,zC.1,zM.1,(⟨zT.1,zU.1⟩:CB)⟩:yZ),zU.2)
def dW (y0:List Int) (zF:List Int):Option Bool :=
  some (y0==zF)
def lG (F:Nat) (zA:Int×uD) (rec:Int->(List Int)->Bool->(List xI)->Option ((List Int)×Bool×(List xI))) (zP:Int) (zB:List Int) (y5:Bool) (zK:List xI):Option ((List Int)×Bool×(List xI)) :=
  (bif decide (zP<zA.1) then (aE F (⟨zB,y5⟩:uD)).bind fun zC=>(H9 F zC.2).bind fun zM =>
  (aE F zM.2).bind fun zT=>(need ((zK.length+([(⟨zC.1,zM.1,zT.1⟩:xI)]).length) * 32<=140737488355328)).bind fun _ =>
  rec (zI (zP+1)) zT.2.b zT.2.bad (zK++[(⟨zC.1,zM.1,zT.1⟩:xI)]) else
  some (zB,y5,zK))
def B0 (F:Nat) (zA:Int×uD):Nat->Int->(List Int)->Bool->(List xI)->Option ((List Int)×Bool×(List xI))
  | 0,_,_,_,_=>none
  | n+1,zP,zB,y5,zK=>lG F zA (B0 F zA n) zP zB y5 zK
def oA (F:Nat) (zU:Int×uD) (rec:Int->(List Int)->Bool->(List xA)->Option ((List Int)×Bool×(List xA))) (wE:Int) (y6:List Int) (yW:Bool) (z4:List xA):Option ((List Int)×Bool×(List xA)) :=
  (bif decide (wE<zU.1) then (aE F (⟨y6,yW⟩:uD)).bind fun yF =>
  (aE F yF.2).bind fun yY=>(need ((z4.length+([(⟨yF.1,yY.1⟩:xA)]).length) * 16<=140737488355328)).bind fun _ =>
  rec (zI (wE+1)) yY.2.b yY.2.bad (z4++[(⟨yF.1,yY.1⟩:xA)]) else
  some (y6,yW,z4))
def rT (F:Nat) (zU:Int×uD):Nat->Int->(List Int)->Bool->(List xA)->Option ((List Int)×Bool×(List xA))
  | 0,_,_,_,_=>none
  | n+1,wE,y6,yW,z4=>oA F zU (rT F zU n) wE y6 yW z4
def rL (F:Nat) (yH:Int×uD) (rec:Int->(List Int)->Bool->(List yZ)->Option ((List Int)×Bool×(List yZ))) (vU:Int) (xC:List Int) (xK:Bool) (yL:List yZ):Option ((List Int)×Bool×(List yZ)) :=
  (bif decide (vU<yH.1) then (r8 F (⟨xC,xK⟩:uD)).bind fun yR=>(need ((yL.length+([yR.1]).length) * 40<=140737488355328)).bind fun _ =>
  rec (zI (vU+1)) yR.2.b yR.2.bad (yL++[yR.1]) else
  some (xC,xK,yL))
def AA (F:Nat) (yH:Int×uD):Nat->Int->(List Int)->Bool->(List yZ)->Option ((List Int)×Bool×(List yZ))
  | 0,_,_,_,_=>none
  | n+1,vU,xC,xK,yL=>rL F yH (AA F yH n) vU xC xK yL
def KN (F:Nat) (zF:List Int):Option (yB×Bool) :=
  (oE F (⟨zF,false⟩:uD) (64:Int)).bind fun zA =>
  (B0 F zA F 0 zA.2.b zA.2.bad []).bind fun (zE:((List Int)×Bool×(List xI))) =>
  (oE F (⟨zE.1,zE.2.1⟩:uD) (8:Int)).bind fun zU =>
  (rT F zU F 0 zU.2.b zU.2.bad []).bind fun (zR:((List Int)×Bool×(List xA))) =>
  (oE F (⟨zR.1,zR.2.1⟩:uD) (200:Int)).bind fun yH =>
  (AA F yH F 0 yH.2.b yH.2.bad []).bind fun (yK:((List Int)×Bool×(List yZ))) =>
  ((bif !yK.2.1 then ((B7 F (⟨zE.2.2,zR.2.2,yK.2.2⟩:yB)).bind fun y8=>(dW y8 zF).bind fun wM=>some wM) else (some false))).bind fun (zN:Bool) =>
  some ((⟨zE.2.2,zR.2.2,yK.2.2⟩:yB),zN)
structure wO where
  next:Int
  last:Int
  deriving DecidableEq,Inhabited
def ZT (s:wO):List AV:=[.int .i64 s.next,.int .i64 s.last]
def xS (s:wO):AV:=.agg (ZT s)
structure xD where
  At:Int
  Kind:Int
  Name:List Int
  N:Int
  M:Int
  Stack:List (List Int)
  deriving DecidableEq,Inhabited
def u7 (s:xD):List AV:=[.int .i64 s.At,.int .i64 s.Kind,.str s.Name,.int .i64 s.N,.int .i64 s.M,.sl false 1 (List.map AV.str s.Stack)]
def x9 (s:xD):AV:=.agg (u7 s)
structure z7 where
  Thread:Int
  Serial:Int
  Lost:Int
  Events:List xD
  deriving DecidableEq,Inhabited
def wU (s:z7):List AV:=[.int .i64 s.Thread,.int .i64 s.Serial,.int .i64 s.Lost,.sl false 6 (List.map x9 s.Events)]
def yG (s:z7):AV:=.agg (wU s)
structure xF where
  head:yB
  packets:List z7
  ends:Option (List (Int×wO))
  events:Int
  deriving DecidableEq,Inhabited
structure wY where
  done:xF
  used:Int
  deriving DecidableEq,Inhabited
def MR (zL:List z7):Option (List z7) :=
  (need (((([]:List z7)).length+zL.length) * 48<=140737488355328)).bind fun _ =>
  some ([]++zL)
def BI (zL:List yZ):Option (List yZ) :=
  (need (((([]:List yZ)).length+zL.length) * 40<=140737488355328)).bind fun _ =>
  some ([]++zL)
def CT (zB:xF):Option xF :=
  (MR zB.packets).bind fun zA =>
  (BI zB.head.Snaps).bind fun zC =>
  some (⟨(⟨zB.head.Threads,zB.head.Domains,zC⟩:yB),zA,zB.ends,zB.events⟩:xF)
def DY (F:Nat) (zF:List Int):Option (yZ×Bool) :=
  (r8 F (⟨zF,false⟩:uD)).bind fun zA =>
  ((bif !zA.2.bad then ((lO F [] zA.1).bind fun zC=>(dW zC zF).bind fun zM=>some zM) else (some false))).bind fun (zN:Bool) =>
  some (zA.1,zN)
structure qQ where
  b:List Int
  used:Int
  fault:Int
  deriving DecidableEq,Inhabited
def jQ (s:qQ):List AV:=[.sl false 1 (List.map (AV.int .u8) s.b),.int .i64 s.used,.int .i64 s.fault]
def bD (F:Nat) (zH:qQ):Option (Int×qQ) :=
  (bif (zH.fault != 0) then some (0,zH) else
  (need (0<=zH.used/\zH.used<=((zH.b.length:Nat):Int))).bind fun _=>(dB F (sub zH.b zH.used ((zH.b.length:Nat):Int))).bind fun zA =>
  some (zA.1,(⟨zH.b,zI (zH.used+zA.2.1),zA.2.2⟩:qQ)))
def cW (F:Nat) (zH:qQ) (tH:Int):Option (Int×qQ) :=
  (bD F zH).bind fun zA =>
  (bif (zA.2.fault != 0) then some (0,zA.2) else
  (bif decide (zA.1<0) then some (0,(⟨zA.2.b,zA.2.used,10⟩:qQ)) else
  (bif decide (zA.1>tH) then some (0,(⟨zA.2.b,zA.2.used,7⟩:qQ)) else
  some (zA.1,zA.2))))
def KV (F:Nat) (zH:qQ):Option ((List Int)×qQ) :=
  (bif (zH.fault != 0) then some (([]:List Int),zH) else
  (need (0<=zH.used/\zH.used<=((zH.b.length:Nat):Int))).bind fun _=>(mV F (sub zH.b zH.used ((zH.b.length:Nat):Int)) (40:Int)).bind fun zA =>
  some (zA.1,(⟨zH.b,zI (zH.used+zA.2.1),zA.2.2⟩:qQ)))
structure zV where
  c0:Int
  c1:Int
  deriving DecidableEq,Inhabited
def zAA (s:zV):List AV:=[.int .i64 s.c0,.int .i64 s.c1]
def yI (s:zV):AV:=.agg (zAA s)
def oL (F:Nat) (zZ:List (List Int)) (rec:Int->(List ((List Int)×Bool))->Option (Unit⊕Int)) (zP:Int) (zK:List ((List Int)×Bool)):Option (Unit⊕Int) :=
  (bif decide (zP<((zZ.length:Nat):Int)) then (yX zZ zP).bind fun zH =>
  (dY F zH).bind fun zA =>
  (bif (zA != 0) then some (.inr zA) else
  (bif ((uY zK zH).getD false) then some (.inr 4) else
  (need (zK.length<140737488355328)).bind fun _ =>
  rec (zI (zP+1)) (w8 zK zH true))) else
  some (.inl ()))
def AD (F:Nat) (zZ:List (List Int)):Nat->Int->(List ((List Int)×Bool))->Option (Unit⊕Int)
  | 0,_,_=>none
  | n+1,zP,zK=>oL F zZ (AD F zZ n) zP zK
def JK (F:Nat) (zZ:List (List Int)):Option Int :=
  (AD F zZ F 0 []).bind fun (zE:Unit⊕Int) =>
  (match zE with
  | (.inl zX) =>
  some 0
  | (.inr xJ) =>
  some xJ)
def J0 (F:Nat) (zZ:List (List Int)) (z6:List zV) (rec:Int->(List (zV×Bool))->(List Int)->Option (Unit⊕Int)) (zP:Int) (zK:List (zV×Bool)) (z4:List Int):Option (Unit⊕Int) :=
  (bif decide (zP<((z6.length:Nat):Int)) then (yX z6 zP).bind fun zH =>
  (bif (decide (zH.c0<(-1))||(decide (zH.c0>=zP)||(decide (zH.c1<0)||decide (zH.c1>=((zZ.length:Nat):Int))))) then some (.inr 2) else
  (bif ((uY zK zH).getD false) then some (.inr 4) else
  (need (zK.length<140737488355328)).bind fun _ =>
  (yX z4 zP).bind fun yO =>
  (((bif (zH.c0 != (-1)) then (yX (z4.set zP.toNat (1:Int)) zP).bind fun xE=>(yX (z4.set zP.toNat (1:Int)) zH.c0).bind fun wI=>(yX (z4.set zP.toNat (1:Int)) zP).bind fun vG =>
  some ((z4.set zP.toNat (1:Int)).set zP.toNat (zI (xE+wI))) else
  some (z4.set zP.toNat (1:Int))):Option (List Int))).bind fun (zR:(List Int)) =>
  (yX zR zP).bind fun uV =>
  (bif decide (uV>32) then some (.inr 7) else
  rec (zI (zP+1)) (w8 zK zH true) zR))) else
  some (.inl ()))
def CM (F:Nat) (zZ:List (List Int)) (z6:List zV):Nat->Int->(List (zV×Bool))->(List Int)->Option (Unit⊕Int)
  | 0,_,_,_=>none
  | n+1,zP,zK,z4=>J0 F zZ z6 (CM F zZ z6 n) zP zK z4
def fE (F:Nat) (zZ:List (List Int)) (z6:List zV):Option Int :=
  (bif (decide (((zZ.length:Nat):Int)>1000)||decide (((z6.length:Nat):Int)>1000)) then some 7 else
  (JK F zZ).bind fun zA =>
  (bif (zA != 0) then some zA else
  (need (z6.length * 8<=281474976710656)).bind fun _ =>
  (CM F zZ z6 F 0 [] (List.replicate z6.length (0:Int))).bind fun (zE:Unit⊕Int) =>
  (match zE with
  | (.inl zX) =>
  some 0
  | (.inr xJ) =>
  some xJ)))
structure pE where
  b:List Int
  used:Int
  fault:Int
  deriving DecidableEq,Inhabited
def dU (s:pE):List AV:=[.sl false 1 (List.map (AV.int .u8) s.b),.int .i64 s.used,.int .i64 s.fault]
def aV (F:Nat) (zH:pE):Option (Int×pE) :=
  (bif (zH.fault != 0) then some (0,zH) else
  (need (0<=zH.used/\zH.used<=((zH.b.length:Nat):Int))).bind fun _=>(dB F (sub zH.b zH.used ((zH.b.length:Nat):Int))).bind fun zA =>
  some (zA.1,(⟨zH.b,zI (zH.used+zA.2.1),zA.2.2⟩:pE)))
def GW (xH:Int):Option (Bool×Bool×Bool×Bool) :=
  some (((xH==1)||((xH==3)||(xH==4))),decide (xH>=4),((xH==9)||(xH==11)),((xH==5)||(xH==11)))
def H7 (F:Nat) (rec:Int->Int->(List (List Int))->Option (List (List Int))) (zQ:Int) (jK:Int) (zK:List (List Int)):Option (List (List Int)) :=
  (bif decide (zQ<jK) then (yX zK jK).bind fun zH=>(yX zK zQ).bind fun yO=>(yX zK zQ).bind fun xE=>(yX (zK.set zQ.toNat zH) jK).bind fun wI =>
  rec (zI (zQ+1)) (zI (jK - 1)) ((zK.set zQ.toNat zH).set jK.toNat yO) else
  some zK)
def r6 (F:Nat):Nat->Int->Int->(List (List Int))->Option (List (List Int))
  | 0,_,_,_=>none
  | n+1,zQ,jK,zK=>H7 F (r6 F n) zQ jK zK
def HE (F:Nat) (zL:List (List Int)):Option (List (List Int)) :=
  (r6 F F 0 (zI (((zL.length:Nat):Int) - 1)) zL).bind fun (zE:(List (List Int))) =>
  some zE
def lE (F:Nat) (zZ:List (List Int)) (z6:List zV) (rec:Int->(List (List Int))->Option (List (List Int))) (y9:Int) (zK:List (List Int)):Option (List (List Int)) :=
  (bif (y9 != (-1)) then (yX z6 y9).bind fun zH=>(yX zZ zH.c1).bind fun yO=>(need ((zK.length+([yO]).length) * 16<=140737488355328)).bind fun _ =>
  (yX z6 y9).bind fun xE =>
  rec xE.c0 (zK++[yO]) else
  some zK)
def GU (F:Nat) (zZ:List (List Int)) (z6:List zV):Nat->Int->(List (List Int))->Option (List (List Int))
  | 0,_,_=>none
  | n+1,y9,zK=>lE F zZ z6 (GU F zZ z6 n) y9 zK
def AT (F:Nat) (zZ:List (List Int)) (z6:List zV) (zQ:Int):Option ((List (List Int))×Int) :=
  (fE F zZ z6).bind fun zA =>
  (bif (zA != 0) then some ([],1) else
  (bif (decide (zQ<(-1))||decide (zQ>=((z6.length:Nat):Int))) then some ([],2) else
  (GU F zZ z6 F zQ []).bind fun (zE:(List (List Int))) =>
  (HE F zE).bind fun zC=>(need (zC.length=zE.length)).bind fun _ =>
  some (zC,0)))
structure vS where
  word:List Int
  name:Bool
  n:Bool
  m:Bool
  stack:Bool
  least:Int
  most:Int
  mLeast:Int
  mMost:Int
  deriving DecidableEq,Inhabited
def KX (s:vS):List AV:=[.str s.word,.bool s.name,.bool s.n,.bool s.m,.bool s.stack,.int .i64 s.least,.int .i64 s.most,.int .i64 s.mLeast,.int .i64 s.mMost]
def fU (s:vS):AV:=.agg (KX s)
def C4:Option (List vS) :=
  some [(⟨([]:List Int),false,false,false,false,0,0,0,0⟩:vS),(⟨([98,101,103,105,110]:List Int),true,false,false,false,0,0,0,0⟩:vS),(⟨([101,110,100]:List Int),false,false,false,false,0,0,0,0⟩:vS),(⟨([109,97,114,107]:List Int),true,false,false,false,0,0,0,0⟩:vS),(⟨([99,111,117,110,116]:List Int),true,true,false,false,(-1000000000000000),1000000000000000,0,0⟩:vS),(⟨([115,97,109,112,108,101]:List Int),false,true,false,true,1,1000000000000,0,0⟩:vS),(⟨([115,101,110,100]:List Int),false,true,false,false,0,1000000000000000,0,0⟩:vS),(⟨([114,101,99,118]:List Int),false,true,false,false,0,1000000000000000,0,0⟩:vS),(⟨([114,117,110]:List Int),false,true,false,false,0,63,0,0⟩:vS),(⟨([115,116,111,112]:List Int),false,true,true,false,0,3,0,1000000000000000⟩:vS),(⟨([119,97,107,101]:List Int),false,true,false,false,0,1000000000000000,0,0⟩:vS),(⟨([97,108,108,111,99]:List Int),false,true,true,true,0,1000000000000000,1,1000000000000⟩:vS),(⟨([102,114,101,101]:List Int),false,true,false,false,0,1000000000000000,0,0⟩:vS)]
def HK (xH:Int):Option (vS×Bool) :=
  (C4 ).bind fun zA =>
  (bif (decide (xH<1)||decide (xH>=((zA.length:Nat):Int))) then some ((⟨([]:List Int),false,false,false,false,0,0,0,0⟩:vS),false) else
  (yX zA xH).bind fun zH =>
  some (zH,true))
def JH (F:Nat) (zO:List (List Int)) (rec:Int->Option (Unit⊕Int)) (zP:Int):Option (Unit⊕Int) :=
  (bif decide (zP<((zO.length:Nat):Int)) then (yX zO zP).bind fun zH =>
  (dY F zH).bind fun zA =>
  (bif (zA != 0) then some (.inr zA) else
  rec (zI (zP+1))) else
  some (.inl ()))
def J2 (F:Nat) (zO:List (List Int)):Nat->Int->Option (Unit⊕Int)
  | 0,_=>none
  | n+1,zP=>JH F zO (J2 F zO n) zP
def AG (F:Nat) (zO:List (List Int)):Option Int :=
  (bif decide (((zO.length:Nat):Int)>32) then some 7 else
  (J2 F zO F (0:Int)).bind fun (zE:Unit⊕Int) =>
  (match zE with
  | (.inl zX) =>
  some 0
  | (.inr xJ) =>
  some xJ))
def DV (F:Nat) (f_1:vS) (zY:xD):Option Int :=
  (bif f_1.name then (dY F zY.Name).bind fun zA =>
  some zA else
  (AG F zY.Stack).bind fun zC =>
  some zC)
def gU (F:Nat) (zY:xD):Option Int :=
  (bif (decide (zY.At<0)||decide (zY.At>1000000000000)) then some 2 else
  (HK zY.Kind).bind fun zA =>
  ((bif !zA.2 then (some true) else (bif !zA.1.name then (bif !(zY.Name==([]:List Int)) then (some true) else (bif !zA.1.n then (bif (zY.N != 0) then (some true) else (bif !zA.1.m then (bif (zY.M != 0) then (some true) else (bif !zA.1.stack then (some (decide (((zY.Stack.length:Nat):Int)>0))) else (some false))) else (bif !zA.1.stack then (some (decide (((zY.Stack.length:Nat):Int)>0))) else (some false)))) else (bif !zA.1.m then (bif (zY.M != 0) then (some true) else (bif !zA.1.stack then (some (decide (((zY.Stack.length:Nat):Int)>0))) else (some false))) else (bif !zA.1.stack then (some (decide (((zY.Stack.length:Nat):Int)>0))) else (some false))))) else (bif !zA.1.n then (bif (zY.N != 0) then (some true) else (bif !zA.1.m then (bif (zY.M != 0) then (some true) else (bif !zA.1.stack then (some (decide (((zY.Stack.length:Nat):Int)>0))) else (some false))) else (bif !zA.1.stack then (some (decide (((zY.Stack.length:Nat):Int)>0))) else (some false)))) else (bif !zA.1.m then (bif (zY.M != 0) then (some true) else (bif !zA.1.stack then (some (decide (((zY.Stack.length:Nat):Int)>0))) else (some false))) else (bif !zA.1.stack then (some (decide (((zY.Stack.length:Nat):Int)>0))) else (some false))))))).bind fun (zN:Bool) =>
  (bif zN then some 1 else
  (DV F zA.1 zY).bind fun zC =>
  (bif (zC != 0) then some zC else
  (bif (zA.1.n&&(decide (zY.N<zA.1.least)||decide (zY.N>zA.1.most))) then some 2 else
  (bif ((zY.Kind==9)&&((zY.N != 2)&&(zY.M != 0))) then some 1 else
  (bif (zA.1.m&&(bif decide (zY.M<zA.1.mLeast) then ((zY.Kind != 9)||(zY.N==2)) else (decide (zY.M>zA.1.mMost)&&((zY.Kind != 9)||(zY.N==2))))) then some 2 else
  some 0))))))
def GZ (F:Nat) (zZ:List (List Int)) (z6:List zV) (zF:List Int):Option (xD×Int×Int) :=
  (fE F zZ z6).bind fun zA =>
  (bif (zA != 0) then some ((⟨0,0,([]:List Int),0,0,[]⟩:xD),0,1) else
  (aV F (⟨zF,0,0⟩:pE)).bind fun zC =>
  (aV F zC.2).bind fun zM =>
  (((bif ((zM.2.fault==0)&&(decide (zC.1<1)||decide (zC.1>12))) then some 10 else
  some zM.2.fault):Option Int)).bind fun (zE:Int) =>
  (GW zC.1).bind fun zT =>
  (((bif zT.1 then (aV F (⟨zM.2.b,zM.2.used,zE⟩:pE)).bind fun zU =>
  some (zU.1,zU.2.b,zU.2.used,zU.2.fault) else
  some (0,zM.2.b,zM.2.used,zE)):Option (Int×(List Int)×Int×Int))).bind fun (zR:(Int×(List Int)×Int×Int)) =>
  (((bif zT.2.1 then (aV F (⟨zR.2.1,zR.2.2.1,zR.2.2.2⟩:pE)).bind fun yF =>
  some (yF.2.b,yF.2.used,yF.2.fault,yF.1) else
  some (zR.2.1,zR.2.2.1,zR.2.2.2,0)):Option ((List Int)×Int×Int×Int))).bind fun (yK:((List Int)×Int×Int×Int)) =>
  (((bif zT.2.2.1 then (aV F (⟨yK.1,yK.2.1,yK.2.2.1⟩:pE)).bind fun yY =>
  some (yY.2.b,yY.2.used,yY.2.fault,yY.1) else
  some (yK.1,yK.2.1,yK.2.2.1,0)):Option ((List Int)×Int×Int×Int))).bind fun (xW:((List Int)×Int×Int×Int)) =>
  (((bif zT.2.2.2 then (aV F (⟨xW.1,xW.2.1,xW.2.2.1⟩:pE)).bind fun yH =>
  some (yH.1,yH.2.b,yH.2.used,yH.2.fault) else
  some ((-1),xW.1,xW.2.1,xW.2.2.1)):Option (Int×(List Int)×Int×Int))).bind fun (vZ:(Int×(List Int)×Int×Int)) =>
  (((bif (vZ.2.2.2 != 0) then some (.inr ((⟨0,0,([]:List Int),0,0,[]⟩:xD),0,vZ.2.2.2)) else
  (bif (zT.1&&(decide (zR.1<0)||decide (zR.1>=((zZ.length:Nat):Int)))) then some (.inr ((⟨0,0,([]:List Int),0,0,[]⟩:xD),0,2)) else
  (bif (decide (vZ.1<(-1))||decide (vZ.1>=((z6.length:Nat):Int))) then some (.inr ((⟨0,0,([]:List Int),0,0,[]⟩:xD),0,2)) else
  some (.inl ())))):Option (Unit⊕(xD×Int×Int)))).bind fun (o_6:Unit⊕(xD×Int×Int)) =>
  (match o_6 with
  | (.inl zX) =>
  (((bif zT.1 then (yX zZ zR.1).bind fun zH =>
  some zH else
  some ([]:List Int)):Option (List Int))).bind fun (dK:(List Int)) =>
  (AT F zZ z6 vZ.1).bind fun yR =>
  (gU F (⟨zM.1,zC.1,dK,yK.2.2.2,xW.2.2.2,yR.1⟩:xD)).bind fun y8 =>
  (bif (y8 != 0) then some ((⟨0,0,([]:List Int),0,0,[]⟩:xD),0,10) else
  some ((⟨zM.1,zC.1,dK,yK.2.2.2,xW.2.2.2,yR.1⟩:xD),vZ.2.2.1,0))
  | (.inr xJ) =>
  some xJ))
def EN (F:Nat) (zO:List xD) (rec:Int->Option (Unit⊕Int)) (zP:Int):Option (Unit⊕Int) :=
  (bif decide (zP<((zO.length:Nat):Int)) then (yX zO zP).bind fun zH =>
  (gU F zH).bind fun zA =>
  (bif (zA != 0) then some (.inr zA) else
  ((bif decide (zP>0) then ((yX zO (zI (zP - (1:Int)))).bind fun yO=>some (decide (zH.At<yO.At))) else (some false))).bind fun (zN:Bool) =>
  (bif zN then some (.inr 11) else
  rec (zI (zP+1)))) else
  some (.inl ()))
def DD (F:Nat) (zO:List xD):Nat->Int->Option (Unit⊕Int)
  | 0,_=>none
  | n+1,zP=>EN F zO (DD F zO n) zP
def D3 (F:Nat) (zO:List xD):Option Int :=
  (DD F zO F (0:Int)).bind fun (zE:Unit⊕Int) =>
  (match zE with
  | (.inl zX) =>
  some 0
  | (.inr xJ) =>
  some xJ)
def dV (F:Nat) (zN:z7) (rec:Int->Option (Unit⊕Int)) (zP:Int):Option (Unit⊕Int) :=
  (bif decide (zP<((3:Nat):Int)) then (yX [zN.Thread,zN.Serial,zN.Lost] zP).bind fun zH =>
  (bif (decide (zH<0)||decide (zH>1000000000000000)) then some (.inr 2) else
  rec (zI (zP+1))) else
  some (.inl ()))
def H5 (F:Nat) (zN:z7):Nat->Int->Option (Unit⊕Int)
  | 0,_=>none
  | n+1,zP=>dV F zN (H5 F zN n) zP
def gE (F:Nat) (zN:z7):Option Int :=
  (H5 F zN F (0:Int)).bind fun (zE:Unit⊕Int) =>
  (match zE with
  | (.inl zX) =>
  (((bif decide (zN.Lost>zN.Serial) then some (decide (zN.Lost>zN.Serial)) else
  some (decide ((zI (zN.Serial+((zN.Events.length:Nat):Int)))>1000000000000000))):Option Bool)).bind fun (zR:Bool) =>
  (bif zR then some 2 else
  (bif (((zN.Events.length:Nat):Int)==0) then some 8 else
  (bif decide (((zN.Events.length:Nat):Int)>1000) then some 7 else
  (D3 F zN.Events).bind fun zA =>
  some zA)))
  | (.inr xJ) =>
  some xJ)
def mP (F:Nat) (zL:List (List Int)) (y0:List Int) (rec:Int->Option (Unit⊕Int)) (zP:Int):Option (Unit⊕Int) :=
  (bif decide (zP<((zL.length:Nat):Int)) then (yX zL zP).bind fun zH =>
  (bif (y0==zH) then some (.inr zP) else
  rec (zI (zP+1))) else
  some (.inl ()))
def HV (F:Nat) (zL:List (List Int)) (y0:List Int):Nat->Int->Option (Unit⊕Int)
  | 0,_=>none
  | n+1,zP=>mP F zL y0 (HV F zL y0 n) zP
def JJ (F:Nat) (zL:List (List Int)) (y0:List Int):Option Int :=
  (HV F zL y0 F (0:Int)).bind fun (zE:Unit⊕Int) =>
  (match zE with
  | (.inl zX) =>
  some (-1)
  | (.inr xJ) =>
  some xJ)
def OX (zL:List (List Int)):Option (List (List Int)) :=
  (need (((([]:List (List Int))).length+zL.length) * 16<=140737488355328)).bind fun _ =>
  some ([]++zL)
def rW (F:Nat) (zZ:List (List Int)) (zL:List Int):Option (Int×(List (List Int))×Int) :=
  (dY F zL).bind fun zA =>
  (bif (zA != 0) then some (0,zZ,zA) else
  (JJ F zZ zL).bind fun zC =>
  (bif decide (zC>=0) then some (zC,zZ,0) else
  (bif decide (((zZ.length:Nat):Int)>=1000) then some (0,zZ,6) else
  (OX zZ).bind fun zM=>(need ((zM.length+([zL]).length) * 16<=140737488355328)).bind fun _ =>
  some (((zZ.length:Nat):Int),(zM++[zL]),0))))
def OO (zL:List zV):Option (List zV) :=
  (need (((([]:List zV)).length+zL.length) * 16<=140737488355328)).bind fun _ =>
  some ([]++zL)
def oI (F:Nat) (zL:List zV) (y0:zV) (rec:Int->Option (Unit⊕Int)) (zP:Int):Option (Unit⊕Int) :=
  (bif decide (zP<((zL.length:Nat):Int)) then (yX zL zP).bind fun zH =>
  (bif (decide (y0=zH)) then some (.inr zP) else
  rec (zI (zP+1))) else
  some (.inl ()))
def JQ (F:Nat) (zL:List zV) (y0:zV):Nat->Int->Option (Unit⊕Int)
  | 0,_=>none
  | n+1,zP=>oI F zL y0 (JQ F zL y0 n) zP
def H2 (F:Nat) (zL:List zV) (y0:zV):Option Int :=
  (JQ F zL y0 F (0:Int)).bind fun (zE:Unit⊕Int) =>
  (match zE with
  | (.inl zX) =>
  some (-1)
  | (.inr xJ) =>
  some xJ)
def E5 (F:Nat) (zZ:List (List Int)) (z6:List zV) (zO:List (List Int)) (rec:Int->(List (List Int))->Int->(List zV)->Option ((Int×(List (List Int))×(List zV))⊕(Int×(List (List Int))×(List zV)×Int))) (xU:Int) (z5:List (List Int)) (zP:Int) (zK:List zV):Option ((Int×(List (List Int))×(List zV))⊕(Int×(List (List Int))×(List zV)×Int)) :=
  (bif decide (zP<((zO.length:Nat):Int)) then (yX zO zP).bind fun zH =>
  (rW F z5 zH).bind fun zM =>
  (bif (zM.2.2 != 0) then some (.inr (0,zZ,z6,zM.2.2)) else
  (H2 F zK (⟨xU,zM.1⟩:zV)).bind fun zT =>
  (bif decide (zT>=0) then rec zT zM.2.1 (zI (zP+1)) zK else
  (bif decide (((zK.length:Nat):Int)>=1000) then some (.inr (0,zZ,z6,6)) else
  (need ((zK.length+([(⟨xU,zM.1⟩:zV)]).length) * 16<=140737488355328)).bind fun _ =>
  rec ((zK.length:Nat):Int) zM.2.1 (zI (zP+1)) (zK++[(⟨xU,zM.1⟩:zV)])))) else
  some (.inl (xU,z5,zK)))
def CA (F:Nat) (zZ:List (List Int)) (z6:List zV) (zO:List (List Int)):Nat->Int->(List (List Int))->Int->(List zV)->Option ((Int×(List (List Int))×(List zV))⊕(Int×(List (List Int))×(List zV)×Int))
  | 0,_,_,_,_=>none
  | n+1,xU,z5,zP,zK=>E5 F zZ z6 zO (CA F zZ z6 zO n) xU z5 zP zK
def CF (F:Nat) (zZ:List (List Int)) (z6:List zV) (zO:List (List Int)):Option (Int×(List (List Int))×(List zV)×Int) :=
  (AG F zO).bind fun zA =>
  (bif (zA != 0) then some (0,zZ,z6,zA) else
  (OO z6).bind fun zC =>
  (CA F zZ z6 zO F (-1) zZ 0 zC).bind fun (zE:(Int×(List (List Int))×(List zV))⊕(Int×(List (List Int))×(List zV)×Int)) =>
  (match zE with
  | (.inl zX) =>
  some (zX.1,zX.2.1,zX.2.2,0)
  | (.inr xJ) =>
  some xJ))
abbrev zY1:Type:=((List Int)×(List (List Int))×(List zV)×Int)
def J1 (F:Nat) (zZ:List (List Int)) (z6:List zV) (zY:xD):Option zY1 :=
  (fE F zZ z6).bind fun zA =>
  (bif (zA != 0) then some ([],[],[],1) else
  (gU F zY).bind fun zC =>
  (bif (zC != 0) then some ([],[],[],zC) else
  (GW zY.Kind).bind fun zM =>
  (qT F [] zY.Kind).bind fun zT=>(qT F zT zY.At).bind fun zU =>
  (((bif zM.1 then (rW F zZ zY.Name).bind fun yF =>
  (bif (yF.2.2 != 0) then some (.inr ([],[],[],yF.2.2)) else
  (qT F zU yF.1).bind fun yY =>
  some (.inl (yF.2.1,yY))) else
  some (.inl (zZ,zU))):Option (((List (List Int))×(List Int))⊕zY1))).bind fun (zE:((List (List Int))×(List Int))⊕zY1) =>
  (match zE with
  | (.inl zX) =>
  (((bif zM.2.1 then (qT F zX.2 zY.N).bind fun yH =>
  some yH else
  some zX.2):Option (List Int))).bind fun (zR:(List Int)) =>
  (((bif zM.2.2.1 then (qT F zR zY.M).bind fun yR =>
  some yR else
  some zR):Option (List Int))).bind fun (yK:(List Int)) =>
  (((bif zM.2.2.2 then (CF F zX.1 z6 zY.Stack).bind fun y8 =>
  (bif (y8.2.2.2 != 0) then some (.inr ([],[],[],y8.2.2.2)) else
  (qT F yK y8.1).bind fun wM =>
  some (.inl (y8.2.1,y8.2.2.1,wM))) else
  some (.inl (zX.1,z6,yK))):Option (((List (List Int))×(List zV)×(List Int))⊕zY1))).bind fun (xW:((List (List Int))×(List zV)×(List Int))⊕zY1) =>
  (match xW with
  | (.inl vQ) =>
  some (vQ.2.2,vQ.1,vQ.2.1,0)
  | (.inr t3) =>
  some t3)
  | (.inr xJ) =>
  some xJ)))
def H1 (F:Nat) (zO:List Int) (rec:Int->(List Int)->Option (List Int)) (zP:Int) (zK:List Int):Option (List Int) :=
  (bif decide (zP<((zO.length:Nat):Int)) then (yX zO zP).bind fun zH =>
  (qT F zK zH).bind fun zA =>
  rec (zI (zP+1)) zA else
  some zK)
def DK (F:Nat) (zO:List Int):Nat->Int->(List Int)->Option (List Int)
  | 0,_,_=>none
  | n+1,zP,zK=>H1 F zO (DK F zO n) zP zK
def KB (F:Nat) (zO:List Int):Option (List Int) :=
  (DK F zO F 0 []).bind fun (zE:(List Int)) =>
  some zE
def KR (F:Nat) (zO:List Int) (rec:Int->(List Int)->Option (List Int)) (zP:Int) (zK:List Int):Option (List Int) :=
  (bif decide (zP<((zO.length:Nat):Int)) then (yX zO zP).bind fun zH =>
  (qT F zK zH).bind fun zA =>
  rec (zI (zP+1)) zA else
  some zK)
def A8 (F:Nat) (zO:List Int):Nat->Int->(List Int)->Option (List Int)
  | 0,_,_=>none
  | n+1,zP,zK=>KR F zO (A8 F zO n) zP zK
def lI (F:Nat) (zF:List Int) (zO:List Int):Option (List Int) :=
  (A8 F zO F 0 zF).bind fun (zE:(List Int)) =>
  some zE
def JS (F:Nat) (zN:z7) (rec:(List (List Int))->(List zV)->Int->(List Int)->Option (((List (List Int))×(List zV)×(List Int))⊕((List Int)×Int))) (zZ:List (List Int)) (z6:List zV) (zP:Int) (zK:List Int):Option (((List (List Int))×(List zV)×(List Int))⊕((List Int)×Int)) :=
  (bif decide (zP<((zN.Events.length:Nat):Int)) then (yX zN.Events zP).bind fun zH =>
  (J1 F zZ z6 zH).bind fun zC =>
  (bif (zC.2.2.2 != 0) then some (.inr ([],zC.2.2.2)) else
  (need ((zK.length+zC.1.length) * 1<=140737488355328)).bind fun _ =>
  rec zC.2.1 zC.2.2.1 (zI (zP+1)) (zK++zC.1)) else
  some (.inl (zZ,z6,zK)))
def C8 (F:Nat) (zN:z7):Nat->(List (List Int))->(List zV)->Int->(List Int)->Option (((List (List Int))×(List zV)×(List Int))⊕((List Int)×Int))
  | 0,_,_,_,_=>none
  | n+1,zZ,z6,zP,zK=>JS F zN (C8 F zN n) zZ z6 zP zK
def HF (F:Nat) (zX:(List (List Int))×(List zV)×(List Int)) (rec:Int->(List Int)->Option (List Int)) (wE:Int) (z4:List Int):Option (List Int) :=
  (bif decide (wE<((zX.1.length:Nat):Int)) then (yX zX.1 wE).bind fun yO =>
  (CZ F z4 yO).bind fun zT =>
  rec (zI (wE+1)) zT else
  some z4)
def BQ (F:Nat) (zX:(List (List Int))×(List zV)×(List Int)):Nat->Int->(List Int)->Option (List Int)
  | 0,_,_=>none
  | n+1,wE,z4=>HF F zX (BQ F zX n) wE z4
def GJ (F:Nat) (zX:(List (List Int))×(List zV)×(List Int)) (rec:Int->(List Int)->Option (List Int)) (vU:Int) (yL:List Int):Option (List Int) :=
  (bif decide (vU<((zX.2.1.length:Nat):Int)) then (yX zX.2.1 vU).bind fun xE =>
  (lI F yL [xE.c0,xE.c1]).bind fun yF =>
  rec (zI (vU+1)) yF else
  some yL)
def DA (F:Nat) (zX:(List (List Int))×(List zV)×(List Int)):Nat->Int->(List Int)->Option (List Int)
  | 0,_,_=>none
  | n+1,vU,yL=>GJ F zX (DA F zX n) vU yL
def iV (F:Nat) (zN:z7):Option ((List Int)×Int) :=
  (gE F zN).bind fun zA =>
  (bif (zA != 0) then some ([],zA) else
  (C8 F zN F [] [] 0 []).bind fun (zE:((List (List Int))×(List zV)×(List Int))⊕((List Int)×Int)) =>
  (match zE with
  | (.inl zX) =>
  (KB F [zN.Thread,zN.Serial,zN.Lost,((zX.1.length:Nat):Int)]).bind fun zM =>
  (BQ F zX F 0 zM).bind fun (zR:(List Int)) =>
  (lI F zR ([((zX.2.1.length:Nat):Int)]:List Int)).bind fun zU =>
  (DA F zX F 0 zU).bind fun (yK:(List Int)) =>
  (lI F yK ([((zN.Events.length:Nat):Int)]:List Int)).bind fun yY=>(need ((yY.length+zX.2.2.length) * 1<=140737488355328)).bind fun _ =>
  some ((yY++zX.2.2),0)
  | (.inr xJ) =>
  some xJ))
def mQ (F:Nat) (rec:Int->(List Int)->Int->Int->(List (List Int))->Option ((List Int)×Int×Int×(List (List Int)))) (z5:Int) (zB:List Int) (y5:Int) (y6:Int) (zK:List (List Int)):Option ((List Int)×Int×Int×(List (List Int))) :=
  (bif (decide (z5>0)&&(y6==0)) then (KV F (⟨zB,y5,y6⟩:qQ)).bind fun zU=>(need ((zK.length+([zU.1]).length) * 16<=140737488355328)).bind fun _ =>
  rec (zI (z5 - 1)) zU.2.b zU.2.used zU.2.fault (zK++[zU.1]) else
  some (zB,y5,y6,zK))
def BP (F:Nat):Nat->Int->(List Int)->Int->Int->(List (List Int))->Option ((List Int)×Int×Int×(List (List Int)))
  | 0,_,_,_,_,_=>none
  | n+1,z5,zB,y5,y6,zK=>mQ F (BP F n) z5 zB y5 y6 zK
def mB (F:Nat) (rec:Int->(List Int)->Int->Int->(List zV)->Option ((List Int)×Int×Int×(List zV))) (t5:Int) (yW:List Int) (xC:Int) (xK:Int) (z4:List zV):Option ((List Int)×Int×Int×(List zV)) :=
  (bif (decide (t5>0)&&(xK==0)) then (bD F (⟨yW,xC,xK⟩:qQ)).bind fun yY =>
  (bD F yY.2).bind fun yH=>(need ((z4.length+([(⟨yY.1,yH.1⟩:zV)]).length) * 16<=140737488355328)).bind fun _ =>
  rec (zI (t5 - 1)) yH.2.b yH.2.used yH.2.fault (z4++[(⟨yY.1,yH.1⟩:zV)]) else
  some (yW,xC,xK,z4))
def BM (F:Nat):Nat->Int->(List Int)->Int->Int->(List zV)->Option ((List Int)×Int×Int×(List zV))
  | 0,_,_,_,_,_=>none
  | n+1,t5,yW,xC,xK,z4=>mB F (BM F n) t5 yW xC xK z4
def m9 (F:Nat) (zF:List Int) (zE:((List Int)×Int×Int×(List (List Int)))) (zR:((List Int)×Int×Int×(List zV))) (rec:Int->Int->Int->(List xD)->Option (Int×Int×(List xD))) (cB:Int) (vD:Int) (vK:Int) (yL:List xD):Option (Int×Int×(List xD)) :=
  (bif (decide (cB>0)&&(vK==0)) then (need (0<=vD/\vD<=((zF.length:Nat):Int))).bind fun _=>(GZ F zE.2.2.2 zR.2.2.2 (sub zF vD ((zF.length:Nat):Int))).bind fun wM =>
  (need ((yL.length+([wM.1]).length) * 72<=140737488355328)).bind fun _ =>
  rec (zI (cB - 1)) (zI (vD+wM.2.1)) wM.2.2 (yL++[wM.1]) else
  some (vD,vK,yL))
def BC (F:Nat) (zF:List Int) (zE:((List Int)×Int×Int×(List (List Int)))) (zR:((List Int)×Int×Int×(List zV))):Nat->Int->Int->Int->(List xD)->Option (Int×Int×(List xD))
  | 0,_,_,_,_=>none
  | n+1,cB,vD,vK,yL=>m9 F zF zE zR (BC F zF zE zR n) cB vD vK yL
def E9 (F:Nat) (zF:List Int):Option (z7×Int×Int) :=
  (bD F (⟨zF,0,0⟩:qQ)).bind fun zA =>
  (bD F zA.2).bind fun zC =>
  (bD F zC.2).bind fun zM =>
  (cW F zM.2 (1000:Int)).bind fun zT =>
  (BP F F zT.1 zT.2.b zT.2.used zT.2.fault []).bind fun (zE:((List Int)×Int×Int×(List (List Int)))) =>
  (cW F (⟨zE.1,zE.2.1,zE.2.2.1⟩:qQ) (1000:Int)).bind fun yF =>
  (BM F F yF.1 yF.2.b yF.2.used yF.2.fault []).bind fun (zR:((List Int)×Int×Int×(List zV))) =>
  (((bif (zR.2.2.1==0) then (fE F zE.2.2.2 zR.2.2.2).bind fun yR =>
  some yR else
  some zR.2.2.1):Option Int)).bind fun (yK:Int) =>
  (cW F (⟨zR.1,zR.2.1,yK⟩:qQ) (1000:Int)).bind fun y8 =>
  (BC F zF zE zR F y8.1 y8.2.used y8.2.fault []).bind fun (xW:(Int×Int×(List xD))) =>
  (((bif (xW.2.1==0) then (gE F (⟨zA.1,zC.1,zM.1,xW.2.2⟩:z7)).bind fun vT =>
  some vT else
  some xW.2.1):Option Int)).bind fun (vZ:Int) =>
  (bif (vZ != 0) then some ((⟨0,0,0,[]⟩:z7),0,vZ) else
  (iV F (⟨zA.1,zC.1,zM.1,xW.2.2⟩:z7)).bind fun qF =>
  ((bif (qF.2 != 0) then (some true) else ((need (0<=xW.1/\xW.1<=((zF.length:Nat):Int))).bind fun _=>(dW qF.1 (sub zF 0 xW.1)).bind fun pV=>some (!pV)))).bind fun (zN:Bool) =>
  (bif zN then some ((⟨0,0,0,[]⟩:z7),0,10) else
  some ((⟨zA.1,zC.1,zM.1,xW.2.2⟩:z7),xW.1,0)))
def MY (tO:xI) (y0:z7):Option Bool :=
  some (tO.Id==y0.Thread)
def o9 (F:Nat) (zL:List xI) (zB:z7) (rec:Int->Option (Unit⊕Int)) (zP:Int):Option (Unit⊕Int) :=
  (bif decide (zP<((zL.length:Nat):Int)) then (yX zL zP).bind fun zH=>(MY zH zB).bind fun zA =>
  (bif zA then some (.inr zP) else
  rec (zI (zP+1))) else
  some (.inl ()))
def K0 (F:Nat) (zL:List xI) (zB:z7):Nat->Int->Option (Unit⊕Int)
  | 0,_=>none
  | n+1,zP=>o9 F zL zB (K0 F zL zB n) zP
def NL (F:Nat) (zL:List xI) (zB:z7):Option Int :=
  (K0 F zL zB F (0:Int)).bind fun (zE:Unit⊕Int) =>
  (match zE with
  | (.inl zX) =>
  some (-1)
  | (.inr xJ) =>
  some xJ)
def EG (F:Nat) (zL:List xI) (zB:z7):Option Bool :=
  (NL F zL zB).bind fun zA =>
  some (decide (zA>=0))
def rX (F:Nat) (zB:xF) (zN:z7):Option (Int×xF) :=
  (EG F zB.head.Threads zN).bind fun zA =>
  (bif !zA then some (5,zB) else
  ((bif (zN.Serial != (zI ((((uY (zB.ends.getD []) zN.Thread).getD (⟨0,0⟩:wO)).next)+zN.Lost))) then (some true) else ((yX zN.Events (0:Int)).bind fun zH=>some (decide (zH.At<(((uY (zB.ends.getD []) zN.Thread).getD (⟨0,0⟩:wO)).last)))))).bind fun (uW:Bool) =>
  (bif uW then some (11,zB) else
  (((bif zB.ends.isNone then some [] else
  some (zB.ends.getD [])):Option (List (Int×wO)))).bind fun (zE:(List (Int×wO))) =>
  (yX zN.Events (zI (((zN.Events.length:Nat):Int) - (1:Int)))).bind fun yO=>(need (zE.length<140737488355328)).bind fun _ =>
  (need ((zB.packets.length+([zN]).length) * 48<=140737488355328)).bind fun _ =>
  some (0,(⟨zB.head,(zB.packets++[zN]),(some (w8 zE zN.Thread (⟨zI (zN.Serial+((zN.Events.length:Nat):Int)),yO.At⟩:wO))),zI (zB.events+((zN.Events.length:Nat):Int))⟩:xF))))
def lZ (F:Nat) (zF:List Int) (rec:Bool->Bool->Int->(List xI)->(List xA)->(List yZ)->(Option (List (Int×wO)))->Int->Int->(List z7)->(List xI)->(List xA)->(Option (List (Int×wO)))->Int->(List yZ)->(List z7)->Option wY) (pW:Bool) (aX:Bool) (xU:Int) (zB:List xI) (y5:List xA) (y6:List yZ) (yW:Option (List (Int×wO))) (xC:Int) (xK:Int) (zK:List z7) (vD:List xI) (vK:List xA) (vH:Option (List (Int×wO))) (v9:Int) (z4:List yZ) (yL:List z7):Option wY :=
  (need (0<=xU/\xU<=((zF.length:Nat):Int))).bind fun _=>(DL F (sub zF xU ((zF.length:Nat):Int))).bind fun zU =>
  (bif (zU.2.2==0) then some (⟨(⟨(⟨zB,y5,y6⟩:yB),zK,yW,xC⟩:xF),xK⟩:wY) else
  (bif (zU.1==83) then (DY F zU.2.1).bind fun yF =>
  (need ((z4.length+([yF.1]).length) * 40<=140737488355328)).bind fun _ =>
  ((bif !yF.2 then (some true) else (bif aX then (some true) else ((oQ F vK (z4++[yF.1])).bind fun yY=>some (yY != (0:Int)))))).bind fun (uW:Bool) =>
  (bif uW then some (⟨(⟨(⟨zB,y5,y6⟩:yB),zK,yW,xC⟩:xF),xK⟩:wY) else
  rec true aX (zI (xU+zU.2.2)) zB y5 y6 yW xC xK zK vD vK vH v9 (z4++[yF.1]) yL) else
  (bif (zU.1==80) then (E9 F zU.2.1).bind fun yH =>
  ((bif (yH.2.2 != 0) then (some (true,vD,vK,vH,v9,z4,yL)) else (bif (yH.2.1 != ((zU.2.1.length:Nat):Int)) then (some (true,vD,vK,vH,v9,z4,yL)) else ((rX F (⟨(⟨vD,vK,z4⟩:yB),yL,vH,v9⟩:xF) yH.1).bind fun yR=>bif (yR.1 != 0) then (some (true,yR.2.head.Threads,yR.2.head.Domains,yR.2.ends,yR.2.events,yR.2.head.Snaps,yR.2.packets)) else (some (decide (yR.2.events>20000),yR.2.head.Threads,yR.2.head.Domains,yR.2.ends,yR.2.events,yR.2.head.Snaps,yR.2.packets)))))).bind fun (j0:Bool×(List xI)×(List xA)×(Option (List (Int×wO)))×Int×(List yZ)×(List z7)) =>
  (bif j0.1 then some (⟨(⟨(⟨zB,y5,y6⟩:yB),zK,yW,xC⟩:xF),xK⟩:wY) else
  rec true true (zI (xU+zU.2.2)) zB y5 y6 yW xC xK zK j0.2.1 j0.2.2.1 j0.2.2.2.1 j0.2.2.2.2.1 j0.2.2.2.2.2.1 j0.2.2.2.2.2.2) else
  (bif (zU.1==70) then (bif (decide (((zU.2.1.length:Nat):Int)>0)||!pW) then some (⟨(⟨(⟨zB,y5,y6⟩:yB),zK,yW,xC⟩:xF),xK⟩:wY) else
  (CT (⟨(⟨vD,vK,z4⟩:yB),yL,vH,v9⟩:xF)).bind fun y8 =>
  rec false false (zI (xU+zU.2.2)) vD vK z4 vH v9 (zI (xU+zU.2.2)) yL y8.head.Threads y8.head.Domains y8.ends y8.events y8.head.Snaps y8.packets) else
  some (⟨(⟨(⟨zB,y5,y6⟩:yB),zK,yW,xC⟩:xF),xK⟩:wY)))))
def AL (F:Nat) (zF:List Int):Nat->Bool->Bool->Int->(List xI)->(List xA)->(List yZ)->(Option (List (Int×wO)))->Int->Int->(List z7)->(List xI)->(List xA)->(Option (List (Int×wO)))->Int->(List yZ)->(List z7)->Option wY
  | 0,_,_,_,_,_,_,_,_,_,_,_,_,_,_,_,_=>none
  | n+1,pW,aX,xU,zB,y5,y6,yW,xC,xK,zK,vD,vK,vH,v9,z4,yL=>lZ F zF (AL F zF n) pW aX xU zB y5 y6 yW xC xK zK vD vK vH v9 z4 yL
def iU (F:Nat) (zF:List Int):Option wY :=
  (DL F zF).bind fun zA =>
  (KN F zA.2.1).bind fun zC =>
  ((bif (zA.2.2==0) then (some true) else (bif (zA.1 != 72) then (some true) else (bif !zC.2 then (some true) else ((rA F zC.1).bind fun zM=>some (zM != (0:Int))))))).bind fun (zN:Bool) =>
  (bif zN then some (⟨(⟨(⟨[],[],[]⟩:yB),[],none,0⟩:xF),0⟩:wY) else
  (CT (⟨zC.1,[],none,0⟩:xF)).bind fun zT =>
  (AL F zF F false false zA.2.2 zC.1.Threads zC.1.Domains zC.1.Snaps none 0 zA.2.2 [] zT.head.Threads zT.head.Domains zT.ends zT.events zT.head.Snaps zT.packets).bind fun (zE:wY) =>
  some zE)
def OZ (F:Nat) (zF:List Int):Option (yB×(List z7)×Int) :=
  (iU F zF).bind fun zA =>
  some (zA.done.head,zA.done.packets,zA.used)
def S2 (F:Nat) (y0:yB) (zF:yB) (rec:Int->Option (Unit⊕Bool)) (zQ:Int):Option (Unit⊕Bool) :=
  (bif decide (zQ<((y0.Threads.length:Nat):Int)) then (yX y0.Threads zQ).bind fun zH=>(yX zF.Threads zQ).bind fun yO =>
  (bif (!(decide (zH=yO))) then some (.inr false) else
  rec (zI (zQ+1))) else
  some (.inl ()))
def MB (F:Nat) (y0:yB) (zF:yB):Nat->Int->Option (Unit⊕Bool)
  | 0,_=>none
  | n+1,zQ=>S2 F y0 zF (MB F y0 zF n) zQ
def SK (F:Nat) (y0:yB) (zF:yB) (rec:Int->Option (Unit⊕Bool)) (y9:Int):Option (Unit⊕Bool) :=
  (bif decide (y9<((y0.Domains.length:Nat):Int)) then (yX y0.Domains y9).bind fun xE=>(yX zF.Domains y9).bind fun wI =>
  (bif (!(decide (xE=wI))) then some (.inr false) else
  rec (zI (y9+1))) else
  some (.inl ()))
def M4 (F:Nat) (y0:yB) (zF:yB):Nat->Int->Option (Unit⊕Bool)
  | 0,_=>none
  | n+1,y9=>SK F y0 zF (M4 F y0 zF n) y9
def UB (F:Nat) (y0:yB) (zF:yB) (rec:Int->Option (Unit⊕Bool)) (wQ:Int):Option (Unit⊕Bool) :=
  (bif decide (wQ<((y0.Snaps.length:Nat):Int)) then (yX y0.Snaps wQ).bind fun vG=>(yX zF.Snaps wQ).bind fun uV =>
  (bif (!(decide (vG=uV))) then some (.inr false) else
  rec (zI (wQ+1))) else
  some (.inl ()))
def MJ (F:Nat) (y0:yB) (zF:yB):Nat->Int->Option (Unit⊕Bool)
  | 0,_=>none
  | n+1,wQ=>UB F y0 zF (MJ F y0 zF n) wQ
def Q1 (F:Nat) (y0:yB) (zF:yB):Option Bool :=
  (bif ((((y0.Threads.length:Nat):Int) != ((zF.Threads.length:Nat):Int))||((((y0.Domains.length:Nat):Int) != ((zF.Domains.length:Nat):Int))||(((y0.Snaps.length:Nat):Int) != ((zF.Snaps.length:Nat):Int)))) then some false else
  (MB F y0 zF F (0:Int)).bind fun (zE:Unit⊕Bool) =>
  (match zE with
  | (.inl zX) =>
  (M4 F y0 zF F (0:Int)).bind fun (zR:Unit⊕Bool) =>
  (match zR with
  | (.inl vQ) =>
  (MJ F y0 zF F (0:Int)).bind fun (yK:Unit⊕Bool) =>
  (match yK with
  | (.inl q_5) =>
  some true
  | (.inr q_6) =>
  some q_6)
  | (.inr t3) =>
  some t3)
  | (.inr xJ) =>
  some xJ))
def M3 (i7:Int) (xU:Int):Option z7 :=
  some (⟨1,i7,0,[(⟨xU,3,([97]:List Int),0,0,[]⟩:xD)]⟩:z7)
def KG (F:Nat) (wZ:List yZ) (rec:Int->(List (List Int))->Option (List (List Int))) (zP:Int) (zK:List (List Int)):Option (List (List Int)) :=
  (bif decide (zP<((wZ.length:Nat):Int)) then (yX wZ zP).bind fun zH =>
  (lO F [] zH).bind fun zA=>(fA F 83 zA).bind fun zC=>(need ((zK.length+([zC]).length) * 24<=140737488355328)).bind fun _ =>
  rec (zI (zP+1)) (zK++[zC]) else
  some zK)
def DW (F:Nat) (wZ:List yZ):Nat->Int->(List (List Int))->Option (List (List Int))
  | 0,_,_=>none
  | n+1,zP,zK=>KG F wZ (DW F wZ n) zP zK
def GQ (F:Nat) (zO:List z7) (rec:Int->(List (List Int))->Option (List (List Int))) (wE:Int) (z4:List (List Int)):Option (List (List Int)) :=
  (bif decide (wE<((zO.length:Nat):Int)) then (yX zO wE).bind fun yO =>
  (iV F yO).bind fun zM =>
  (fA F 80 zM.1).bind fun zT=>(need ((z4.length+([zT]).length) * 24<=140737488355328)).bind fun _ =>
  rec (zI (wE+1)) (z4++[zT]) else
  some z4)
def D2 (F:Nat) (zO:List z7):Nat->Int->(List (List Int))->Option (List (List Int))
  | 0,_,_=>none
  | n+1,wE,z4=>GQ F zO (D2 F zO n) wE z4
def HU (F:Nat) (zR:(List (List Int))) (zU:(List Int)) (rec:Int->Int->Option Int) (wV:Int) (vU:Int):Option Int :=
  (bif decide (vU<((((zR++[zU])).length:Nat):Int)) then (yX (zR++[zU]) vU).bind fun xE =>
  rec (zI (wV+((xE.length:Nat):Int))) (zI (vU+1)) else
  some wV)
def JA (F:Nat) (zR:(List (List Int))) (zU:(List Int)):Nat->Int->Int->Option Int
  | 0,_,_=>none
  | n+1,wV,vU=>HU F zR zU (JA F zR zU n) wV vU
def GC (F:Nat) (wZ:List yZ) (zO:List z7):Option ((List (List Int))×Int) :=
  (DW F wZ F 0 []).bind fun (zE:(List (List Int))) =>
  (D2 F zO F 0 zE).bind fun (zR:(List (List Int))) =>
  (fA F 70 []).bind fun zU=>(need ((zR.length+([zU]).length) * 24<=140737488355328)).bind fun _ =>
  (JA F zR zU F 0 (0:Int)).bind fun (yK:Int) =>
  some ((zR++[zU]),yK)
abbrev zY0:Type:=((List xI)×(List xA)×(Option (List (Int×wO)))×Int×(List yZ)×(List z7))
def KO (F:Nat) (zO:List z7) (rec:Int->(List xI)->(List xA)->(Option (List (Int×wO)))->Int->(List yZ)->(List z7)->Option (zY0⊕(yD×Int))) (zP:Int) (zB:List xI) (y5:List xA) (y6:Option (List (Int×wO))) (yW:Int) (zK:List yZ) (z4:List z7):Option (zY0⊕(yD×Int)) :=
  (bif decide (zP<((zO.length:Nat):Int)) then (yX zO zP).bind fun zH =>
  (gE F zH).bind fun zU =>
  (bif (zU != 0) then some (.inr ((⟨0,[],0,0,false⟩:yD),zU)) else
  (rX F (⟨(⟨zB,y5,zK⟩:yB),z4,y6,yW⟩:xF) zH).bind fun yF =>
  (bif (yF.1 != 0) then some (.inr ((⟨0,[],0,0,false⟩:yD),yF.1)) else
  (iV F zH).bind fun yY =>
  (bif (yY.2 != 0) then some (.inr ((⟨0,[],0,0,false⟩:yD),yY.2)) else
  rec (zI (zP+1)) yF.2.head.Threads yF.2.head.Domains yF.2.ends yF.2.events yF.2.head.Snaps yF.2.packets))) else
  some (.inl (zB,y5,y6,yW,zK,z4)))
def HX (F:Nat) (zO:List z7):Nat->Int->(List xI)->(List xA)->(Option (List (Int×wO)))->Int->(List yZ)->(List z7)->Option (zY0⊕(yD×Int))
  | 0,_,_,_,_,_,_,_=>none
  | n+1,zP,zB,y5,y6,yW,zK,z4=>KO F zO (HX F zO n) zP zB y5 y6 yW zK z4
def mM (F:Nat) (zG:yD) (wZ:List yZ) (zO:List z7):Option (yD×Int) :=
  (fJ zG).bind fun zA =>
  (bif (zA != 0) then some ((⟨0,[],0,0,false⟩:yD),zA) else
  (bif zG.Down then some (zG,19) else
  (iU F zG.Data).bind fun zC =>
  (bif ((zC.used==0)||(zC.used != ((zG.Data.length:Nat):Int))) then some ((⟨0,[],0,0,false⟩:yD),18) else
  (bif ((zI (((wZ.length:Nat):Int)+((zO.length:Nat):Int)))==0) then some (zG,0) else
  (BI zC.done.head.Snaps).bind fun zM=>(need ((zM.length+wZ.length) * 40<=140737488355328)).bind fun _ =>
  (oQ F zC.done.head.Domains (zM++wZ)).bind fun zT =>
  (bif (zT != 0) then some ((⟨0,[],0,0,false⟩:yD),zT) else
  (HX F zO F 0 zC.done.head.Threads zC.done.head.Domains zC.done.ends zC.done.events (zM++wZ) zC.done.packets).bind fun (zE:zY0⊕(yD×Int)) =>
  (match zE with
  | (.inl zX) =>
  (bif decide (zX.2.2.2.1>20000) then some ((⟨0,[],0,0,false⟩:yD),7) else
  (GC F wZ zO).bind fun yH =>
  (bif decide ((zI (((zG.Data.length:Nat):Int)+yH.2))>zG.Size) then some ((⟨0,[],0,0,false⟩:yD),6) else
  (DH F zG yH.1).bind fun yR =>
  some (yR.1,yR.2)))
  | (.inr xJ) =>
  some xJ))))))
def ST (zG:yD) (z5:Int):Option (yD×Int) :=
  (dC zG).bind fun zA =>
  (bif (zA.2 != 0) then some (zA.1,zA.2) else
  (bif (decide (z5<0)||decide (z5>1048576)) then some ((⟨0,[],0,0,false⟩:yD),2) else
  some ((⟨zA.1.Size,zA.1.Data,zA.1.Durable,z5,zA.1.Down⟩:yD),0)))
def RA (zG:yD) (i9:Int):Option yD :=
  (fJ zG).bind fun zA =>
  (bif (zA != 0) then some zG else
  (((bif decide (i9<(zI (((zG.Data.length:Nat):Int) - zG.Durable))) then some (zI (zG.Durable+(A6 i9 0))) else
  some ((zG.Data.length:Nat):Int)):Option Int)).bind fun (zE:Int) =>
  (need (0<=zE/\zE<=((zG.Data.length:Nat):Int))).bind fun _=>(GB (sub zG.Data 0 zE)).bind fun zC =>
  some (⟨zG.Size,zC,zE,(-1),false⟩:yD))
def JN (zG:yD) (z5:Int):Option (yD×Int) :=
  (dC zG).bind fun zA =>
  (bif (zA.2 != 0) then some (zA.1,zA.2) else
  (bif (decide (z5<0)||decide (z5>((zA.1.Data.length:Nat):Int))) then some ((⟨0,[],0,0,false⟩:yD),2) else
  (need (0<=z5/\z5<=((zA.1.Data.length:Nat):Int))).bind fun _ =>
  some ((⟨zA.1.Size,sub zA.1.Data 0 z5,n7 zA.1.Durable z5,zA.1.Left,zA.1.Down⟩:yD),0)))
def B5 (F:Nat) (zG:yD):Option (yD×Int) :=
  (fJ zG).bind fun zA =>
  (bif (zA != 0) then some ((⟨0,[],0,0,false⟩:yD),zA) else
  (bif zG.Down then some (zG,19) else
  (iU F zG.Data).bind fun zC =>
  (bif (zC.used==0) then some ((⟨0,[],0,0,false⟩:yD),10) else
  (JN zG zC.used).bind fun zM =>
  (bif (zM.2 != 0) then some (zM.1,zM.2) else
  (CS zM.1).bind fun zT =>
  some (zT.1,zT.2)))))
def E4 (F:Nat):Option Bool :=
  (Q7 (1000:Int)).bind fun zA =>
  (OD ).bind fun zC=>(BH F zA.1 zC).bind fun zM =>
  (OZ F zM.1.Data).bind fun zT =>
  ((bif (zA.2 != 0) then (some true) else (bif (zM.2 != 0) then (some true) else ((OD ).bind fun zU=>(Q1 F zT.1 zU).bind fun yF=>bif !yF then (some true) else (bif (((zT.2.1.length:Nat):Int) != 0) then (some true) else (bif (zT.2.2 != ((zM.1.Data.length:Nat):Int)) then (some true) else (some (zT.2.2==(0:Int))))))))).bind fun (zN:Bool) =>
  (bif zN then some false else
  (need (0<=(zI (zT.2.2 - 1))/\(zI (zT.2.2 - 1))<=((zM.1.Data.length:Nat):Int))).bind fun _=>(OZ F (sub zM.1.Data 0 (zI (zT.2.2 - (1:Int))))).bind fun yY =>
  (M3 0 (5:Int)).bind fun yH=>(mM F zM.1 [] [yH]).bind fun yR =>
  (bif ((yR.2 != 0)||(yY.2.2 != 0)) then some false else
  (ST zM.1 (zI ((zI (((yR.1.Data.length:Nat):Int) - zT.2.2)) - (1:Int)))).bind fun y8 =>
  (M3 0 (5:Int)).bind fun wM=>(mM F y8.1 [] [wM]).bind fun vT =>
  (RA vT.1 (1000:Int)).bind fun qF=>(B5 F qF).bind fun pV =>
  (fA F 70 []).bind fun aG =>
  ((bif (vT.2==19) then (bif (pV.2==0) then (bif (((pV.1.Data.length:Nat):Int)==zT.2.2) then (bif decide (((aG.length:Nat):Int)>2) then ((yX aG (0:Int)).bind fun zH=>bif (zH==70) then ((yX aG (1:Int)).bind fun yO=>some (yO==0)) else (some false)) else (some false)) else (some false)) else (some false)) else (some false))).bind fun (uW:Bool) =>
  some uW))
structure uE where
  B:List Int
  Bad:Bool
  deriving DecidableEq,Inhabited
def tU (s:uE):List AV:=[.sl false 1 (List.map (AV.int .u8) s.B),.bool s.Bad]
def J7 (wH:Int):Option Int :=
  (bif ((kL wH 2)==1) then some (zI ((zI (0 - (zI (nW .u64 wH 2)))) - 1)) else
  some (zI (nW .u64 wH 2)))
def GT (F:Nat) (zF:List Int) (rec:Int->Int->Int->Option (Unit⊕(Int×Int×Int))) (wH:Int) (aY:Int) (zQ:Int):Option (Unit⊕(Int×Int×Int)) :=
  (bif decide (zQ<10) then (bif decide (zQ>=((zF.length:Nat):Int)) then some (.inr (0,0,8)) else
  (yX zF zQ).bind fun zH =>
  (bif ((zQ==9)&&decide ((v6 zH)>1)) then some (.inr (0,0,10)) else
  (bif (decide ((v6 zH)<128)&&(((v6 zH)==0)&&decide (zQ>0))) then some (.inr (0,0,10)) else
  (bif decide ((v6 zH)<128) then (J7 (v6 (wH+(v6 ((kL (v6 zH) 128) * aY))))).bind fun zA =>
  some (.inr (zA,zI (zQ+1),0)) else
  rec (v6 (wH+(v6 ((kL (v6 zH) 128) * aY)))) (v6 (aY * 128)) (zI (zQ+1)))))) else
  some (.inl ()))
def lX (F:Nat) (zF:List Int):Nat->Int->Int->Int->Option (Unit⊕(Int×Int×Int))
  | 0,_,_,_=>none
  | n+1,wH,aY,zQ=>GT F zF (lX F zF n) wH aY zQ
def g6 (F:Nat) (zF:List Int):Option (Int×Int×Int) :=
  (lX F zF F 0 1 (0:Int)).bind fun (zE:Unit⊕(Int×Int×Int)) =>
  (match zE with
  | (.inl zX) =>
  some (0,0,10)
  | (.inr xJ) =>
  some xJ)
def nA (F:Nat) (zH:uE):Option (Int×uE) :=
  (g6 F zH.B).bind fun zA =>
  (bif (zA.2.2 != 0) then some (0,(⟨zH.B,true⟩:uE)) else
  (need (0<=zA.2.1/\zA.2.1<=((zH.B.length:Nat):Int))).bind fun _ =>
  some (zA.1,(⟨sub zH.B zA.2.1 ((zH.B.length:Nat):Int),zH.Bad⟩:uE)))
def rF (F:Nat) (rec:Int->Int->Option Int) (xE:Int) (xH:Int):Option Int :=
  (bif decide (xH<8) then (((bif ((kL xE 2)==1) then some (tW .u32 (nW .u32 xE 2) 3988292384) else
  some (nW .u32 xE 2)):Option Int)).bind fun (yK:Int) =>
  rec yK (zI (xH+1)) else
  some xE)
def iW (F:Nat):Nat->Int->Int->Option Int
  | 0,_,_=>none
  | n+1,xE,xH=>rF F (iW F n) xE xH
def EH (F:Nat) (zF:List Int) (rec:Int->Int->Option Int) (zH:Int) (zQ:Int):Option Int :=
  (bif decide (zQ<((zF.length:Nat):Int)) then (yX zF zQ).bind fun yO =>
  (iW F F (tW .u32 zH (iB yO)) (0:Int)).bind fun (zR:Int) =>
  rec zR (zI (zQ+1)) else
  some zH)
def lM (F:Nat) (zF:List Int):Nat->Int->Int->Option Int
  | 0,_,_=>none
  | n+1,zH,zQ=>EH F zF (lM F zF n) zH zQ
def DE (F:Nat) (zF:List Int):Option Int :=
  (lM F zF F 4294967295 (0:Int)).bind fun (zE:Int) =>
  some (zI (tW .u32 zE 4294967295))
def C6 (F:Nat) (zF:List Int):Option (Int×(List Int)×Int) :=
  (bif (((zF.length:Nat):Int)==0) then some (0,[],0) else
  (need (1<=((zF.length:Nat):Int))).bind fun _ =>
  (nA F (⟨sub zF 1 ((zF.length:Nat):Int),false⟩:uE)).bind fun zA =>
  (nA F zA.2).bind fun zC =>
  (bif (zC.2.Bad||(decide (zA.1<0)||decide (zA.1>((zC.2.B.length:Nat):Int)))) then some (0,[],0) else
  (need (0<=zA.1/\zA.1<=((zC.2.B.length:Nat):Int))).bind fun _ =>
  (yX zF (0:Int)).bind fun zH=>(need ((([zH]).length+(sub zC.2.B 0 zA.1).length) * 1<=140737488355328)).bind fun _ =>
  (DE F ([zH]++(sub zC.2.B 0 zA.1))).bind fun zM =>
  (bif (zM != zC.1) then some (0,[],0) else
  (yX zF (0:Int)).bind fun yO =>
  some (yO,sub zC.2.B 0 zA.1,zI ((zI (((zF.length:Nat):Int) - ((zC.2.B.length:Nat):Int)))+zA.1)))))
def mX (F:Nat) (zH:uE) (tH:Int):Option (Int×uE) :=
  (nA F zH).bind fun zA =>
  (bif (decide (zA.1<0)||decide (zA.1>tH)) then some (0,(⟨zA.2.B,true⟩:uE)) else
  some (zA.1,zA.2))
def CL (F:Nat) (zF:List Int) (tH:Int):Option ((List Int)×Int×Int) :=
  (g6 F zF).bind fun zA =>
  (bif (zA.2.2 != 0) then some (([]:List Int),0,zA.2.2) else
  (bif decide (zA.1<0) then some (([]:List Int),0,10) else
  (bif decide (zA.1>tH) then some (([]:List Int),0,7) else
  (bif decide (zA.1>(zI (((zF.length:Nat):Int) - zA.2.1))) then some (([]:List Int),0,8) else
  (need (0<=zA.2.1/\zA.2.1<=(zI (zA.2.1+zA.1))/\(zI (zA.2.1+zA.1))<=((zF.length:Nat):Int))).bind fun _ =>
  some (sub zF zA.2.1 (zI (zA.2.1+zA.1)),zI (zA.2.1+zA.1),0)))))
def D6 (F:Nat) (zH:uE):Option ((List Int)×uE) :=
  (CL F zH.B (40:Int)).bind fun zA =>
  (bif (zA.2.2 != 0) then some (([]:List Int),(⟨zH.B,true⟩:uE)) else
  (need (0<=zA.2.1/\zA.2.1<=((zH.B.length:Nat):Int))).bind fun _ =>
  some (zA.1,(⟨sub zH.B zA.2.1 ((zH.B.length:Nat):Int),zH.Bad⟩:uE)))
def BY (F:Nat) (zH:uE):Option (yZ×uE) :=
  (nA F zH).bind fun zA =>
  (nA F zA.2).bind fun zC =>
  (nA F zC.2).bind fun zM =>
  (nA F zM.2).bind fun zT =>
  (nA F zT.2).bind fun zU =>
  some ((⟨zA.1,zC.1,zM.1,(⟨zT.1,zU.1⟩:CB)⟩:yZ),zU.2)
def oW (F:Nat) (zB:Int) (rec:Int->Option (Unit⊕Bool)) (zQ:Int):Option (Unit⊕Bool) :=
  (bif decide (zQ<(((([95,46,58,47,60,62,36,42,126,45]:List Int)).length:Nat):Int)) then (yX ([95,46,58,47,60,62,36,42,126,45]:List Int) zQ).bind fun y5 =>
  (bif (y5==zB) then some (.inr true) else
  rec (zI (zQ+1))) else
  some (.inl ()))
def g9 (F:Nat) (zB:Int):Nat->Int->Option (Unit⊕Bool)
  | 0,_=>none
  | n+1,zQ=>oW F zB (g9 F zB n) zQ
def KK (F:Nat) (zB:Int):Option Bool :=
  (bif (bif decide (zB>=97) then (decide (zB<=122)||(bif decide (zB>=65) then (decide (zB<=90)||(decide (zB>=48)&&decide (zB<=57))) else (decide (zB>=48)&&decide (zB<=57)))) else (bif decide (zB>=65) then (decide (zB<=90)||(decide (zB>=48)&&decide (zB<=57))) else (decide (zB>=48)&&decide (zB<=57)))) then some true else
  (g9 F zB F (0:Int)).bind fun (zE:Unit⊕Bool) =>
  (match zE with
  | (.inl zX) =>
  some false
  | (.inr xJ) =>
  some xJ))
def JX (F:Nat) (zL:List Int) (rec:Int->Option (Unit⊕Int)) (zQ:Int):Option (Unit⊕Int) :=
  (bif decide (zQ<((zL.length:Nat):Int)) then (yX zL zQ).bind fun zB=>(KK F zB).bind fun zA =>
  (bif !zA then some (.inr 3) else
  rec (zI (zQ+1))) else
  some (.inl ()))
def EL (F:Nat) (zL:List Int):Nat->Int->Option (Unit⊕Int)
  | 0,_=>none
  | n+1,zQ=>JX F zL (EL F zL n) zQ
def fV (F:Nat) (zL:List Int):Option Int :=
  (bif (decide (((zL.length:Nat):Int)<1)||decide (((zL.length:Nat):Int)>40)) then some 3 else
  (EL F zL F (0:Int)).bind fun (zE:Unit⊕Int) =>
  (match zE with
  | (.inl zX) =>
  some 0
  | (.inr xJ) =>
  some xJ))
def KQ (F:Nat) (tO:xI):Option Int :=
  (bif (decide (tO.Id<0)||(decide (tO.Id>1000000000000000)||(decide (tO.Domain<0)||decide (tO.Domain>=8)))) then some 2 else
  (fV F tO.Name).bind fun zA =>
  some zA)
def m4 (F:Nat) (zG:List xA) (qL:Int) (rec:Int->Option (Unit⊕Int)) (zQ:Int):Option (Unit⊕Int) :=
  (bif decide (zQ<((zG.length:Nat):Int)) then (yX zG zQ).bind fun zH =>
  (bif (zH.Id==qL) then some (.inr zQ) else
  rec (zI (zQ+1))) else
  some (.inl ()))
def K5 (F:Nat) (zG:List xA) (qL:Int):Nat->Int->Option (Unit⊕Int)
  | 0,_=>none
  | n+1,zQ=>m4 F zG qL (K5 F zG qL n) zQ
def gJ (F:Nat) (zG:List xA) (qL:Int):Option Int :=
  (K5 F zG qL F (0:Int)).bind fun (zE:Unit⊕Int) =>
  (match zE with
  | (.inl zX) =>
  some (-1)
  | (.inr xJ) =>
  some xJ)
def CG (z5:Int):Option Bool :=
  some (decide (z5>=0)&&decide (z5<=1000000000000))
def K2 (F:Nat) (zG:List xA) (zH:yZ):Option Int :=
  (((gJ F zG zH.A).bind fun zA=>bif decide (zA<0) then (some true) else ((gJ F zG zH.B).bind fun zC=>some (decide (zC<(0:Int)))))).bind fun (zN:Bool) =>
  (bif zN then some 5 else
  (bif (zH.A==zH.B) then some 1 else
  (((CG zH.AtA).bind fun zM=>bif !zM then (some true) else ((CG zH.AtB.Lo).bind fun zT=>bif !zT then (some true) else ((CG zH.AtB.Hi).bind fun zU=>bif !zU then (some true) else (some (decide (zH.AtB.Lo>zH.AtB.Hi))))))).bind fun (uW:Bool) =>
  (bif uW then some 2 else
  some 0)))
def m8 (F:Nat) (zG:List xA) (rec:Int->Option (Unit⊕Int)) (zQ:Int):Option (Unit⊕Int) :=
  (bif decide (zQ<((zG.length:Nat):Int)) then (((yX zG zQ).bind fun xE=>bif decide (xE.Id<0) then (some true) else ((yX zG zQ).bind fun wI=>bif decide (wI.Id>=8) then (some true) else ((yX zG zQ).bind fun vG=>bif decide (vG.Ppm<0) then (some true) else ((yX zG zQ).bind fun uV=>some (decide (uV.Ppm>(10000:Int)))))))).bind fun (uW:Bool) =>
  (bif uW then some (.inr 2) else
  (yX zG zQ).bind fun nL=>(gJ F zG nL.Id).bind fun zA =>
  (bif decide (zA<zQ) then some (.inr 4) else
  rec (zI (zQ+1)))) else
  some (.inl ()))
def J5 (F:Nat) (zG:List xA):Nat->Int->Option (Unit⊕Int)
  | 0,_=>none
  | n+1,zQ=>m8 F zG (J5 F zG n) zQ
def oV (F:Nat) (zG:List xA) (zO:List yZ) (rec:Int->Option (Unit⊕Int)) (y9:Int):Option (Unit⊕Int) :=
  (bif decide (y9<((zO.length:Nat):Int)) then (yX zO y9).bind fun lA=>(K2 F zG lA).bind fun zC =>
  (bif (zC != 0) then some (.inr zC) else
  rec (zI (y9+1))) else
  some (.inl ()))
def J3 (F:Nat) (zG:List xA) (zO:List yZ):Nat->Int->Option (Unit⊕Int)
  | 0,_=>none
  | n+1,y9=>oV F zG zO (J3 F zG zO n) y9
def g7 (F:Nat) (zG:List xA) (zO:List yZ):Option Int :=
  (bif (((zG.length:Nat):Int)==0) then some 8 else
  (bif (decide (((zG.length:Nat):Int)>8)||decide (((zO.length:Nat):Int)>200)) then some 7 else
  (((yX zG (0:Int)).bind fun zH=>bif (zH.Id != 0) then (some true) else ((yX zG (0:Int)).bind fun yO=>some (yO.Ppm != (0:Int))))).bind fun (zN:Bool) =>
  (bif zN then some 10 else
  (J5 F zG F (0:Int)).bind fun (zE:Unit⊕Int) =>
  (match zE with
  | (.inl zX) =>
  (J3 F zG zO F (0:Int)).bind fun (zR:Unit⊕Int) =>
  (match zR with
  | (.inl vQ) =>
  some 0
  | (.inr t3) =>
  some t3)
  | (.inr xJ) =>
  some xJ))))
def G6 (F:Nat) (zG:List xA) (qL:Int):Option (Int×Bool) :=
  (gJ F zG qL).bind fun zA =>
  (((g7 F zG []).bind fun zC=>bif (zC != 0) then (some true) else (some (decide (zA<(0:Int)))))).bind fun (zN:Bool) =>
  (bif zN then some (0,false) else
  (yX zG zA).bind fun zH =>
  some (zH.Ppm,true))
def lR (F:Nat) (zJ:yB) (zQ:Int) (rec:Int->Option (Unit⊕Int)) (xH:Int):Option (Unit⊕Int) :=
  (bif decide (xH<zQ) then (yX zJ.Threads xH).bind fun yO=>(yX zJ.Threads zQ).bind fun xE =>
  (bif (yO.Id==xE.Id) then some (.inr 4) else
  rec (zI (xH+1))) else
  some (.inl ()))
def B2 (F:Nat) (zJ:yB) (zQ:Int):Nat->Int->Option (Unit⊕Int)
  | 0,_=>none
  | n+1,xH=>lR F zJ zQ (B2 F zJ zQ n) xH
def o4 (F:Nat) (zJ:yB) (rec:Int->Option (Unit⊕Int)) (zQ:Int):Option (Unit⊕Int) :=
  (bif decide (zQ<((zJ.Threads.length:Nat):Int)) then (yX zJ.Threads zQ).bind fun zH=>(KQ F zH).bind fun zA =>
  (bif (zA != 0) then some (.inr zA) else
  (B2 F zJ zQ F (0:Int)).bind fun (zR:Unit⊕Int) =>
  (match zR with
  | (.inl zX) =>
  rec (zI (zQ+1))
  | (.inr xJ) =>
  some (.inr xJ))) else
  some (.inl ()))
def JB (F:Nat) (zJ:yB):Nat->Int->Option (Unit⊕Int)
  | 0,_=>none
  | n+1,zQ=>o4 F zJ (JB F zJ n) zQ
def lW (F:Nat) (zJ:yB) (rec:Int->Option (Unit⊕Int)) (y9:Int):Option (Unit⊕Int) :=
  (bif decide (y9<((zJ.Threads.length:Nat):Int)) then (yX zJ.Threads y9).bind fun wI=>(G6 F zJ.Domains wI.Domain).bind fun zM =>
  (bif !zM.2 then some (.inr 5) else
  rec (zI (y9+1))) else
  some (.inl ()))
def AH (F:Nat) (zJ:yB):Nat->Int->Option (Unit⊕Int)
  | 0,_=>none
  | n+1,y9=>lW F zJ (AH F zJ n) y9
def DP (F:Nat) (zJ:yB):Option Int :=
  (bif (((zJ.Threads.length:Nat):Int)==0) then some 8 else
  (bif decide (((zJ.Threads.length:Nat):Int)>64) then some 7 else
  (JB F zJ F (0:Int)).bind fun (zE:Unit⊕Int) =>
  (match zE with
  | (.inl vQ) =>
  (g7 F zJ.Domains zJ.Snaps).bind fun zC =>
  (bif (zC != 0) then some zC else
  (AH F zJ F (0:Int)).bind fun (yK:Unit⊕Int) =>
  (match yK with
  | (.inl q_5) =>
  some 0
  | (.inr q_6) =>
  some q_6))
  | (.inr t3) =>
  some t3)))
def m3 (F:Nat) (zA:Int×uE) (rec:Int->(List Int)->Bool->(List xI)->Option ((List Int)×Bool×(List xI))) (zQ:Int) (zB:List Int) (y5:Bool) (zK:List xI):Option ((List Int)×Bool×(List xI)) :=
  (bif (decide (zQ<zA.1)&&!y5) then (nA F (⟨zB,y5⟩:uE)).bind fun zC =>
  (D6 F zC.2).bind fun zM =>
  (nA F zM.2).bind fun zT =>
  (need ((zK.length+([(⟨zC.1,zM.1,zT.1⟩:xI)]).length) * 32<=140737488355328)).bind fun _ =>
  rec (zI (zQ+1)) zT.2.B zT.2.Bad (zK++[(⟨zC.1,zM.1,zT.1⟩:xI)]) else
  some (zB,y5,zK))
def BD (F:Nat) (zA:Int×uE):Nat->Int->(List Int)->Bool->(List xI)->Option ((List Int)×Bool×(List xI))
  | 0,_,_,_,_=>none
  | n+1,zQ,zB,y5,zK=>m3 F zA (BD F zA n) zQ zB y5 zK
def o3 (F:Nat) (zU:Int×uE) (rec:Int->(List Int)->Bool->(List xA)->Option ((List Int)×Bool×(List xA))) (y9:Int) (y6:List Int) (yW:Bool) (z4:List xA):Option ((List Int)×Bool×(List xA)) :=
  (bif (decide (y9<zU.1)&&!yW) then (nA F (⟨y6,yW⟩:uE)).bind fun yF =>
  (nA F yF.2).bind fun yY =>
  (need ((z4.length+([(⟨yF.1,yY.1⟩:xA)]).length) * 16<=140737488355328)).bind fun _ =>
  rec (zI (y9+1)) yY.2.B yY.2.Bad (z4++[(⟨yF.1,yY.1⟩:xA)]) else
  some (y6,yW,z4))
def CD (F:Nat) (zU:Int×uE):Nat->Int->(List Int)->Bool->(List xA)->Option ((List Int)×Bool×(List xA))
  | 0,_,_,_,_=>none
  | n+1,y9,y6,yW,z4=>o3 F zU (CD F zU n) y9 y6 yW z4
def oM (F:Nat) (yH:Int×uE) (rec:Int->(List Int)->Bool->(List yZ)->Option ((List Int)×Bool×(List yZ))) (wQ:Int) (xC:List Int) (xK:Bool) (yL:List yZ):Option ((List Int)×Bool×(List yZ)) :=
  (bif (decide (wQ<yH.1)&&!xK) then (BY F (⟨xC,xK⟩:uE)).bind fun yR=>(need ((yL.length+([yR.1]).length) * 40<=140737488355328)).bind fun _ =>
  rec (zI (wQ+1)) yR.2.B yR.2.Bad (yL++[yR.1]) else
  some (xC,xK,yL))
def AB (F:Nat) (yH:Int×uE):Nat->Int->(List Int)->Bool->(List yZ)->Option ((List Int)×Bool×(List yZ))
  | 0,_,_,_,_=>none
  | n+1,wQ,xC,xK,yL=>oM F yH (AB F yH n) wQ xC xK yL
def KH (F:Nat) (zF:List Int):Option (yB×Bool) :=
  (mX F (⟨zF,false⟩:uE) (64:Int)).bind fun zA =>
  (BD F zA F 0 zA.2.B zA.2.Bad []).bind fun (zE:((List Int)×Bool×(List xI))) =>
  (mX F (⟨zE.1,zE.2.1⟩:uE) (8:Int)).bind fun zU =>
  (CD F zU F 0 zU.2.B zU.2.Bad []).bind fun (zR:((List Int)×Bool×(List xA))) =>
  (mX F (⟨zR.1,zR.2.1⟩:uE) (200:Int)).bind fun yH =>
  (AB F yH F 0 yH.2.B yH.2.Bad []).bind fun (yK:((List Int)×Bool×(List yZ))) =>
  ((bif !yK.2.1 then (bif (((yK.1.length:Nat):Int)==0) then ((DP F (⟨zE.2.2,zR.2.2,yK.2.2⟩:yB)).bind fun y8=>some (y8==0)) else (some false)) else (some false))).bind fun (zN:Bool) =>
  some ((⟨zE.2.2,zR.2.2,yK.2.2⟩:yB),zN)
structure vY where
  B:List Int
  At:Int
  E:Int
  deriving DecidableEq,Inhabited
def tG (s:vY):List AV:=[.sl false 1 (List.map (AV.int .u8) s.B),.int .i64 s.At,.int .i64 s.E]
def bC (F:Nat) (zB:vY):Option (Int×vY) :=
  (bif (zB.E != 0) then some (0,zB) else
  (need (0<=zB.At/\zB.At<=((zB.B.length:Nat):Int))).bind fun _=>(g6 F (sub zB.B zB.At ((zB.B.length:Nat):Int))).bind fun zA =>
  some (zA.1,(⟨zB.B,zI (zB.At+zA.2.1),zA.2.2⟩:vY)))
def cL (F:Nat) (zB:vY) (tH:Int):Option (Int×vY) :=
  (bC F zB).bind fun zA =>
  (bif (zA.2.E != 0) then some (0,zA.2) else
  (bif decide (zA.1<0) then some (0,(⟨zA.2.B,zA.2.At,10⟩:vY)) else
  (bif decide (zA.1>tH) then some (0,(⟨zA.2.B,zA.2.At,7⟩:vY)) else
  some (zA.1,zA.2))))
def H8 (F:Nat) (zB:vY):Option ((List Int)×vY) :=
  (bif (zB.E != 0) then some (([]:List Int),zB) else
  (need (0<=zB.At/\zB.At<=((zB.B.length:Nat):Int))).bind fun _=>(CL F (sub zB.B zB.At ((zB.B.length:Nat):Int)) (40:Int)).bind fun zA =>
  some (zA.1,(⟨zB.B,zI (zB.At+zA.2.1),zA.2.2⟩:vY)))
def lK (F:Nat) (zO:List (List Int)) (zL:List Int) (rec:Int->Option (Unit⊕Int)) (zQ:Int):Option (Unit⊕Int) :=
  (bif decide (zQ<((zO.length:Nat):Int)) then (yX zO zQ).bind fun zH =>
  (bif (zH==zL) then some (.inr zQ) else
  rec (zI (zQ+1))) else
  some (.inl ()))
def K4 (F:Nat) (zO:List (List Int)) (zL:List Int):Nat->Int->Option (Unit⊕Int)
  | 0,_=>none
  | n+1,zQ=>lK F zO zL (K4 F zO zL n) zQ
def AC (F:Nat) (zO:List (List Int)) (zL:List Int):Option Int :=
  (K4 F zO zL F (0:Int)).bind fun (zE:Unit⊕Int) =>
  (match zE with
  | (.inl zX) =>
  some (-1)
  | (.inr xJ) =>
  some xJ)
def mK (F:Nat) (zO:List zV) (zN:zV) (rec:Int->Option (Unit⊕Int)) (zQ:Int):Option (Unit⊕Int) :=
  (bif decide (zQ<((zO.length:Nat):Int)) then (yX zO zQ).bind fun zH =>
  (bif (decide (zH=zN)) then some (.inr zQ) else
  rec (zI (zQ+1))) else
  some (.inl ()))
def GY (F:Nat) (zO:List zV) (zN:zV):Nat->Int->Option (Unit⊕Int)
  | 0,_=>none
  | n+1,zQ=>mK F zO zN (GY F zO zN n) zQ
def DT (F:Nat) (zO:List zV) (zN:zV):Option Int :=
  (GY F zO zN F (0:Int)).bind fun (zE:Unit⊕Int) =>
  (match zE with
  | (.inl zX) =>
  some (-1)
  | (.inr xJ) =>
  some xJ)
def mD (F:Nat) (z6:List zV) (rec:Int->Int->Option Int) (y9:Int) (z5:Int):Option Int :=
  (bif decide (y9>=0) then (yX z6 y9).bind fun zH =>
  rec zH.c0 (zI (z5+1)) else
  some z5)
def DB (F:Nat) (z6:List zV):Nat->Int->Int->Option Int
  | 0,_,_=>none
  | n+1,y9,z5=>mD F z6 (DB F z6 n) y9 z5
def MG (F:Nat) (z6:List zV) (zQ:Int):Option Int :=
  (DB F z6 F zQ (0:Int)).bind fun (zE:Int) =>
  some zE
def mA (F:Nat) (zZ:List (List Int)) (rec:Int->Option (Unit⊕Int)) (zQ:Int):Option (Unit⊕Int) :=
  (bif decide (zQ<((zZ.length:Nat):Int)) then (yX zZ zQ).bind fun zH=>(fV F zH).bind fun zA =>
  (bif (zA != 0) then some (.inr 3) else
  (need (0<=zQ/\zQ<=((zZ.length:Nat):Int))).bind fun _=>(yX zZ zQ).bind fun yO=>(AC F (sub zZ 0 zQ) yO).bind fun zC =>
  (bif decide (zC>=0) then some (.inr 4) else
  rec (zI (zQ+1)))) else
  some (.inl ()))
def CQ (F:Nat) (zZ:List (List Int)):Nat->Int->Option (Unit⊕Int)
  | 0,_=>none
  | n+1,zQ=>mA F zZ (CQ F zZ n) zQ
def GR (F:Nat) (zZ:List (List Int)) (z6:List zV) (rec:Int->Option (Unit⊕Int)) (y9:Int):Option (Unit⊕Int) :=
  (bif decide (y9<((z6.length:Nat):Int)) then (yX z6 y9).bind fun xE =>
  (bif (decide (xE.c0<(-1))||(decide (xE.c0>=y9)||(decide (xE.c1<0)||decide (xE.c1>=((zZ.length:Nat):Int))))) then some (.inr 2) else
  (need (0<=y9/\y9<=((z6.length:Nat):Int))).bind fun _=>(DT F (sub z6 0 y9) xE).bind fun zM =>
  (bif decide (zM>=0) then some (.inr 4) else
  (MG F z6 y9).bind fun zT =>
  (bif decide (zT>32) then some (.inr 7) else
  rec (zI (y9+1))))) else
  some (.inl ()))
def B4 (F:Nat) (zZ:List (List Int)) (z6:List zV):Nat->Int->Option (Unit⊕Int)
  | 0,_=>none
  | n+1,y9=>GR F zZ z6 (B4 F zZ z6 n) y9
def aQ (F:Nat) (zZ:List (List Int)) (z6:List zV):Option Int :=
  (bif (decide (((zZ.length:Nat):Int)>1000)||decide (((z6.length:Nat):Int)>1000)) then some 7 else
  (CQ F zZ F (0:Int)).bind fun (zE:Unit⊕Int) =>
  (match zE with
  | (.inl zX) =>
  (B4 F zZ z6 F (0:Int)).bind fun (zR:Unit⊕Int) =>
  (match zR with
  | (.inl vQ) =>
  some 0
  | (.inr t3) =>
  some t3)
  | (.inr xJ) =>
  some xJ))
def l8 (F:Nat) (zF:List Int) (nX:Int) (rec:Int->Int->(List Int)->Option ((Int×(List Int))⊕((List Int)×Int×Int))) (xU:Int) (zQ:Int) (zK:List Int):Option ((Int×(List Int))⊕((List Int)×Int×Int)) :=
  (bif decide (zQ<nX) then (need (0<=xU/\xU<=((zF.length:Nat):Int))).bind fun _=>(g6 F (sub zF xU ((zF.length:Nat):Int))).bind fun zA =>
  (bif (zA.2.2 != 0) then some (.inr ([],0,zA.2.2)) else
  (need ((zK.length+([zA.1]).length) * 8<=140737488355328)).bind fun _ =>
  rec (zI (xU+zA.2.1)) (zI (zQ+1)) (zK++[zA.1])) else
  some (.inl (xU,zK)))
def AQ (F:Nat) (zF:List Int) (nX:Int):Nat->Int->Int->(List Int)->Option ((Int×(List Int))⊕((List Int)×Int×Int))
  | 0,_,_,_=>none
  | n+1,xU,zQ,zK=>l8 F zF nX (AQ F zF nX n) xU zQ zK
def mE (F:Nat) (zF:List Int) (nX:Int):Option ((List Int)×Int×Int) :=
  (AQ F zF nX F 0 0 []).bind fun (zE:(Int×(List Int))⊕((List Int)×Int×Int)) =>
  (match zE with
  | (.inl zX) =>
  some (zX.2,zX.1,0)
  | (.inr xJ) =>
  some xJ)
def DM (xH:Int):Option (Bool×Bool×Bool×Bool) :=
  (((bif (xH==1) then some (xH==1) else
  some (xH==3)):Option Bool)).bind fun (zE:Bool) =>
  (bif zE then some (true,false,false,false) else
  (bif (xH==4) then some (true,true,false,false) else
  (bif (xH==5) then some (false,true,false,true) else
  (((bif (xH==6) then some (xH==6) else
  (bif (xH==7) then some (xH==7) else
  (bif (xH==8) then some (xH==8) else
  (bif (xH==10) then some (xH==10) else
  some (xH==12))))):Option Bool)).bind fun (zR:Bool) =>
  (bif zR then some (false,true,false,false) else
  (bif (xH==9) then some (false,true,true,false) else
  (bif (xH==11) then some (false,true,true,true) else
  some (false,false,false,false)))))))
def m7 (zF:Bool):Option Int :=
  (bif zF then some 1 else
  some 0)
def lT (F:Nat) (zZ:List (List Int)) (z6:List zV) (rec:Int->(List (List Int))->Option (List (List Int))) (y9:Int) (zO:List (List Int)):Option (List (List Int)) :=
  (bif decide (y9>=0) then (yX z6 y9).bind fun zH=>(yX zZ zH.c1).bind fun yO=>(need ((([yO]).length+zO.length) * 16<=140737488355328)).bind fun _ =>
  (yX z6 y9).bind fun xE =>
  rec xE.c0 ([yO]++zO) else
  some zO)
def G8 (F:Nat) (zZ:List (List Int)) (z6:List zV):Nat->Int->(List (List Int))->Option (List (List Int))
  | 0,_,_=>none
  | n+1,y9,zO=>lT F zZ z6 (G8 F zZ z6 n) y9 zO
def JM (F:Nat) (zZ:List (List Int)) (z6:List zV) (zQ:Int):Option ((List (List Int))×Int) :=
  (aQ F zZ z6).bind fun zA =>
  (bif (zA != 0) then some ([],1) else
  (bif (decide (zQ<(-1))||decide (zQ>=((z6.length:Nat):Int))) then some ([],2) else
  (G8 F zZ z6 F zQ []).bind fun (zE:(List (List Int))) =>
  some (zE,0)))
def MP (xH:Int):Option (Bool×Bool×Bool×Bool) :=
  some (((xH==1)||((xH==3)||(xH==4))),decide (xH>=4),((xH==9)||(xH==11)),((xH==5)||(xH==11)))
def EQ (F:Nat) (zO:List (List Int)) (rec:Int->Option (Unit⊕Int)) (zQ:Int):Option (Unit⊕Int) :=
  (bif decide (zQ<((zO.length:Nat):Int)) then (yX zO zQ).bind fun zH=>(fV F zH).bind fun zA =>
  (bif (zA != 0) then some (.inr 3) else
  rec (zI (zQ+1))) else
  some (.inl ()))
def E8 (F:Nat) (zO:List (List Int)):Nat->Int->Option (Unit⊕Int)
  | 0,_=>none
  | n+1,zQ=>EQ F zO (E8 F zO n) zQ
def AE (F:Nat) (zO:List (List Int)):Option Int :=
  (bif decide (((zO.length:Nat):Int)>32) then some 7 else
  (E8 F zO F (0:Int)).bind fun (zE:Unit⊕Int) =>
  (match zE with
  | (.inl zX) =>
  some 0
  | (.inr xJ) =>
  some xJ))
def bQ (z5:Int) (low_1:Int) (high_1:Int):Option Int :=
  (bif (decide (z5<low_1)||decide (z5>high_1)) then some 2 else
  some 0)
def E7 (zY:xD):Option Int :=
  (((((bif (zY.Kind==1) then some (zY.Kind==1) else
  (bif (zY.Kind==2) then some (zY.Kind==2) else
  some (zY.Kind==3))):Option Bool)).bind fun (zR:Bool) =>
  (bif zR then some (.inr 0) else
  (bif (zY.Kind==4) then (bQ zY.N (-1000000000000000) (1000000000000000:Int)).bind fun zA =>
  some (.inr zA) else
  (bif (zY.Kind==5) then (bQ zY.N 1 (1000000000000:Int)).bind fun zC =>
  some (.inr zC) else
  (bif (zY.Kind==8) then (bQ zY.N 0 (63:Int)).bind fun zM =>
  some (.inr zM) else
  (bif (zY.Kind==9) then (bQ zY.N 0 (3:Int)).bind fun zT =>
  (bif ((zT==0)&&(zY.N==2)) then (bQ zY.M 0 (1000000000000000:Int)).bind fun zU =>
  some (.inr zU) else
  (bif ((zT==0)&&(zY.M != 0)) then some (.inr 1) else
  some (.inr zT))) else
  some (.inl ())))))):Option (Unit⊕Int))).bind fun (zE:Unit⊕Int) =>
  (match zE with
  | (.inl zX) =>
  (bQ zY.N 0 (1000000000000000:Int)).bind fun yF =>
  (bif ((yF==0)&&(zY.Kind==11)) then (bQ zY.M 1 (1000000000000:Int)).bind fun yY =>
  some yY else
  some yF)
  | (.inr xJ) =>
  some xJ)
def iI (F:Nat) (zY:xD):Option Int :=
  (bif (decide (zY.At<0)||decide (zY.At>1000000000000)) then some 2 else
  (bif (decide (zY.Kind<1)||decide (zY.Kind>12)) then some 1 else
  (MP zY.Kind).bind fun zA =>
  ((bif !zA.1 then (bif !(zY.Name==([]:List Int)) then (some true) else (bif !zA.2.1 then (bif (zY.N != 0) then (some true) else (bif !zA.2.2.1 then (bif (zY.M != 0) then (some true) else (bif !zA.2.2.2 then (some (decide (((zY.Stack.length:Nat):Int)>0))) else (some false))) else (bif !zA.2.2.2 then (some (decide (((zY.Stack.length:Nat):Int)>0))) else (some false)))) else (bif !zA.2.2.1 then (bif (zY.M != 0) then (some true) else (bif !zA.2.2.2 then (some (decide (((zY.Stack.length:Nat):Int)>0))) else (some false))) else (bif !zA.2.2.2 then (some (decide (((zY.Stack.length:Nat):Int)>0))) else (some false))))) else (bif !zA.2.1 then (bif (zY.N != 0) then (some true) else (bif !zA.2.2.1 then (bif (zY.M != 0) then (some true) else (bif !zA.2.2.2 then (some (decide (((zY.Stack.length:Nat):Int)>0))) else (some false))) else (bif !zA.2.2.2 then (some (decide (((zY.Stack.length:Nat):Int)>0))) else (some false)))) else (bif !zA.2.2.1 then (bif (zY.M != 0) then (some true) else (bif !zA.2.2.2 then (some (decide (((zY.Stack.length:Nat):Int)>0))) else (some false))) else (bif !zA.2.2.2 then (some (decide (((zY.Stack.length:Nat):Int)>0))) else (some false)))))).bind fun (zN:Bool) =>
  (bif zN then some 1 else
  (((bif zA.1 then (fV F zY.Name).bind fun zC =>
  some zC else
  some 0):Option Int)).bind fun (zE:Int) =>
  (((bif zA.2.2.2 then (AE F zY.Stack).bind fun zM =>
  some zM else
  some zE):Option Int)).bind fun (zR:Int) =>
  (bif (zR != 0) then some zR else
  (E7 zY).bind fun zT =>
  some zT))))
def GM (F:Nat) (zZ:List (List Int)) (z6:List zV) (zF:List Int):Option (xD×Int×Int) :=
  (aQ F zZ z6).bind fun zA =>
  (bif (zA != 0) then some ((⟨0,0,([]:List Int),0,0,[]⟩:xD),0,1) else
  (mE F zF (2:Int)).bind fun zC =>
  (bif (zC.2.2 != 0) then some ((⟨0,0,([]:List Int),0,0,[]⟩:xD),0,zC.2.2) else
  (((yX zC.1 (0:Int)).bind fun zH=>bif decide (zH<1) then (some true) else ((yX zC.1 (0:Int)).bind fun yO=>some (decide (yO>(12:Int)))))).bind fun (zN:Bool) =>
  (bif zN then some ((⟨0,0,([]:List Int),0,0,[]⟩:xD),0,10) else
  (yX zC.1 (0:Int)).bind fun xE=>(DM xE).bind fun zM =>
  (m7 zM.1).bind fun zT=>(m7 zM.2.1).bind fun zU=>(m7 zM.2.2.1).bind fun yF=>(m7 zM.2.2.2).bind fun yY=>(mE F zF (zI ((zI ((zI ((zI (2+zT))+zU))+yF))+yY))).bind fun yH =>
  (bif (yH.2.2 != 0) then some ((⟨0,0,([]:List Int),0,0,[]⟩:xD),0,yH.2.2) else
  (yX yH.1 (0:Int)).bind fun wI=>(yX yH.1 (1:Int)).bind fun vG =>
  (((bif zM.1 then (((yX yH.1 (2:Int)).bind fun uV=>bif decide (uV<0) then (some true) else ((yX yH.1 (2:Int)).bind fun nL=>some (decide (nL>=((zZ.length:Nat):Int)))))).bind fun (uW:Bool) =>
  (bif uW then some (.inr ((⟨0,0,([]:List Int),0,0,[]⟩:xD),0,2)) else
  (yX yH.1 (2:Int)).bind fun lA=>(yX zZ lA).bind fun x_9 =>
  some (.inl (zI ((2:Int)+(1:Int)),x_9))) else
  some (.inl (2,([]:List Int)))):Option ((Int×(List Int))⊕(xD×Int×Int)))).bind fun (zE:(Int×(List Int))⊕(xD×Int×Int)) =>
  (match zE with
  | (.inl zX) =>
  (((bif zM.2.1 then (yX yH.1 zX.1).bind fun x_10 =>
  some (zI (zX.1+1),x_10) else
  some (zX.1,0)):Option (Int×Int))).bind fun (zR:(Int×Int)) =>
  (((bif zM.2.2.1 then (yX yH.1 zR.1).bind fun x_11 =>
  some (zI (zR.1+1),x_11) else
  some (zR.1,0)):Option (Int×Int))).bind fun (yK:(Int×Int)) =>
  (((bif zM.2.2.2 then (yX yH.1 yK.1).bind fun x_12=>(JM F zZ z6 x_12).bind fun yR =>
  (bif (yR.2 != 0) then some (.inr ((⟨0,0,([]:List Int),0,0,[]⟩:xD),0,2)) else
  some (.inl yR.1)) else
  some (.inl [])):Option ((List (List Int))⊕(xD×Int×Int)))).bind fun (xW:(List (List Int))⊕(xD×Int×Int)) =>
  (match xW with
  | (.inl vQ) =>
  (iI F (⟨vG,wI,zX.2,zR.2,yK.2,vQ⟩:xD)).bind fun y8 =>
  (bif (y8 != 0) then some ((⟨0,0,([]:List Int),0,0,[]⟩:xD),0,10) else
  some ((⟨vG,wI,zX.2,zR.2,yK.2,vQ⟩:xD),yH.2.1,0))
  | (.inr t3) =>
  some t3)
  | (.inr xJ) =>
  some xJ)))))
def DU (F:Nat) (zB:vY) (zZ:List (List Int)) (z6:List zV):Option (xD×vY) :=
  (bif (zB.E != 0) then some ((⟨0,0,([]:List Int),0,0,[]⟩:xD),zB) else
  (need (0<=zB.At/\zB.At<=((zB.B.length:Nat):Int))).bind fun _=>(GM F zZ z6 (sub zB.B zB.At ((zB.B.length:Nat):Int))).bind fun zA =>
  some (zA.1,(⟨zB.B,zI (zB.At+zA.2.1),zA.2.2⟩:vY)))
def rJ (F:Nat) (zT:Int×vY) (rec:Int->(List Int)->Int->Int->(List (List Int))->Option ((List Int)×Int×Int×(List (List Int)))) (zQ:Int) (y5:List Int) (y6:Int) (yW:Int) (zK:List (List Int)):Option ((List Int)×Int×Int×(List (List Int))) :=
  (bif (decide (zQ<zT.1)&&(yW==0)) then (H8 F (⟨y5,y6,yW⟩:vY)).bind fun zU=>(need ((zK.length+([zU.1]).length) * 16<=140737488355328)).bind fun _ =>
  rec (zI (zQ+1)) zU.2.B zU.2.At zU.2.E (zK++[zU.1]) else
  some (y5,y6,yW,zK))
def BW (F:Nat) (zT:Int×vY):Nat->Int->(List Int)->Int->Int->(List (List Int))->Option ((List Int)×Int×Int×(List (List Int)))
  | 0,_,_,_,_,_=>none
  | n+1,zQ,y5,y6,yW,zK=>rJ F zT (BW F zT n) zQ y5 y6 yW zK
def lD (F:Nat) (yF:Int×vY) (rec:Int->(List Int)->Int->Int->(List zV)->Option ((List Int)×Int×Int×(List zV))) (y9:Int) (xC:List Int) (xK:Int) (vD:Int) (z4:List zV):Option ((List Int)×Int×Int×(List zV)) :=
  (bif (decide (y9<yF.1)&&(vD==0)) then (bC F (⟨xC,xK,vD⟩:vY)).bind fun yY =>
  (bC F yY.2).bind fun yH=>(need ((z4.length+([(⟨yY.1,yH.1⟩:zV)]).length) * 16<=140737488355328)).bind fun _ =>
  rec (zI (y9+1)) yH.2.B yH.2.At yH.2.E (z4++[(⟨yY.1,yH.1⟩:zV)]) else
  some (xC,xK,vD,z4))
def r5 (F:Nat) (yF:Int×vY):Nat->Int->(List Int)->Int->Int->(List zV)->Option ((List Int)×Int×Int×(List zV))
  | 0,_,_,_,_,_=>none
  | n+1,y9,xC,xK,vD,z4=>lD F yF (r5 F yF n) y9 xC xK vD z4
def rB (F:Nat) (zE:((List Int)×Int×Int×(List (List Int)))) (zR:((List Int)×Int×Int×(List zV))) (y8:Int×vY) (rec:Int->(List Int)->Int->Int->(List xD)->Option ((List Int)×Int×Int×(List xD))) (wQ:Int) (vK:List Int) (vH:Int) (v9:Int) (yL:List xD):Option ((List Int)×Int×Int×(List xD)) :=
  (bif (decide (wQ<y8.1)&&(v9==0)) then (DU F (⟨vK,vH,v9⟩:vY) zE.2.2.2 zR.2.2.2).bind fun wM=>(need ((yL.length+([wM.1]).length) * 72<=140737488355328)).bind fun _ =>
  rec (zI (wQ+1)) wM.2.B wM.2.At wM.2.E (yL++[wM.1]) else
  some (vK,vH,v9,yL))
def C2 (F:Nat) (zE:((List Int)×Int×Int×(List (List Int)))) (zR:((List Int)×Int×Int×(List zV))) (y8:Int×vY):Nat->Int->(List Int)->Int->Int->(List xD)->Option ((List Int)×Int×Int×(List xD))
  | 0,_,_,_,_,_=>none
  | n+1,wQ,vK,vH,v9,yL=>rB F zE zR y8 (C2 F zE zR y8 n) wQ vK vH v9 yL
def JV (F:Nat) (zB:vY):Option (z7×vY) :=
  (bC F zB).bind fun zA =>
  (bC F zA.2).bind fun zC =>
  (bC F zC.2).bind fun zM =>
  (cL F zM.2 (1000:Int)).bind fun zT =>
  (BW F zT F 0 zT.2.B zT.2.At zT.2.E []).bind fun (zE:((List Int)×Int×Int×(List (List Int)))) =>
  (cL F (⟨zE.1,zE.2.1,zE.2.2.1⟩:vY) (1000:Int)).bind fun yF =>
  (r5 F yF F 0 yF.2.B yF.2.At yF.2.E []).bind fun (zR:((List Int)×Int×Int×(List zV))) =>
  (((bif (zR.2.2.1==0) then (aQ F zE.2.2.2 zR.2.2.2).bind fun yR =>
  some yR else
  some zR.2.2.1):Option Int)).bind fun (yK:Int) =>
  (cL F (⟨zR.1,zR.2.1,yK⟩:vY) (1000:Int)).bind fun y8 =>
  (C2 F zE zR y8 F 0 y8.2.B y8.2.At y8.2.E []).bind fun (xW:((List Int)×Int×Int×(List xD))) =>
  some ((⟨zA.1,zC.1,zM.1,xW.2.2.2⟩:z7),(⟨xW.1,xW.2.1,xW.2.2.1⟩:vY))
def oN (z5:Int):Option Bool :=
  some (decide (z5>=0)&&decide (z5<=1000000000000000))
def D0 (F:Nat) (zO:List xD) (rec:Int->Option (Unit⊕Int)) (zQ:Int):Option (Unit⊕Int) :=
  (bif decide (zQ<((zO.length:Nat):Int)) then (yX zO zQ).bind fun zH=>(iI F zH).bind fun zA =>
  (bif (zA != 0) then some (.inr zA) else
  ((bif decide (zQ>0) then ((yX zO zQ).bind fun yO=>(yX zO (zI (zQ - (1:Int)))).bind fun xE=>some (decide (yO.At<xE.At))) else (some false))).bind fun (zN:Bool) =>
  (bif zN then some (.inr 11) else
  rec (zI (zQ+1)))) else
  some (.inl ()))
def B6 (F:Nat) (zO:List xD):Nat->Int->Option (Unit⊕Int)
  | 0,_=>none
  | n+1,zQ=>D0 F zO (B6 F zO n) zQ
def D5 (F:Nat) (zO:List xD):Option Int :=
  (B6 F zO F (0:Int)).bind fun (zE:Unit⊕Int) =>
  (match zE with
  | (.inl zX) =>
  some 0
  | (.inr xJ) =>
  some xJ)
def rG (F:Nat) (zN:z7):Option Int :=
  (((oN zN.Thread).bind fun zA=>bif !zA then (some true) else ((oN zN.Serial).bind fun zC=>bif !zC then (some true) else ((oN zN.Lost).bind fun zM=>bif !zM then (some true) else (some (decide (zN.Lost>zN.Serial))))))).bind fun (uW:Bool) =>
  (bif uW then some 2 else
  (bif decide (zN.Serial>(zI (1000000000000000 - ((zN.Events.length:Nat):Int)))) then some 2 else
  (bif (((zN.Events.length:Nat):Int)==0) then some 8 else
  (bif decide (((zN.Events.length:Nat):Int)>1000) then some 7 else
  (D5 F zN.Events).bind fun zT =>
  some zT))))
def AO (F:Nat) (zZ:List (List Int)) (zL:List Int):Option (Int×(List (List Int))×Int) :=
  (fV F zL).bind fun zA =>
  (bif (zA != 0) then some (0,zZ,3) else
  (AC F zZ zL).bind fun zC =>
  (bif decide (zC>=0) then some (zC,zZ,0) else
  (bif decide (((zZ.length:Nat):Int)>=1000) then some (0,zZ,6) else
  (need (((([]:List (List Int))).length+zZ.length) * 16<=140737488355328)).bind fun _=>(need (((([]++zZ)).length+([zL]).length) * 16<=140737488355328)).bind fun _ =>
  some (((zZ.length:Nat):Int),(([]++zZ)++[zL]),0))))
def HB (F:Nat) (zZ:List (List Int)) (z6:List zV) (zO:List (List Int)) (rec:Int->(List (List Int))->Int->(List zV)->Option ((Int×(List (List Int))×(List zV))⊕(Int×(List (List Int))×(List zV)×Int))) (xU:Int) (z5:List (List Int)) (xH:Int) (zK:List zV):Option ((Int×(List (List Int))×(List zV))⊕(Int×(List (List Int))×(List zV)×Int)) :=
  (bif decide (xH<((zO.length:Nat):Int)) then (((yX zO xH).bind fun zH=>(AO F z5 zH).bind fun zC =>
  (bif (zC.2.2 != 0) then some (.inr (0,zZ,z6,zC.2.2)) else
  (DT F zK (⟨xU,zC.1⟩:zV)).bind fun zM =>
  (bif decide (zM>=0) then some (.inl (zM,zC.2.1,zK)) else
  (bif decide (((zK.length:Nat):Int)>=1000) then some (.inr (0,zZ,z6,6)) else
  (need ((zK.length+([(⟨xU,zC.1⟩:zV)]).length) * 16<=140737488355328)).bind fun _ =>
  some (.inl (((zK.length:Nat):Int),zC.2.1,(zK++[(⟨xU,zC.1⟩:zV)])))))):Option ((Int×(List (List Int))×(List zV))⊕(Int×(List (List Int))×(List zV)×Int)))).bind fun (zR:(Int×(List (List Int))×(List zV))⊕(Int×(List (List Int))×(List zV)×Int)) =>
  (match zR with
  | (.inl zX) =>
  rec zX.1 zX.2.1 (zI (xH+1)) zX.2.2
  | (.inr xJ) =>
  some (.inr xJ)) else
  some (.inl (xU,z5,zK)))
def BF (F:Nat) (zZ:List (List Int)) (z6:List zV) (zO:List (List Int)):Nat->Int->(List (List Int))->Int->(List zV)->Option ((Int×(List (List Int))×(List zV))⊕(Int×(List (List Int))×(List zV)×Int))
  | 0,_,_,_,_=>none
  | n+1,xU,z5,xH,zK=>HB F zZ z6 zO (BF F zZ z6 zO n) xU z5 xH zK
def A9 (F:Nat) (zZ:List (List Int)) (z6:List zV) (zO:List (List Int)):Option (Int×(List (List Int))×(List zV)×Int) :=
  (AE F zO).bind fun zA =>
  (bif (zA != 0) then some (0,zZ,z6,zA) else
  (need (((([]:List zV)).length+z6.length) * 16<=140737488355328)).bind fun _ =>
  (BF F zZ z6 zO F (-1) zZ 0 ([]++z6)).bind fun (zE:(Int×(List (List Int))×(List zV))⊕(Int×(List (List Int))×(List zV)×Int)) =>
  (match zE with
  | (.inl vQ) =>
  some (vQ.1,vQ.2.1,vQ.2.2,0)
  | (.inr t3) =>
  some t3))
def HO (z5:Int):Option Int :=
  (bif decide (z5<0) then some (v6 ((v6 (2 * (v6 (zI (0 - (zI (z5+1)))))))+1)) else
  some (v6 (2 * (v6 z5))))
def rD (F:Nat) (rec:Int->(List Int)->Option (Int×(List Int))) (wH:Int) (zK:List Int):Option (Int×(List Int)) :=
  (bif decide (wH>=128) then (need ((zK.length+([tN ((tN (kL wH 128))+128)]).length) * 1<=140737488355328)).bind fun _ =>
  rec (nW .u64 wH 128) (zK++[tN ((tN (kL wH 128))+128)]) else
  some (wH,zK))
def lP (F:Nat):Nat->Int->(List Int)->Option (Int×(List Int))
  | 0,_,_=>none
  | n+1,wH,zK=>rD F (lP F n) wH zK
def qP (F:Nat) (zF:List Int) (z5:Int):Option (List Int) :=
  (need (((([]:List Int)).length+zF.length) * 1<=140737488355328)).bind fun _ =>
  (HO z5).bind fun zA =>
  (lP F F zA ([]++zF)).bind fun (zE:(Int×(List Int))) =>
  (need ((zE.2.length+([tN zE.1]).length) * 1<=140737488355328)).bind fun _ =>
  some (zE.2++[tN zE.1])
def mJ (F:Nat) (zO:List Int) (rec:(List Int)->Int->Option (List Int)) (dM:List Int) (zQ:Int):Option (List Int) :=
  (bif decide (zQ<((zO.length:Nat):Int)) then (yX zO zQ).bind fun zH=>(qP F dM zH).bind fun zA =>
  rec zA (zI (zQ+1)) else
  some dM)
def GE (F:Nat) (zO:List Int):Nat->(List Int)->Int->Option (List Int)
  | 0,_,_=>none
  | n+1,dM,zQ=>mJ F zO (GE F zO n) dM zQ
def A7 (F:Nat) (zO:List Int):Option (List Int) :=
  (GE F zO F [] (0:Int)).bind fun (zE:(List Int)) =>
  some zE
def H0 (F:Nat) (zZ:List (List Int)) (z6:List zV) (zY:xD):Option zY1 :=
  (aQ F zZ z6).bind fun zA =>
  (bif (zA != 0) then some ([],[],[],1) else
  (iI F zY).bind fun zC =>
  (bif (zC != 0) then some ([],[],[],zC) else
  (DM zY.Kind).bind fun zM =>
  (((bif zM.1 then (AO F zZ zY.Name).bind fun zT =>
  (bif (zT.2.2 != 0) then some (.inr ([],[],[],zT.2.2)) else
  (need ((([zY.Kind,zY.At]).length+([zT.1]).length) * 8<=140737488355328)).bind fun _ =>
  some (.inl (zT.2.1,([zY.Kind,zY.At]++[zT.1])))) else
  some (.inl (zZ,[zY.Kind,zY.At]))):Option (((List (List Int))×(List Int))⊕zY1))).bind fun (zE:((List (List Int))×(List Int))⊕zY1) =>
  (match zE with
  | (.inl zX) =>
  (((bif zM.2.1 then (need ((zX.2.length+([zY.N]).length) * 8<=140737488355328)).bind fun _ =>
  some (zX.2++[zY.N]) else
  some zX.2):Option (List Int))).bind fun (zR:(List Int)) =>
  (((bif zM.2.2.1 then (need ((zR.length+([zY.M]).length) * 8<=140737488355328)).bind fun _ =>
  some (zR++[zY.M]) else
  some zR):Option (List Int))).bind fun (yK:(List Int)) =>
  (((bif zM.2.2.2 then (A9 F zX.1 z6 zY.Stack).bind fun zU =>
  (bif (zU.2.2.2 != 0) then some (.inr ([],[],[],zU.2.2.2)) else
  (need ((yK.length+([zU.1]).length) * 8<=140737488355328)).bind fun _ =>
  some (.inl (zU.2.1,zU.2.2.1,(yK++[zU.1])))) else
  some (.inl (zX.1,z6,yK))):Option (((List (List Int))×(List zV)×(List Int))⊕zY1))).bind fun (xW:((List (List Int))×(List zV)×(List Int))⊕zY1) =>
  (match xW with
  | (.inl vQ) =>
  (A7 F vQ.2.2).bind fun yF =>
  some (yF,vQ.1,vQ.2.1,0)
  | (.inr t3) =>
  some t3)
  | (.inr xJ) =>
  some xJ)))
def D8 (F:Nat) (zL:List Int) (rec:Int->(List Int)->Option (List Int)) (zQ:Int) (zK:List Int):Option (List Int) :=
  (bif decide (zQ<((zL.length:Nat):Int)) then (yX zL zQ).bind fun zB=>(need ((zK.length+([zB]).length) * 1<=140737488355328)).bind fun _ =>
  rec (zI (zQ+1)) (zK++[zB]) else
  some zK)
def mI (F:Nat) (zL:List Int):Nat->Int->(List Int)->Option (List Int)
  | 0,_,_=>none
  | n+1,zQ,zK=>D8 F zL (mI F zL n) zQ zK
def BG (F:Nat) (zF:List Int) (zL:List Int):Option (List Int) :=
  (qP F zF ((zL.length:Nat):Int)).bind fun zA =>
  (mI F zL F 0 zA).bind fun (zE:(List Int)) =>
  some zE
def KD (F:Nat) (zN:z7) (rec:(List (List Int))->(List zV)->Int->(List Int)->Option (((List (List Int))×(List zV)×(List Int))⊕((List Int)×Int))) (zZ:List (List Int)) (z6:List zV) (zQ:Int) (zK:List Int):Option (((List (List Int))×(List zV)×(List Int))⊕((List Int)×Int)) :=
  (bif decide (zQ<((zN.Events.length:Nat):Int)) then (yX zN.Events zQ).bind fun zH=>(H0 F zZ z6 zH).bind fun zC =>
  (bif (zC.2.2.2 != 0) then some (.inr ([],zC.2.2.2)) else
  (need ((zK.length+zC.1.length) * 1<=140737488355328)).bind fun _ =>
  rec zC.2.1 zC.2.2.1 (zI (zQ+1)) (zK++zC.1)) else
  some (.inl (zZ,z6,zK)))
def DS (F:Nat) (zN:z7):Nat->(List (List Int))->(List zV)->Int->(List Int)->Option (((List (List Int))×(List zV)×(List Int))⊕((List Int)×Int))
  | 0,_,_,_,_=>none
  | n+1,zZ,z6,zQ,zK=>KD F zN (DS F zN n) zZ z6 zQ zK
def LA (F:Nat) (zX:(List (List Int))×(List zV)×(List Int)) (rec:Int->(List Int)->Option (List Int)) (y9:Int) (z4:List Int):Option (List Int) :=
  (bif decide (y9<((zX.1.length:Nat):Int)) then (yX zX.1 y9).bind fun yO=>(BG F z4 yO).bind fun yY =>
  rec (zI (y9+1)) yY else
  some z4)
def C9 (F:Nat) (zX:(List (List Int))×(List zV)×(List Int)):Nat->Int->(List Int)->Option (List Int)
  | 0,_,_=>none
  | n+1,y9,z4=>LA F zX (C9 F zX n) y9 z4
def EM (F:Nat) (zX:(List (List Int))×(List zV)×(List Int)) (rec:Int->(List Int)->Option (List Int)) (wQ:Int) (yL:List Int):Option (List Int) :=
  (bif decide (wQ<((zX.2.1.length:Nat):Int)) then (yX zX.2.1 wQ).bind fun xE=>(qP F yL xE.c0).bind fun yR=>(yX zX.2.1 wQ).bind fun wI=>(qP F yR wI.c1).bind fun y8 =>
  rec (zI (wQ+1)) y8 else
  some yL)
def DF (F:Nat) (zX:(List (List Int))×(List zV)×(List Int)):Nat->Int->(List Int)->Option (List Int)
  | 0,_,_=>none
  | n+1,wQ,yL=>EM F zX (DF F zX n) wQ yL
def CI (F:Nat) (zN:z7):Option ((List Int)×Int) :=
  (rG F zN).bind fun zA =>
  (bif (zA != 0) then some ([],zA) else
  (DS F zN F [] [] 0 []).bind fun (zE:((List (List Int))×(List zV)×(List Int))⊕((List Int)×Int)) =>
  (match zE with
  | (.inl zX) =>
  (qP F [] zN.Thread).bind fun zM =>
  (qP F zM zN.Serial).bind fun zT =>
  (qP F zT zN.Lost).bind fun zU =>
  (qP F zU ((zX.1.length:Nat):Int)).bind fun yF =>
  (C9 F zX F 0 yF).bind fun (zR:(List Int)) =>
  (qP F zR ((zX.2.1.length:Nat):Int)).bind fun yH =>
  (DF F zX F 0 yH).bind fun (yK:(List Int)) =>
  (qP F yK ((zN.Events.length:Nat):Int)).bind fun wM=>(need ((wM.length+zX.2.2.length) * 1<=140737488355328)).bind fun _ =>
  some ((wM++zX.2.2),0)
  | (.inr xJ) =>
  some xJ))
def HY (F:Nat) (zF:List Int):Option (z7×Int×Int) :=
  (JV F (⟨zF,0,0⟩:vY)).bind fun zA =>
  (bif (zA.2.E != 0) then some ((⟨0,0,0,[]⟩:z7),0,zA.2.E) else
  (rG F zA.1).bind fun zC =>
  (bif (zC != 0) then some ((⟨0,0,0,[]⟩:z7),0,zC) else
  (CI F zA.1).bind fun zM =>
  (need (0<=zA.2.At/\zA.2.At<=((zF.length:Nat):Int))).bind fun _ =>
  (bif !(zM.1==(sub zF 0 zA.2.At)) then some ((⟨0,0,0,[]⟩:z7),0,10) else
  some (zA.1,zA.2.At,0))))
def o5 (F:Nat) (zJ:yB) (tP:Int) (rec:Int->Option (Unit⊕Bool)) (zQ:Int):Option (Unit⊕Bool) :=
  (bif decide (zQ<((zJ.Threads.length:Nat):Int)) then (yX zJ.Threads zQ).bind fun zH =>
  (bif (zH.Id==tP) then some (.inr true) else
  rec (zI (zQ+1))) else
  some (.inl ()))
def GG (F:Nat) (zJ:yB) (tP:Int):Nat->Int->Option (Unit⊕Bool)
  | 0,_=>none
  | n+1,zQ=>o5 F zJ tP (GG F zJ tP n) zQ
def B3 (F:Nat) (zJ:yB) (tP:Int):Option Bool :=
  (GG F zJ tP F (0:Int)).bind fun (zE:Unit⊕Bool) =>
  (match zE with
  | (.inl zX) =>
  some false
  | (.inr xJ) =>
  some xJ)
def JU (F:Nat) (zO:List z7) (tP:Int) (rec:Int->Int->Int->Option (Int×Int)) (z5:Int) (fX:Int) (zQ:Int):Option (Int×Int) :=
  (bif decide (zQ<((zO.length:Nat):Int)) then (((yX zO zQ).bind fun zH =>
  (bif (zH.Thread==tP) then (yX zO zQ).bind fun yO=>(yX zO zQ).bind fun xE =>
  (yX zO zQ).bind fun wI=>(yX zO zQ).bind fun vG=>(yX wI.Events (zI (((vG.Events.length:Nat):Int) - (1:Int)))).bind fun uV =>
  some (zI (yO.Serial+((xE.Events.length:Nat):Int)),uV.At) else
  some (z5,fX)):Option (Int×Int))).bind fun (zR:(Int×Int)) =>
  rec zR.1 zR.2 (zI (zQ+1)) else
  some (z5,fX))
def BE (F:Nat) (zO:List z7) (tP:Int):Nat->Int->Int->Int->Option (Int×Int)
  | 0,_,_,_=>none
  | n+1,z5,fX,zQ=>JU F zO tP (BE F zO tP n) z5 fX zQ
def KM (F:Nat) (zO:List z7) (tP:Int):Option (Int×Int) :=
  (BE F zO tP F 0 0 (0:Int)).bind fun (zE:(Int×Int)) =>
  some (zE.1,zE.2)
def BN (F:Nat) (zO:List z7) (zN:z7):Option Bool :=
  (KM F zO zN.Thread).bind fun zA =>
  ((bif (zN.Serial==(zI (zA.1+zN.Lost))) then ((yX zN.Events (0:Int)).bind fun zH=>some (decide (zH.At>=zA.2))) else (some false))).bind fun (uW:Bool) =>
  some uW
def JF (F:Nat) (zO:List z7) (rec:Int->Int->Option Int) (z5:Int) (zQ:Int):Option Int :=
  (bif decide (zQ<((zO.length:Nat):Int)) then (yX zO zQ).bind fun zH =>
  rec (zI (z5+((zH.Events.length:Nat):Int))) (zI (zQ+1)) else
  some z5)
def BT (F:Nat) (zO:List z7):Nat->Int->Int->Option Int
  | 0,_,_=>none
  | n+1,z5,zQ=>JF F zO (BT F zO n) z5 zQ
def CW (F:Nat) (zO:List z7):Option Int :=
  (BT F zO F 0 (0:Int)).bind fun (zE:Int) =>
  some zE
def rH (F:Nat) (zF:List Int) (zC:yB×Bool) (rec:Int->Int->Int->(List yZ)->(List z7)->(List yZ)->(List z7)->Option (yB×(List z7)×Int)) (xU:Int) (jL:Int) (qM:Int) (zB:List yZ) (zK:List z7) (z4:List yZ) (yL:List z7):Option (yB×(List z7)×Int) :=
  (need (0<=xU/\xU<=((zF.length:Nat):Int))).bind fun _=>(C6 F (sub zF xU ((zF.length:Nat):Int))).bind fun zM =>
  (need (((([]:List z7)).length+zK.length) * 48<=140737488355328)).bind fun _=>(need (((([]++zK)).length+yL.length) * 48<=140737488355328)).bind fun _ =>
  (bif (zM.2.2==0) then some ((⟨zC.1.Threads,zC.1.Domains,zB⟩:yB),zK,jL) else
  (bif ((zM.1==83)&&decide (qM<=1)) then (BY F (⟨zM.2.1,false⟩:uE)).bind fun zT=>(need ((z4.length+([zT.1]).length) * 40<=140737488355328)).bind fun _ =>
  ((bif zT.2.Bad then (some true) else (bif decide (((zT.2.B.length:Nat):Int)>0) then (some true) else ((g7 F zC.1.Domains (z4++[zT.1])).bind fun zU=>some (zU != (0:Int)))))).bind fun (zN:Bool) =>
  (bif zN then some ((⟨zC.1.Threads,zC.1.Domains,zB⟩:yB),zK,jL) else
  rec (zI (xU+zM.2.2)) jL 1 zB zK (z4++[zT.1]) yL) else
  (bif (zM.1==80) then (HY F zM.2.1).bind fun yF =>
  ((bif (yF.2.2 != 0) then (some true) else (bif (yF.2.1 != ((zM.2.1.length:Nat):Int)) then (some true) else ((B3 F (⟨zC.1.Threads,zC.1.Domains,zB⟩:yB) yF.1.Thread).bind fun yY=>bif !yY then (some true) else ((BN F (([]++zK)++yL) yF.1).bind fun yH=>bif !yH then (some true) else ((CW F (([]++zK)++yL)).bind fun yR=>some (decide ((zI (yR+((yF.1.Events.length:Nat):Int)))>(20000:Int))))))))).bind fun (uW:Bool) =>
  (bif uW then some ((⟨zC.1.Threads,zC.1.Domains,zB⟩:yB),zK,jL) else
  (need ((yL.length+([yF.1]).length) * 48<=140737488355328)).bind fun _ =>
  rec (zI (xU+zM.2.2)) jL 2 zB zK z4 (yL++[yF.1])) else
  (bif ((zM.1==70)&&((((zM.2.1.length:Nat):Int)==0)&&decide (qM>0))) then (need (((([]:List yZ)).length+z4.length) * 40<=140737488355328)).bind fun _ =>
  rec (zI (xU+zM.2.2)) (zI (xU+zM.2.2)) 0 ([]++z4) (([]++zK)++yL) z4 [] else
  some ((⟨zC.1.Threads,zC.1.Domains,zB⟩:yB),zK,jL)))))
def CH (F:Nat) (zF:List Int) (zC:yB×Bool):Nat->Int->Int->Int->(List yZ)->(List z7)->(List yZ)->(List z7)->Option (yB×(List z7)×Int)
  | 0,_,_,_,_,_,_,_=>none
  | n+1,xU,jL,qM,zB,zK,z4,yL=>rH F zF zC (CH F zF zC n) xU jL qM zB zK z4 yL
def AJ (F:Nat) (zF:List Int):Option (yB×(List z7)×Int) :=
  (C6 F zF).bind fun zA =>
  (bif ((zA.1 != 72)||(zA.2.2==0)) then some ((⟨[],[],[]⟩:yB),[],0) else
  (KH F zA.2.1).bind fun zC =>
  (bif !zC.2 then some ((⟨[],[],[]⟩:yB),[],0) else
  (need (((([]:List yZ)).length+zC.1.Snaps.length) * 40<=140737488355328)).bind fun _ =>
  (CH F zF zC F zA.2.2 zA.2.2 0 zC.1.Snaps [] ([]++zC.1.Snaps) []).bind fun (zE:(yB×(List z7)×Int)) =>
  some zE))
structure jP where
  Snaps:List yZ
  Packets:List z7
  deriving DecidableEq,Inhabited
def bM (s:jP):List AV:=[.sl false 5 (List.map z9 s.Snaps),.sl false 4 (List.map yG s.Packets)]
def j8 (s:jP):AV:=.agg (bM s)
def NJ (zG:yD) (zJ:yB):Option Bool :=
  some (decide (((zG.Data.length:Nat):Int)<=4000)&&(decide (zG.Size<=20000)&&(decide (((zJ.Threads.length:Nat):Int)<=70)&&(decide (((zJ.Domains.length:Nat):Int)<=10)&&decide (((zJ.Snaps.length:Nat):Int)<=20)))))
def H3 (F:Nat) (zH:jP) (rec:Int->Option (Unit⊕Bool)) (wE:Int):Option (Unit⊕Bool) :=
  (bif decide (wE<((zH.Packets.length:Nat):Int)) then (yX zH.Packets wE).bind fun yO =>
  (bif decide (((yO.Events.length:Nat):Int)>60) then some (.inr false) else
  rec (zI (wE+1))) else
  some (.inl ()))
def EW (F:Nat) (zH:jP):Nat->Int->Option (Unit⊕Bool)
  | 0,_=>none
  | n+1,wE=>H3 F zH (EW F zH n) wE
def oK (F:Nat) (zO:List jP) (rec:Int->Option (Unit⊕Bool)) (zP:Int):Option (Unit⊕Bool) :=
  (bif decide (zP<((zO.length:Nat):Int)) then (yX zO zP).bind fun zH =>
  (bif (decide (((zH.Snaps.length:Nat):Int)>10)||decide (((zH.Packets.length:Nat):Int)>8)) then some (.inr false) else
  (EW F zH F (0:Int)).bind fun (zR:Unit⊕Bool) =>
  (match zR with
  | (.inl zX) =>
  rec (zI (zP+1))
  | (.inr xJ) =>
  some (.inr xJ))) else
  some (.inl ()))
def BL (F:Nat) (zO:List jP):Nat->Int->Option (Unit⊕Bool)
  | 0,_=>none
  | n+1,zP=>oK F zO (BL F zO n) zP
def H4 (F:Nat) (zO:List jP):Option Bool :=
  (BL F zO F (0:Int)).bind fun (zE:Unit⊕Bool) =>
  (match zE with
  | (.inl vQ) =>
  some (decide (((zO.length:Nat):Int)<=6))
  | (.inr t3) =>
  some t3)
def lH (zG:yD):Option Int :=
  (bif (decide (zG.Size<1)||(decide (zG.Size>1048576)||(decide (((zG.Data.length:Nat):Int)>zG.Size)||(decide (zG.Durable<0)||(decide (zG.Durable>((zG.Data.length:Nat):Int))||(decide (zG.Left<(-1))||decide (zG.Left>1048576))))))) then some 2 else
  some 0)
def B1 (F:Nat) (zF:List Int) (zL:yZ):Option (List Int) :=
  (qP F zF zL.A).bind fun zA =>
  (qP F zA zL.AtA).bind fun zC =>
  (qP F zC zL.B).bind fun zM =>
  (qP F zM zL.AtB.Lo).bind fun zT =>
  (qP F zT zL.AtB.Hi).bind fun zU =>
  some zU
def EK (F:Nat) (zJ:yB) (rec:Int->(List Int)->Option (List Int)) (zQ:Int) (zK:List Int):Option (List Int) :=
  (bif decide (zQ<((zJ.Threads.length:Nat):Int)) then (yX zJ.Threads zQ).bind fun zH=>(qP F zK zH.Id).bind fun zC =>
  (yX zJ.Threads zQ).bind fun yO=>(BG F zC yO.Name).bind fun zM =>
  (yX zJ.Threads zQ).bind fun xE=>(qP F zM xE.Domain).bind fun zT =>
  rec (zI (zQ+1)) zT else
  some zK)
def oR (F:Nat) (zJ:yB):Nat->Int->(List Int)->Option (List Int)
  | 0,_,_=>none
  | n+1,zQ,zK=>EK F zJ (oR F zJ n) zQ zK
def GO (F:Nat) (zJ:yB) (rec:Int->(List Int)->Option (List Int)) (y9:Int) (z4:List Int):Option (List Int) :=
  (bif decide (y9<((zJ.Domains.length:Nat):Int)) then (yX zJ.Domains y9).bind fun wI=>(qP F z4 wI.Id).bind fun yF =>
  (yX zJ.Domains y9).bind fun vG=>(qP F yF vG.Ppm).bind fun yY =>
  rec (zI (y9+1)) yY else
  some z4)
def AZ (F:Nat) (zJ:yB):Nat->Int->(List Int)->Option (List Int)
  | 0,_,_=>none
  | n+1,y9,z4=>GO F zJ (AZ F zJ n) y9 z4
def KP (F:Nat) (zJ:yB) (rec:Int->(List Int)->Option (List Int)) (wQ:Int) (yL:List Int):Option (List Int) :=
  (bif decide (wQ<((zJ.Snaps.length:Nat):Int)) then (yX zJ.Snaps wQ).bind fun uV=>(B1 F yL uV).bind fun yR =>
  rec (zI (wQ+1)) yR else
  some yL)
def CE (F:Nat) (zJ:yB):Nat->Int->(List Int)->Option (List Int)
  | 0,_,_=>none
  | n+1,wQ,yL=>KP F zJ (CE F zJ n) wQ yL
def GK (F:Nat) (zJ:yB):Option (List Int) :=
  (qP F [] ((zJ.Threads.length:Nat):Int)).bind fun zA =>
  (oR F zJ F 0 zA).bind fun (zE:(List Int)) =>
  (qP F zE ((zJ.Domains.length:Nat):Int)).bind fun zU =>
  (AZ F zJ F 0 zU).bind fun (zR:(List Int)) =>
  (qP F zR ((zJ.Snaps.length:Nat):Int)).bind fun yH =>
  (CE F zJ F 0 yH).bind fun (yK:(List Int)) =>
  some yK
def gX (F:Nat) (t4:Int) (zF:List Int):Option (List Int) :=
  (need ((([t4]).length+zF.length) * 1<=140737488355328)).bind fun _ =>
  (qP F [t4] ((zF.length:Nat):Int)).bind fun zA =>
  (DE F ([t4]++zF)).bind fun zC=>(qP F zA zC).bind fun zM =>
  (need ((zM.length+zF.length) * 1<=140737488355328)).bind fun _ =>
  some (zM++zF)
def rI (zG:yD):Option (yD×Int) :=
  (lH zG).bind fun zA =>
  (bif (zA != 0) then some ((⟨0,[],0,0,false⟩:yD),zA) else
  (bif zG.Down then some (zG,19) else
  some (zG,0)))
def E6 (zG:yD) (zF:List Int):Option (yD×Int) :=
  (rI zG).bind fun zA =>
  (bif (zA.2 != 0) then some (zA.1,zA.2) else
  (bif decide ((zI (((zA.1.Data.length:Nat):Int)+((zF.length:Nat):Int)))>zA.1.Size) then some ((⟨0,[],0,0,false⟩:yD),6) else
  (((bif (decide (zA.1.Left>=0)&&decide (zA.1.Left<((zF.length:Nat):Int))) then (need (0<=zA.1.Left/\zA.1.Left<=((zF.length:Nat):Int))).bind fun _ =>
  some (sub zF 0 zA.1.Left) else
  some zF):Option (List Int))).bind fun (zE:(List Int)) =>
  (need (((([]:List Int)).length+zA.1.Data.length) * 1<=140737488355328)).bind fun _=>(need (((([]++zA.1.Data)).length+zE.length) * 1<=140737488355328)).bind fun _ =>
  (((bif decide (zA.1.Left>=0) then some (zI (zA.1.Left - ((zE.length:Nat):Int))) else
  some zA.1.Left):Option Int)).bind fun (zR:Int) =>
  (bif (decide (zA.1.Left>=0)&&decide (zA.1.Left<((zF.length:Nat):Int))) then some ((⟨zA.1.Size,(([]++zA.1.Data)++zE),zA.1.Durable,zR,true⟩:yD),19) else
  some ((⟨zA.1.Size,(([]++zA.1.Data)++zE),zA.1.Durable,zR,zA.1.Down⟩:yD),0))))
def r9 (zG:yD):Option (yD×Int) :=
  (rI zG).bind fun zA =>
  (bif (zA.2 != 0) then some (zA.1,zA.2) else
  (bif (zA.1.Left==0) then some ((⟨zA.1.Size,zA.1.Data,zA.1.Durable,zA.1.Left,true⟩:yD),19) else
  some ((⟨zA.1.Size,zA.1.Data,((zA.1.Data.length:Nat):Int),zA.1.Left,zA.1.Down⟩:yD),0)))
def EZ (F:Nat) (zO:List (List Int)) (rec:Int->Int->(List Int)->Int->Int->Bool->Option ((Int×(List Int)×Int×Int×Bool)⊕(yD×Int))) (zQ:Int) (zB:Int) (y5:List Int) (y6:Int) (yW:Int) (xC:Bool):Option ((Int×(List Int)×Int×Int×Bool)⊕(yD×Int)) :=
  (bif decide (zQ<((zO.length:Nat):Int)) then (yX zO zQ).bind fun zH=>(E6 (⟨zB,y5,y6,yW,xC⟩:yD) zH).bind fun zA =>
  (bif (zA.2 != 0) then some (.inr (zA.1,zA.2)) else
  rec (zI (zQ+1)) zA.1.Size zA.1.Data zA.1.Durable zA.1.Left zA.1.Down) else
  some (.inl (zB,y5,y6,yW,xC)))
def K9 (F:Nat) (zO:List (List Int)):Nat->Int->Int->(List Int)->Int->Int->Bool->Option ((Int×(List Int)×Int×Int×Bool)⊕(yD×Int))
  | 0,_,_,_,_,_,_=>none
  | n+1,zQ,zB,y5,y6,yW,xC=>EZ F zO (K9 F zO n) zQ zB y5 y6 yW xC
def oT (F:Nat) (zG:yD) (zO:List (List Int)):Option (yD×Int) :=
  (K9 F zO F 0 zG.Size zG.Data zG.Durable zG.Left zG.Down).bind fun (zE:(Int×(List Int)×Int×Int×Bool)⊕(yD×Int)) =>
  (match zE with
  | (.inl zX) =>
  (r9 (⟨zX.1,zX.2.1,zX.2.2.1,zX.2.2.2.1,zX.2.2.2.2⟩:yD)).bind fun zC =>
  some (zC.1,zC.2)
  | (.inr xJ) =>
  some xJ)
def KW (F:Nat) (zG:yD) (zJ:yB):Option (yD×Int) :=
  (lH zG).bind fun zA =>
  (bif (zA != 0) then some ((⟨0,[],0,0,false⟩:yD),zA) else
  (bif decide (((zG.Data.length:Nat):Int)>0) then some ((⟨0,[],0,0,false⟩:yD),18) else
  (DP F zJ).bind fun zC =>
  (bif (zC != 0) then some ((⟨0,[],0,0,false⟩:yD),zC) else
  (GK F zJ).bind fun zM=>(gX F 72 zM).bind fun zT=>(oT F zG [zT]).bind fun zU =>
  some (zU.1,zU.2))))
def oZ (y0:yD) (zF:yD):Option Bool :=
  some ((y0.Size==zF.Size)&&((y0.Durable==zF.Durable)&&((y0.Left==zF.Left)&&((y0.Down==zF.Down)&&(y0.Data==zF.Data)))))
def EU (F:Nat) (wZ:List yZ) (rec:Int->(List (List Int))->Option (List (List Int))) (zQ:Int) (zK:List (List Int)):Option (List (List Int)) :=
  (bif decide (zQ<((wZ.length:Nat):Int)) then (yX wZ zQ).bind fun zH=>(B1 F [] zH).bind fun zT=>(gX F 83 zT).bind fun zU=>(need ((zK.length+([zU]).length) * 24<=140737488355328)).bind fun _ =>
  rec (zI (zQ+1)) (zK++[zU]) else
  some zK)
def HH (F:Nat) (wZ:List yZ):Nat->Int->(List (List Int))->Option (List (List Int))
  | 0,_,_=>none
  | n+1,zQ,zK=>EU F wZ (HH F wZ n) zQ zK
def KT (F:Nat) (zO:List z7) (zC:yB×(List z7)×Int) (rec:Int->(List z7)->(List (List Int))->Option (((List z7)×(List (List Int)))⊕(yD×Int))) (y9:Int) (z4:List z7) (yL:List (List Int)):Option (((List z7)×(List (List Int)))⊕(yD×Int)) :=
  (bif decide (y9<((zO.length:Nat):Int)) then (yX zO y9).bind fun yO=>(rG F yO).bind fun yF =>
  (bif (yF != 0) then some (.inr ((⟨0,[],0,0,false⟩:yD),yF)) else
  (yX zO y9).bind fun xE=>(B3 F zC.1 xE.Thread).bind fun yY =>
  (bif !yY then some (.inr ((⟨0,[],0,0,false⟩:yD),5)) else
  (yX zO y9).bind fun wI=>(BN F z4 wI).bind fun yH =>
  (bif !yH then some (.inr ((⟨0,[],0,0,false⟩:yD),11)) else
  (yX zO y9).bind fun vG=>(need ((z4.length+([vG]).length) * 48<=140737488355328)).bind fun _ =>
  (yX zO y9).bind fun uV=>(CI F uV).bind fun yR =>
  (bif (yR.2 != 0) then some (.inr ((⟨0,[],0,0,false⟩:yD),yR.2)) else
  (gX F 80 yR.1).bind fun y8=>(need ((yL.length+([y8]).length) * 24<=140737488355328)).bind fun _ =>
  rec (zI (y9+1)) (z4++[vG]) (yL++[y8]))))) else
  some (.inl (z4,yL)))
def HP (F:Nat) (zO:List z7) (zC:yB×(List z7)×Int):Nat->Int->(List z7)->(List (List Int))->Option (((List z7)×(List (List Int)))⊕(yD×Int))
  | 0,_,_,_=>none
  | n+1,y9,z4,yL=>KT F zO zC (HP F zO zC n) y9 z4 yL
def KC (F:Nat) (zX:(List z7)×(List (List Int))) (vT:(List Int)) (rec:Int->Int->Option Int) (wV:Int) (wQ:Int):Option Int :=
  (bif decide (wQ<((((zX.2++[vT])).length:Nat):Int)) then (yX (zX.2++[vT]) wQ).bind fun nL =>
  rec (zI (wV+((nL.length:Nat):Int))) (zI (wQ+1)) else
  some wV)
def K7 (F:Nat) (zX:(List z7)×(List (List Int))) (vT:(List Int)):Nat->Int->Int->Option Int
  | 0,_,_=>none
  | n+1,wV,wQ=>KC F zX vT (K7 F zX vT n) wV wQ
def JI (F:Nat) (zG:yD) (wZ:List yZ) (zO:List z7):Option (yD×Int) :=
  (lH zG).bind fun zA =>
  (bif (zA != 0) then some ((⟨0,[],0,0,false⟩:yD),zA) else
  (bif zG.Down then some (zG,19) else
  (AJ F zG.Data).bind fun zC =>
  (bif ((zC.2.2==0)||(zC.2.2 != ((zG.Data.length:Nat):Int))) then some ((⟨0,[],0,0,false⟩:yD),18) else
  (need (((([]:List yZ)).length+zC.1.Snaps.length) * 40<=140737488355328)).bind fun _=>(need (((([]++zC.1.Snaps)).length+wZ.length) * 40<=140737488355328)).bind fun _ =>
  (g7 F zC.1.Domains (([]++zC.1.Snaps)++wZ)).bind fun zM =>
  (bif (zM != 0) then some ((⟨0,[],0,0,false⟩:yD),zM) else
  (HH F wZ F 0 []).bind fun (zE:(List (List Int))) =>
  (HP F zO zC F 0 zC.2.1 zE).bind fun (zR:((List z7)×(List (List Int)))⊕(yD×Int)) =>
  (match zR with
  | (.inl zX) =>
  (CW F zX.1).bind fun wM =>
  (bif decide (wM>20000) then some ((⟨0,[],0,0,false⟩:yD),7) else
  (bif (((zX.2.length:Nat):Int)==0) then some (zG,0) else
  (gX F 70 []).bind fun vT=>(need ((zX.2.length+([vT]).length) * 24<=140737488355328)).bind fun _ =>
  (K7 F zX vT F ((zG.Data.length:Nat):Int) (0:Int)).bind fun (yK:Int) =>
  (bif decide (yK>zG.Size) then some ((⟨0,[],0,0,false⟩:yD),6) else
  (oT F zG (zX.2++[vT])).bind fun qF =>
  some (qF.1,qF.2))))
  | (.inr xJ) =>
  some xJ)))))
def JE (zG:yD) (z5:Int):Option (yD×Int) :=
  (rI zG).bind fun zA =>
  (bif (zA.2 != 0) then some (zA.1,zA.2) else
  (bif (decide (z5<0)||decide (z5>((zA.1.Data.length:Nat):Int))) then some ((⟨0,[],0,0,false⟩:yD),2) else
  (need (0<=z5/\z5<=((zA.1.Data.length:Nat):Int))).bind fun _=>(need (((([]:List Int)).length+(sub zA.1.Data 0 z5).length) * 1<=140737488355328)).bind fun _ =>
  some ((⟨zA.1.Size,([]++(sub zA.1.Data 0 z5)),n7 zA.1.Durable z5,zA.1.Left,zA.1.Down⟩:yD),0)))
def JG (F:Nat) (zG:yD):Option (yD×Int) :=
  (lH zG).bind fun zA =>
  (bif (zA != 0) then some ((⟨0,[],0,0,false⟩:yD),zA) else
  (bif zG.Down then some (zG,19) else
  (AJ F zG.Data).bind fun zC =>
  (bif (zC.2.2==0) then some ((⟨0,[],0,0,false⟩:yD),10) else
  (JE zG zC.2.2).bind fun zM =>
  (r9 zM.1).bind fun zT =>
  some (zT.1,zT.2))))
def mL (F:Nat) (zG:yD) (zJ:yB) (z8:jP):Option Bool :=
  (((NJ zG zJ).bind fun zA=>bif !zA then (some true) else ((H4 F [z8]).bind fun zC=>some (!zC)))).bind fun (zN:Bool) =>
  (bif zN then (E4 F).bind fun zM =>
  some zM else
  (BH F zG zJ).bind fun zT =>
  (KW F zG zJ).bind fun zU =>
  ((bif (zT.2 != zU.2) then (some true) else ((oZ zT.1 zU.1).bind fun yF=>some (!yF)))).bind fun (uW:Bool) =>
  (bif uW then some false else
  (mM F zG z8.Snaps z8.Packets).bind fun yY =>
  (JI F zG z8.Snaps z8.Packets).bind fun yH =>
  ((bif (yY.2 != yH.2) then (some true) else ((oZ yY.1 yH.1).bind fun yR=>some (!yR)))).bind fun (j0:Bool) =>
  (bif j0 then some false else
  (B5 F zG).bind fun y8 =>
  (JG F zG).bind fun wM =>
  ((bif (y8.2==wM.2) then ((oZ y8.1 wM.1).bind fun vT=>bif vT then ((E4 F).bind fun qF=>some qF) else (some false)) else (some false))).bind fun (p_4:Bool) =>
  some p_4)))
abbrev zMb:List Int->AV:=fun l=>AV.sl false 1 (l.map (AV.int .u8))
abbrev zL0:yD:=(⟨0,[],0,0,false⟩:yD)
abbrev zL1:xF:=(⟨(⟨[],[],[]⟩:yB),[],none,0⟩:xF)
abbrev zL2:xD:=(⟨0,0,([]:List Int),0,0,[]⟩:xD)
abbrev zL3:wY:=(⟨(⟨(⟨[],[],[]⟩:yB),[],none,0⟩:xF),0⟩:wY)
abbrev zL4:vS:=(⟨([]:List Int),false,false,false,false,0,0,0,0⟩:vS)
abbrev zL5:vS:=(⟨([101,110,100]:List Int),false,false,false,false,0,0,0,0⟩:vS)
abbrev zL6:vS:=(⟨([114,117,110]:List Int),false,true,false,false,0,63,0,0⟩:vS)
abbrev zL7:vS:=(⟨([109,97,114,107]:List Int),true,false,false,false,0,0,0,0⟩:vS)
abbrev zL8:vS:=(⟨([98,101,103,105,110]:List Int),true,false,false,false,0,0,0,0⟩:vS)
abbrev zL9:vS:=(⟨([114,101,99,118]:List Int),false,true,false,false,0,1000000000000000,0,0⟩:vS)
abbrev M9:vS:=(⟨([115,116,111,112]:List Int),false,true,true,false,0,3,0,1000000000000000⟩:vS)
abbrev M8:vS:=(⟨([119,97,107,101]:List Int),false,true,false,false,0,1000000000000000,0,0⟩:vS)
abbrev L4:vS:=(⟨([115,101,110,100]:List Int),false,true,false,false,0,1000000000000000,0,0⟩:vS)
abbrev LN:vS:=(⟨([102,114,101,101]:List Int),false,true,false,false,0,1000000000000000,0,0⟩:vS)
abbrev ME:vS:=(⟨([115,97,109,112,108,101]:List Int),false,true,false,true,1,1000000000000,0,0⟩:vS)
abbrev OY:vS:=(⟨([97,108,108,111,99]:List Int),false,true,true,true,0,1000000000000000,1,1000000000000⟩:vS)
abbrev NE:vS:=(⟨([99,111,117,110,116]:List Int),true,true,false,false,(-1000000000000000),1000000000000000,0,0⟩:vS)
abbrev cR:y7:=Vb 64 [.nilsl,.nilsl,.own 1 0,.own 2 0,.fm true [],Ii 0,Ii 0]
abbrev pS:y7:=Vb 112 [Ii 0,Ii 0,.str ([]:List Int),Ii 0,Ii 0,.nilsl]
abbrev uL:y7:=Vb 36 [Ii 0,.nilsl,Ii 0,Ii 0,.bool false]
abbrev jG:y7:=Vb 28 [.own 1 0,.own 2 0,.own 3 0]
abbrev pF:y7:=Vb 56 [Ii 0,Ii 0,Ii 0,.own 1 0]
abbrev aS:y7:=Vb 56 [Ii 0,Ii 0,Ii 0,.own 2 0]
abbrev nT:y7:=Vb 28 [.nilsl,.nilsl,.nilsl]
abbrev zB0 (zG:yD):Bool:=(decide (zG.Size<1)||(decide (zG.Size>1048576)||(decide ((lN zG.Data)>zG.Size)||(decide (zG.Durable<0)||(decide (zG.Durable>(lN zG.Data))||(decide (zG.Left<(-1))||decide (zG.Left>1048576)))))))
abbrev zB1 (zG:yD) (zJ:yB):Bool:=(decide ((lN zG.Data)<=4000)&&(decide (zG.Size<=20000)&&(decide ((lN zJ.Threads)<=70)&&(decide ((lN zJ.Domains)<=10)&&decide ((lN zJ.Snaps)<=20)))))
abbrev zB2 (y0:yD) (zF:yD):Bool:=((y0.Size==zF.Size)&&((y0.Durable==zF.Durable)&&((y0.Left==zF.Left)&&((y0.Down==zF.Down)&&(y0.Data==zF.Data)))))
end Go.Ab
