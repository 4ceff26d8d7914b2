/- Printed: the typed Lean functions of the Go functions, or the proofs that the Go functions meet them. No conditions but those that the theorems name. -/
import Derived.Test.YtdpgdpjoemdkjaaA35
import Derived.Test.YtdpgdpjoemdkjaaA41
namespace Go.Ab
open Go
set_option linter.unusedVariables false
structure zC where
  Id:Int
  Name:List Int
  Domain:Int
  deriving DecidableEq,Inhabited
def wX (s:zC):List AV:=[.int .i64 s.Id,.str s.Name,.int .i64 s.Domain]
def xI (s:zC):AV:=.agg (wX s)
def jC (s_1:List Int) (c_1:Int):Option Int :=
  some (uH s_1 c_1)
def wP (s_1:List Int) (c_1:Int):Option Int :=
  (jC s_1 c_1).bind fun r_1 =>
  some r_1
def nF (c_1:Int):Option Bool :=
  ((bif decide (c_1≥(97:Int)) then (bif decide (c_1≤(122:Int)) then (some true) else (bif decide (c_1≥(65:Int)) then (bif decide (c_1≤(90:Int)) then (some true) else (bif decide (c_1≥(48:Int)) then (bif decide (c_1≤(57:Int)) then (some true) else ((wP ([95,46,58,47,60,62,36,42,126,45]:List Int) c_1).bind fun r_1=>some (decide (r_1≥(0:Int))))) else ((wP ([95,46,58,47,60,62,36,42,126,45]:List Int) c_1).bind fun r_1=>some (decide (r_1≥(0:Int)))))) else (bif decide (c_1≥(48:Int)) then (bif decide (c_1≤(57:Int)) then (some true) else ((wP ([95,46,58,47,60,62,36,42,126,45]:List Int) c_1).bind fun r_1=>some (decide (r_1≥(0:Int))))) else ((wP ([95,46,58,47,60,62,36,42,126,45]:List Int) c_1).bind fun r_1=>some (decide (r_1≥(0:Int))))))) else (bif decide (c_1≥(65:Int)) then (bif decide (c_1≤(90:Int)) then (some true) else (bif decide (c_1≥(48:Int)) then (bif decide (c_1≤(57:Int)) then (some true) else ((wP ([95,46,58,47,60,62,36,42,126,45]:List Int) c_1).bind fun r_1=>some (decide (r_1≥(0:Int))))) else ((wP ([95,46,58,47,60,62,36,42,126,45]:List Int) c_1).bind fun r_1=>some (decide (r_1≥(0:Int)))))) else (bif decide (c_1≥(48:Int)) then (bif decide (c_1≤(57:Int)) then (some true) else ((wP ([95,46,58,47,60,62,36,42,126,45]:List Int) c_1).bind fun r_1=>some (decide (r_1≥(0:Int))))) else ((wP ([95,46,58,47,60,62,36,42,126,45]:List Int) c_1).bind fun r_1=>some (decide (r_1≥(0:Int)))))))).bind fun (p_1:Bool) =>
  some p_1
def qJ (F:Nat) (s_1:List Int) (rec:Int→Option (Unit⊕Int)) (v_1:Int):Option (Unit⊕Int) :=
  (bif decide (v_1<(((s_1).length:Nat):Int)) then (xQ s_1 v_1).bind fun c_1=>(nF c_1).bind fun r_1 =>
  (bif !r_1 then some (.inr (3:Int)) else
  rec (zG (v_1+(1:Int)))) else
  some (.inl ()))
def pM (F:Nat) (s_1:List Int):Nat→Int→Option (Unit⊕Int)
  | 0,_=>none
  | n+1,v_1=>qJ F s_1 (pM F s_1 n) v_1
def qU (F:Nat) (s_1:List Int):Option Int :=
  (bif ((s_1==([]:List Int))||decide ((((s_1).length:Nat):Int)>(40:Int))) then some (3:Int) else
  (pM F s_1 F (0:Int)).bind fun (o_1:Unit⊕Int) =>
  (match o_1 with
  | (.inl q_1) =>
  some (0:Int)
  | (.inr q_2) =>
  some q_2))
def jE (F:Nat) (t_1:zC):Option Int :=
  (bif (decide (t_1.Id<(0:Int))||(decide (t_1.Id>(1000000000000000:Int))||(decide (t_1.Domain<(0:Int))||decide (t_1.Domain≥(8:Int))))) then some (2:Int) else
  (qU F t_1.Name).bind fun r_1 =>
  some r_1)
structure zJ where
  c0:Int
  c1:Int
  deriving DecidableEq,Inhabited
def zFY (s:zJ):List AV:=[.int .i64 s.c0,.int .i64 s.c1]
def zD (s:zJ):AV:=.agg (zFY s)
structure zB where
  Policy:Int
  Data:List (Int)
  Start:Int
  End:Int
  First:Int
  Next:Int
  deriving DecidableEq,Inhabited
def zP (s:zB):List AV:=[.int .i64 s.Policy,.sl false 1 (List.map (AV.int .u8) s.Data),.int .i64 s.Start,.int .i64 s.End,.int .i64 s.First,.int .i64 s.Next]
def z6 (s:zB):AV:=.agg (zP s)
structure zA where
  Thread:zC
  Names:List (List Int)
  Stacks:List (zJ)
  Ring:zB
  Last:Int
  Sent:Int
  deriving DecidableEq,Inhabited
def zK (s:zA):List AV:=[.int .i64 s.Thread.Id,.str s.Thread.Name,.int .i64 s.Thread.Domain,.sl false 1 (List.map AV.str s.Names),.sl false 2 (List.map zD s.Stacks),.int .i64 s.Ring.Policy,.sl false 1 (List.map (AV.int .u8) s.Ring.Data),.int .i64 s.Ring.Start,.int .i64 s.Ring.End,.int .i64 s.Ring.First,.int .i64 s.Ring.Next,.int .i64 s.Last,.int .i64 s.Sent]
def zM (s:zA):AV:=.agg (zK s)
def zDP (yA:Int) (p_1:Int):Option (zB×Int) :=
  (bif (decide (yA<(16:Int))||decide (yA>(65536:Int))) then some ((⟨(0:Int),[],(0:Int),(0:Int),(0:Int),(0:Int)⟩:zB),(2:Int)) else
  (bif ((p_1 != (1:Int))&&(p_1 != (2:Int))) then some ((⟨(0:Int),[],(0:Int),(0:Int),(0:Int),(0:Int)⟩:zB),(1:Int)) else
  (need ((0:Int)≤yA∧((yA).toNat) * 1≤281474976710656)).bind fun _ =>
  some ((⟨p_1,(List.replicate ((yA).toNat) (0:Int)),(0:Int),(0:Int),(0:Int),(0:Int)⟩:zB),(0:Int))))
def qY (F:Nat) (t_1:zC) (yA:Int) (p_1:Int):Option (zA×Int) :=
  (jE F t_1).bind fun r_1 =>
  (bif (r_1 != (0:Int)) then some ((⟨(⟨(0:Int),([]:List Int),(0:Int)⟩:zC),[],[],(⟨(0:Int),[],(0:Int),(0:Int),(0:Int),(0:Int)⟩:zB),(0:Int),(0:Int)⟩:zA),r_1) else
  (zDP yA p_1).bind fun r_2 =>
  (bif (r_2.2 != (0:Int)) then some ((⟨(⟨(0:Int),([]:List Int),(0:Int)⟩:zC),[],[],(⟨(0:Int),[],(0:Int),(0:Int),(0:Int),(0:Int)⟩:zB),(0:Int),(0:Int)⟩:zA),r_2.2) else
  some ((⟨t_1,[],[],r_2.1,(0:Int),(0:Int)⟩:zA),(0:Int))))
structure zE where
  At:Int
  Kind:Int
  Name:List Int
  N:Int
  M:Int
  Stack:List (List Int)
  deriving DecidableEq,Inhabited
def zT (s:zE):List AV:=[.int .i64 s.At,.int .i64 s.Kind,.str s.Name,.int .i64 s.N,.int .i64 s.M,.sl false 1 (List.map AV.str s.Stack)]
def zN (s:zE):AV:=.agg (zT s)
def zBt (yP:Int):Option zE :=
  some (⟨yP,(3:Int),([97]:List Int),(0:Int),(0:Int),[]⟩:zE)
def wU (F:Nat) (zI:List (List Int)) (rec:Int→(List ((List Int)×Bool))→Option (Unit⊕Int)) (v_1:Int) (zL:List ((List Int)×Bool)):Option (Unit⊕Int) :=
  (bif decide (v_1<(((zI).length:Nat):Int)) then (xQ zI v_1).bind fun x_1 =>
  (qU F x_1).bind fun r_1 =>
  (bif (r_1 != (0:Int)) then some (.inr r_1) else
  (bif ((tS zL x_1).getD false) then some (.inr (4:Int)) else
  (need ((zL).length<140737488355328)).bind fun _ =>
  rec (zG (v_1+(1:Int))) (t3 zL x_1 true))) else
  some (.inl ()))
def uK (F:Nat) (zI:List (List Int)):Nat→Int→(List ((List Int)×Bool))→Option (Unit⊕Int)
  | 0,_,_=>none
  | n+1,v_1,zL=>wU F zI (uK F zI n) v_1 zL
def jO (F:Nat) (zI:List (List Int)):Option Int :=
  (uK F zI F (0:Int) []).bind fun (o_1:Unit⊕Int) =>
  (match o_1 with
  | (.inl q_1) =>
  some (0:Int)
  | (.inr q_2) =>
  some q_2)
def tO (F:Nat) (zI:List (List Int)) (zH:List (zJ)) (rec:Int→(List (zJ×Bool))→(List Int)→Option (Unit⊕Int)) (v_1:Int) (zL:List (zJ×Bool)) (xB:List Int):Option (Unit⊕Int) :=
  (bif decide (v_1<(((zH).length:Nat):Int)) then (xQ zH v_1).bind fun x_1 =>
  (bif (decide (x_1.c0<(-1:Int))||(decide (x_1.c0≥v_1)||(decide (x_1.c1<(0:Int))||decide (x_1.c1≥(((zI).length:Nat):Int))))) then some (.inr (2:Int)) else
  (bif ((tS zL x_1).getD false) then some (.inr (4:Int)) else
  (need ((zL).length<140737488355328)).bind fun _ =>
  (xQ xB v_1).bind fun x_2 =>
  (((bif (x_1.c0 != (-1:Int)) then (xQ ((xB).set ((v_1).toNat) (1:Int)) v_1).bind fun x_3=>(xQ ((xB).set ((v_1).toNat) (1:Int)) x_1.c0).bind fun x_4=>(xQ ((xB).set ((v_1).toNat) (1:Int)) v_1).bind fun x_5 =>
  some (((xB).set ((v_1).toNat) (1:Int)).set ((v_1).toNat) (zG (x_3+x_4))) else
  some ((xB).set ((v_1).toNat) (1:Int))):Option (List Int))).bind fun (o_2:(List Int)) =>
  (xQ o_2 v_1).bind fun x_6 =>
  (bif decide (x_6>(32:Int)) then some (.inr (7:Int)) else
  rec (zG (v_1+(1:Int))) (t3 zL x_1 true) o_2))) else
  some (.inl ()))
def jH (F:Nat) (zI:List (List Int)) (zH:List (zJ)):Nat→Int→(List (zJ×Bool))→(List Int)→Option (Unit⊕Int)
  | 0,_,_,_=>none
  | n+1,v_1,zL,xB=>tO F zI zH (jH F zI zH n) v_1 zL xB
def q7 (F:Nat) (zI:List (List Int)) (zH:List (zJ)):Option Int :=
  (bif (decide ((((zI).length:Nat):Int)>(1000:Int))||decide ((((zH).length:Nat):Int)>(1000:Int))) then some (7:Int) else
  (jO F zI).bind fun r_1 =>
  (bif (r_1 != (0:Int)) then some r_1 else
  (need (((zH).length) * 8≤281474976710656)).bind fun _ =>
  (jH F zI zH F (0:Int) [] (List.replicate ((zH).length) (0:Int))).bind fun (o_1:Unit⊕Int) =>
  (match o_1 with
  | (.inl q_1) =>
  some (0:Int)
  | (.inr q_2) =>
  some q_2)))
def nG (r_1:zB):Option (List (Int)) :=
  (need ((0:Int)≤(zG (r_1.End - r_1.Start))∧((zG (r_1.End - r_1.Start)).toNat) * 1≤281474976710656)).bind fun _ =>
  (need ((((r_1.Data).length:Nat):Int)≠(0:Int))).bind fun _ =>
  (need ((0:Int)≤(yH r_1.Start (((r_1.Data).length:Nat):Int))∧(yH r_1.Start (((r_1.Data).length:Nat):Int))≤(((r_1.Data).length:Nat):Int))).bind fun _=>(need (0≤((zG (r_1.End - r_1.Start)).toNat)∧((zG (r_1.End - r_1.Start)).toNat)≤((List.replicate ((zG (r_1.End - r_1.Start)).toNat) (0:Int))).length)).bind fun _ =>
  (need ((((min (sub r_1.Data (yH r_1.Start (((r_1.Data).length:Nat):Int)) (((r_1.Data).length:Nat):Int)).length ((zG (r_1.End - r_1.Start)).toNat - 0)):Nat):Int)≤(((zG (r_1.End - r_1.Start)).toNat:Nat):Int))).bind fun _=>(need ((min (sub r_1.Data (yH r_1.Start (((r_1.Data).length:Nat):Int)) (((r_1.Data).length:Nat):Int)).length ((zG (r_1.End - r_1.Start)).toNat - 0))≤((zG (r_1.End - r_1.Start)).toNat)∧((zG (r_1.End - r_1.Start)).toNat)≤((cpy (List.replicate ((zG (r_1.End - r_1.Start)).toNat) (0:Int)) 0 ((zG (r_1.End - r_1.Start)).toNat) (sub r_1.Data (yH r_1.Start (((r_1.Data).length:Nat):Int)) (((r_1.Data).length:Nat):Int)))).length)).bind fun _ =>
  some (cpy (cpy (List.replicate ((zG (r_1.End - r_1.Start)).toNat) (0:Int)) 0 ((zG (r_1.End - r_1.Start)).toNat) (sub r_1.Data (yH r_1.Start (((r_1.Data).length:Nat):Int)) (((r_1.Data).length:Nat):Int))) (min (sub r_1.Data (yH r_1.Start (((r_1.Data).length:Nat):Int)) (((r_1.Data).length:Nat):Int)).length ((zG (r_1.End - r_1.Start)).toNat - 0)) ((zG (r_1.End - r_1.Start)).toNat) r_1.Data)
def nJ (u_1:Int):Option Int :=
  some (zAJ .i64 (zG (nT .u64 u_1 (1:Int))) (zG (0 - (zG (vT .u64 u_1 (1:Int))))))
def jK (F:Nat) (b_1:List (Int)) (rec:Int→Int→Option (Unit⊕(Int×Int×Int))) (u_1:Int) (v_1:Int):Option (Unit⊕(Int×Int×Int)) :=
  (bif decide (v_1<(((b_1).length:Nat):Int)) then (xQ b_1 v_1).bind fun x_1 =>
  (bif ((v_1==(9:Int))&&decide (x_1>(1:Int))) then some (.inr ((0:Int),(0:Int),(10:Int))) else
  (need ((0:Int)≤(zG ((7:Int) * v_1)))).bind fun _ =>
  (bif decide (x_1≥(128:Int)) then rec (ior .u64 u_1 (kU .u64 (yG (vT .u8 x_1 (127:Int))) (zG ((7:Int) * v_1)))) (zG (v_1+(1:Int))) else
  (bif ((x_1==(0:Int))&&decide (v_1>(0:Int))) then some (.inr ((0:Int),(0:Int),(10:Int))) else
  (nJ (ior .u64 u_1 (kU .u64 (yG (vT .u8 x_1 (127:Int))) (zG ((7:Int) * v_1))))).bind fun r_1 =>
  some (.inr (r_1,zG (v_1+(1:Int)),(0:Int)))))) else
  some (.inl ()))
def j6 (F:Nat) (b_1:List (Int)):Nat→Int→Int→Option (Unit⊕(Int×Int×Int))
  | 0,_,_=>none
  | n+1,u_1,v_1=>jK F b_1 (j6 F b_1 n) u_1 v_1
def zAU (F:Nat) (b_1:List (Int)):Option (Int×Int×Int) :=
  (j6 F b_1 F (0:Int) (0:Int)).bind fun (o_1:Unit⊕(Int×Int×Int)) =>
  (match o_1 with
  | (.inl q_1) =>
  some ((0:Int),(0:Int),(8:Int))
  | (.inr q_2) =>
  some q_2)
def jB (F:Nat) (rec:(List Int)→(List (List (Int)))→Option ((List (List (Int)))⊕((List (List (Int)))×Bool))) (b_2:List Int) (zL:List (List (Int))):Option ((List (List (Int)))⊕((List (List (Int)))×Bool)) :=
  (bif decide ((((b_2).length:Nat):Int)>(0:Int)) then (zAU F b_2).bind fun r_1 =>
  (bif ((r_1.2.2 != (0:Int))||(decide (r_1.1<(0:Int))||(decide (r_1.1>(2000:Int))||decide ((zG (r_1.2.1+r_1.1))>(((b_2).length:Nat):Int))))) then some (.inr ([],false)) else
  (need ((0:Int)≤r_1.2.1∧r_1.2.1≤(zG (r_1.2.1+r_1.1))∧(zG (r_1.2.1+r_1.1))≤(((b_2).length:Nat):Int))).bind fun _=>(need (((zL).length+(([sub b_2 r_1.2.1 (zG (r_1.2.1+r_1.1))]:List (List (Int)))).length) * 24≤140737488355328)).bind fun _ =>
  (need ((0:Int)≤(zG (r_1.2.1+r_1.1))∧(zG (r_1.2.1+r_1.1))≤(((b_2).length:Nat):Int))).bind fun _ =>
  rec (sub b_2 (zG (r_1.2.1+r_1.1)) (((b_2).length:Nat):Int)) (zL++([sub b_2 r_1.2.1 (zG (r_1.2.1+r_1.1))]:List (List (Int))))) else
  some (.inl zL))
def nE (F:Nat):Nat→(List Int)→(List (List (Int)))→Option ((List (List (Int)))⊕((List (List (Int)))×Bool))
  | 0,_,_=>none
  | n+1,b_2,zL=>jB F (nE F n) b_2 zL
def zBb (F:Nat) (b_1:List (Int)):Option ((List (List (Int)))×Bool) :=
  (nE F F b_1 []).bind fun (o_1:(List (List (Int)))⊕((List (List (Int)))×Bool)) =>
  (match o_1 with
  | (.inl q_1) =>
  some (q_1,true)
  | (.inr q_2) =>
  some q_2)
def zAd (F:Nat) (r_1:zB):Option ((List (List (Int)))×Int) :=
  (((bif ((r_1.Policy != (1:Int))&&(r_1.Policy != (2:Int))) then some (.inr ([],(1:Int))) else
  (bif (decide ((((r_1.Data).length:Nat):Int)<(16:Int))||decide ((((r_1.Data).length:Nat):Int)>(65536:Int))) then some (.inr ([],(2:Int))) else
  (bif decide (r_1.Start<(0:Int)) then some (.inr ([],(2:Int))) else
  (bif decide (r_1.End<r_1.Start) then some (.inr ([],(2:Int))) else
  (bif decide (r_1.End>(1000000000000000:Int)) then some (.inr ([],(2:Int))) else
  (bif decide ((zG (r_1.End - r_1.Start))>(((r_1.Data).length:Nat):Int)) then some (.inr ([],(2:Int))) else
  (bif decide (r_1.First<(0:Int)) then some (.inr ([],(2:Int))) else
  (bif decide (r_1.Next<r_1.First) then some (.inr ([],(2:Int))) else
  (bif decide (r_1.Next>(1000000000000000:Int)) then some (.inr ([],(2:Int))) else
  some (.inl ())))))))))):Option (Unit⊕((List (List (Int)))×Int)))).bind fun (o_1:Unit⊕((List (List (Int)))×Int)) =>
  (match o_1 with
  | (.inl q_1) =>
  (nG r_1).bind fun r_2=>(zBb F r_2).bind fun r_3 =>
  (bif (!r_3.2||((((r_3.1).length:Nat):Int) != (zG (r_1.Next - r_1.First)))) then some ([],(10:Int)) else
  some (r_3.1,(0:Int)))
  | (.inr q_2) =>
  some q_2)
def zBd (F:Nat) (r_1:zB):Option Int :=
  (zAd F r_1).bind fun r_2 =>
  some r_2.2
def zAW (F:Nat) (r_1:zB):Option ((List (List (Int)))×zB) :=
  (zAd F r_1).bind fun r_2 =>
  (bif (r_2.2 != (0:Int)) then some ([],r_1) else
  some (r_2.1,(⟨r_1.Policy,r_1.Data,r_1.End,r_1.End,r_1.Next,r_1.Next⟩:zB)))
structure yY where
  b:List (Int)
  used:Int
  fault:Int
  deriving DecidableEq,Inhabited
def yL (s:yY):List AV:=[.sl false 1 (List.map (AV.int .u8) s.b),.int .i64 s.used,.int .i64 s.fault]
def wA (F:Nat) (x_1:yY):Option (Int×yY) :=
  (bif (x_1.fault != (0:Int)) then some ((0:Int),x_1) else
  (need ((0:Int)≤x_1.used∧x_1.used≤(((x_1.b).length:Nat):Int))).bind fun _=>(zAU F (sub x_1.b x_1.used (((x_1.b).length:Nat):Int))).bind fun r_1 =>
  some (r_1.1,(⟨x_1.b,zG (x_1.used+r_1.2.1),r_1.2.2⟩:yY)))
def zAH (k_1:Int):Option (Bool×Bool×Bool×Bool) :=
  some (((k_1==(1:Int))||((k_1==(3:Int))||(k_1==(4:Int)))),decide (k_1≥(4:Int)),((k_1==(9:Int))||(k_1==(11:Int))),((k_1==(5:Int))||(k_1==(11:Int))))
def wG (F:Nat) (rec:Int→Int→(List (List Int))→Option (List (List Int))) (i_1:Int) (j_1:Int) (zL:List (List Int)):Option (List (List Int)) :=
  (bif decide (i_1<j_1) then (xQ zL j_1).bind fun x_1=>(xQ zL i_1).bind fun x_2=>(xQ zL i_1).bind fun x_3=>(xQ ((zL).set ((i_1).toNat) x_1) j_1).bind fun x_4 =>
  rec (zG (i_1+(1:Int))) (zG (j_1 - (1:Int))) (((zL).set ((i_1).toNat) x_1).set ((j_1).toNat) x_2) else
  some zL)
def wC (F:Nat):Nat→Int→Int→(List (List Int))→Option (List (List Int))
  | 0,_,_,_=>none
  | n+1,i_1,j_1,zL=>wG F (wC F n) i_1 j_1 zL
def vO (F:Nat) (s_1:List (List Int)):Option (List (List Int)) :=
  (wC F F (0:Int) (zG ((((s_1).length:Nat):Int) - (1:Int))) s_1).bind fun (o_1:(List (List Int))) =>
  some o_1
def vU (F:Nat) (zI:List (List Int)) (zH:List (zJ)) (rec:Int→(List (List Int))→Option (List (List Int))) (i_2:Int) (zL:List (List Int)):Option (List (List Int)) :=
  (bif (i_2 != (-1:Int)) then (xQ zH i_2).bind fun x_1=>(xQ zI x_1.c1).bind fun x_2=>(need (((zL).length+(([x_2]:List (List Int))).length) * 16≤140737488355328)).bind fun _ =>
  (xQ zH i_2).bind fun x_3 =>
  rec x_3.c0 (zL++([x_2]:List (List Int))) else
  some zL)
def kN (F:Nat) (zI:List (List Int)) (zH:List (zJ)):Nat→Int→(List (List Int))→Option (List (List Int))
  | 0,_,_=>none
  | n+1,i_2,zL=>vU F zI zH (kN F zI zH n) i_2 zL
def pJ (F:Nat) (zI:List (List Int)) (zH:List (zJ)) (i_1:Int):Option ((List (List Int))×Int) :=
  (q7 F zI zH).bind fun r_1 =>
  (bif (r_1 != (0:Int)) then some ([],(1:Int)) else
  (bif (decide (i_1<(-1:Int))||decide (i_1≥(((zH).length:Nat):Int))) then some ([],(2:Int)) else
  (kN F zI zH F i_1 []).bind fun (o_1:(List (List Int))) =>
  (vO F o_1).bind fun r_2=>(need ((r_2).length=(o_1).length)).bind fun _ =>
  some (r_2,(0:Int))))
structure zR where
  word:List Int
  name:Bool
  n:Bool
  m:Bool
  stack:Bool
  least:Int
  most:Int
  mLeast:Int
  mMost:Int
  deriving DecidableEq,Inhabited
def yI (s:zR):List AV:=[.str s.word,.bool s.name,.bool s.n,.bool s.m,.bool s.stack,.int .i64 s.least,.int .i64 s.most,.int .i64 s.mLeast,.int .i64 s.mMost]
def xH (s:zR):AV:=.agg (yI s)
def nM:Option (List (zR)) :=
  some ([(⟨([]:List Int),false,false,false,false,(0:Int),(0:Int),(0:Int),(0:Int)⟩:zR),(⟨([98,101,103,105,110]:List Int),true,false,false,false,(0:Int),(0:Int),(0:Int),(0:Int)⟩:zR),(⟨([101,110,100]:List Int),false,false,false,false,(0:Int),(0:Int),(0:Int),(0:Int)⟩:zR),(⟨([109,97,114,107]:List Int),true,false,false,false,(0:Int),(0:Int),(0:Int),(0:Int)⟩:zR),(⟨([99,111,117,110,116]:List Int),true,true,false,false,(-1000000000000000:Int),(1000000000000000:Int),(0:Int),(0:Int)⟩:zR),(⟨([115,97,109,112,108,101]:List Int),false,true,false,true,(1:Int),(1000000000000:Int),(0:Int),(0:Int)⟩:zR),(⟨([115,101,110,100]:List Int),false,true,false,false,(0:Int),(1000000000000000:Int),(0:Int),(0:Int)⟩:zR),(⟨([114,101,99,118]:List Int),false,true,false,false,(0:Int),(1000000000000000:Int),(0:Int),(0:Int)⟩:zR),(⟨([114,117,110]:List Int),false,true,false,false,(0:Int),(63:Int),(0:Int),(0:Int)⟩:zR),(⟨([115,116,111,112]:List Int),false,true,true,false,(0:Int),(3:Int),(0:Int),(1000000000000000:Int)⟩:zR),(⟨([119,97,107,101]:List Int),false,true,false,false,(0:Int),(1000000000000000:Int),(0:Int),(0:Int)⟩:zR),(⟨([97,108,108,111,99]:List Int),false,true,true,true,(0:Int),(1000000000000000:Int),(1:Int),(1000000000000:Int)⟩:zR),(⟨([102,114,101,101]:List Int),false,true,false,false,(0:Int),(1000000000000000:Int),(0:Int),(0:Int)⟩:zR)]:List zR)
def nY (k_1:Int):Option (zR×Bool) :=
  (nM ).bind fun r_1 =>
  (bif (decide (k_1<(1:Int))||decide (k_1≥(((r_1).length:Nat):Int))) then some ((⟨([]:List Int),false,false,false,false,(0:Int),(0:Int),(0:Int),(0:Int)⟩:zR),false) else
  (xQ r_1 k_1).bind fun x_1 =>
  some (x_1,true))
def tI (F:Nat) (l_1:List (List Int)) (rec:Int→Option (Unit⊕Int)) (v_1:Int):Option (Unit⊕Int) :=
  (bif decide (v_1<(((l_1).length:Nat):Int)) then (xQ l_1 v_1).bind fun x_1 =>
  (qU F x_1).bind fun r_1 =>
  (bif (r_1 != (0:Int)) then some (.inr r_1) else
  rec (zG (v_1+(1:Int)))) else
  some (.inl ()))
def j4 (F:Nat) (l_1:List (List Int)):Nat→Int→Option (Unit⊕Int)
  | 0,_=>none
  | n+1,v_1=>tI F l_1 (j4 F l_1 n) v_1
def kG (F:Nat) (l_1:List (List Int)):Option Int :=
  (bif decide ((((l_1).length:Nat):Int)>(32:Int)) then some (7:Int) else
  (j4 F l_1 F (0:Int)).bind fun (o_1:Unit⊕Int) =>
  (match o_1 with
  | (.inl q_1) =>
  some (0:Int)
  | (.inr q_2) =>
  some q_2))
def zAD (F:Nat) (f_1:zR) (e_1:zE):Option Int :=
  (bif f_1.name then (qU F e_1.Name).bind fun r_1 =>
  some r_1 else
  (kG F e_1.Stack).bind fun r_2 =>
  some r_2)
def jU (F:Nat) (e_1:zE):Option Int :=
  (bif (decide (e_1.At<(0:Int))||decide (e_1.At>(1000000000000:Int))) then some (2:Int) else
  (nY e_1.Kind).bind fun r_1 =>
  ((bif !r_1.2 then (some true) else (bif !r_1.1.name then (bif !(e_1.Name==([]:List Int)) then (some true) else (bif !r_1.1.n then (bif (e_1.N != (0:Int)) then (some true) else (bif !r_1.1.m then (bif (e_1.M != (0:Int)) then (some true) else (bif !r_1.1.stack then (some (decide ((((e_1.Stack).length:Nat):Int)>(0:Int)))) else (some false))) else (bif !r_1.1.stack then (some (decide ((((e_1.Stack).length:Nat):Int)>(0:Int)))) else (some false)))) else (bif !r_1.1.m then (bif (e_1.M != (0:Int)) then (some true) else (bif !r_1.1.stack then (some (decide ((((e_1.Stack).length:Nat):Int)>(0:Int)))) else (some false))) else (bif !r_1.1.stack then (some (decide ((((e_1.Stack).length:Nat):Int)>(0:Int)))) else (some false))))) else (bif !r_1.1.n then (bif (e_1.N != (0:Int)) then (some true) else (bif !r_1.1.m then (bif (e_1.M != (0:Int)) then (some true) else (bif !r_1.1.stack then (some (decide ((((e_1.Stack).length:Nat):Int)>(0:Int)))) else (some false))) else (bif !r_1.1.stack then (some (decide ((((e_1.Stack).length:Nat):Int)>(0:Int)))) else (some false)))) else (bif !r_1.1.m then (bif (e_1.M != (0:Int)) then (some true) else (bif !r_1.1.stack then (some (decide ((((e_1.Stack).length:Nat):Int)>(0:Int)))) else (some false))) else (bif !r_1.1.stack then (some (decide ((((e_1.Stack).length:Nat):Int)>(0:Int)))) else (some false))))))).bind fun (p_1:Bool) =>
  (bif p_1 then some (1:Int) else
  (zAD F r_1.1 e_1).bind fun r_2 =>
  (bif (r_2 != (0:Int)) then some r_2 else
  (bif (r_1.1.n&&(decide (e_1.N<r_1.1.least)||decide (e_1.N>r_1.1.most))) then some (2:Int) else
  (bif ((e_1.Kind==(9:Int))&&((e_1.N != (2:Int))&&(e_1.M != (0:Int)))) then some (1:Int) else
  (bif (r_1.1.m&&(bif decide (e_1.M<r_1.1.mLeast) then ((e_1.Kind != (9:Int))||(e_1.N==(2:Int))) else (decide (e_1.M>r_1.1.mMost)&&((e_1.Kind != (9:Int))||(e_1.N==(2:Int)))))) then some (2:Int) else
  some (0:Int)))))))
def nK (F:Nat) (zI:List (List Int)) (zH:List (zJ)) (b_1:List (Int)):Option (zE×Int×Int) :=
  (q7 F zI zH).bind fun r_1 =>
  (bif (r_1 != (0:Int)) then some ((⟨(0:Int),(0:Int),([]:List Int),(0:Int),(0:Int),[]⟩:zE),(0:Int),(1:Int)) else
  (wA F (⟨b_1,(0:Int),(0:Int)⟩:yY)).bind fun r_2 =>
  (wA F r_2.2).bind fun r_3 =>
  (((bif ((r_3.2.fault==(0:Int))&&(decide (r_2.1<(1:Int))||decide (r_2.1>(12:Int)))) then some (10:Int) else
  some r_3.2.fault):Option Int)).bind fun (o_1:Int) =>
  (zAH r_2.1).bind fun r_4 =>
  (((bif r_4.1 then (wA F (⟨r_3.2.b,r_3.2.used,o_1⟩:yY)).bind fun r_5 =>
  some (r_5.1,r_5.2.b,r_5.2.used,r_5.2.fault) else
  some ((0:Int),r_3.2.b,r_3.2.used,o_1)):Option (Int×(List Int)×Int×Int))).bind fun (o_2:(Int×(List Int)×Int×Int)) =>
  (((bif r_4.2.1 then (wA F (⟨o_2.2.1,o_2.2.2.1,o_2.2.2.2⟩:yY)).bind fun r_6 =>
  some (r_6.2.b,r_6.2.used,r_6.2.fault,r_6.1) else
  some (o_2.2.1,o_2.2.2.1,o_2.2.2.2,(0:Int))):Option ((List Int)×Int×Int×Int))).bind fun (o_3:((List Int)×Int×Int×Int)) =>
  (((bif r_4.2.2.1 then (wA F (⟨o_3.1,o_3.2.1,o_3.2.2.1⟩:yY)).bind fun r_7 =>
  some (r_7.2.b,r_7.2.used,r_7.2.fault,r_7.1) else
  some (o_3.1,o_3.2.1,o_3.2.2.1,(0:Int))):Option ((List Int)×Int×Int×Int))).bind fun (o_4:((List Int)×Int×Int×Int)) =>
  (((bif r_4.2.2.2 then (wA F (⟨o_4.1,o_4.2.1,o_4.2.2.1⟩:yY)).bind fun r_8 =>
  some (r_8.1,r_8.2.b,r_8.2.used,r_8.2.fault) else
  some ((-1:Int),o_4.1,o_4.2.1,o_4.2.2.1)):Option (Int×(List Int)×Int×Int))).bind fun (o_5:(Int×(List Int)×Int×Int)) =>
  (((bif (o_5.2.2.2 != (0:Int)) then some (.inr ((⟨(0:Int),(0:Int),([]:List Int),(0:Int),(0:Int),[]⟩:zE),(0:Int),o_5.2.2.2)) else
  (bif (r_4.1&&(decide (o_2.1<(0:Int))||decide (o_2.1≥(((zI).length:Nat):Int)))) then some (.inr ((⟨(0:Int),(0:Int),([]:List Int),(0:Int),(0:Int),[]⟩:zE),(0:Int),(2:Int))) else
  (bif (decide (o_5.1<(-1:Int))||decide (o_5.1≥(((zH).length:Nat):Int))) then some (.inr ((⟨(0:Int),(0:Int),([]:List Int),(0:Int),(0:Int),[]⟩:zE),(0:Int),(2:Int))) else
  some (.inl ())))):Option (Unit⊕(zE×Int×Int)))).bind fun (o_6:Unit⊕(zE×Int×Int)) =>
  (match o_6 with
  | (.inl q_1) =>
  (((bif r_4.1 then (xQ zI o_2.1).bind fun x_1 =>
  some x_1 else
  some ([]:List Int)):Option (List Int))).bind fun (o_7:(List Int)) =>
  (pJ F zI zH o_5.1).bind fun r_9 =>
  (jU F (⟨r_3.1,r_2.1,o_7,o_3.2.2.2,o_4.2.2.2,r_9.1⟩:zE)).bind fun yQ =>
  (bif (yQ != (0:Int)) then some ((⟨(0:Int),(0:Int),([]:List Int),(0:Int),(0:Int),[]⟩:zE),(0:Int),(10:Int)) else
  some ((⟨r_3.1,r_2.1,o_7,o_3.2.2.2,o_4.2.2.2,r_9.1⟩:zE),o_5.2.2.1,(0:Int)))
  | (.inr q_2) =>
  some q_2))
def uN (F:Nat) (p_1:zA) (r_1:(List (List (Int)))×zB) (rec:Int→(List zE)→Option ((List zE)⊕((List (zE))×Bool))) (v_1:Int) (zL:List zE):Option ((List zE)⊕((List (zE))×Bool)) :=
  (bif decide (v_1<(((r_1.1).length:Nat):Int)) then (xQ r_1.1 v_1).bind fun x_1 =>
  (nK F p_1.Names p_1.Stacks x_1).bind fun r_2 =>
  (bif ((r_2.2.2 != (0:Int))||(r_2.2.1 != (((x_1).length:Nat):Int))) then some (.inr ([],false)) else
  (need (((zL).length+(([r_2.1]:List zE)).length) * 72≤140737488355328)).bind fun _ =>
  rec (zG (v_1+(1:Int))) (zL++([r_2.1]:List zE))) else
  some (.inl zL))
def q8 (F:Nat) (p_1:zA) (r_1:(List (List (Int)))×zB):Nat→Int→(List zE)→Option ((List zE)⊕((List (zE))×Bool))
  | 0,_,_=>none
  | n+1,v_1,zL=>uN F p_1 r_1 (q8 F p_1 r_1 n) v_1 zL
def kM (F:Nat) (p_1:zA):Option ((List (zE))×Bool) :=
  (zAW F p_1.Ring).bind fun r_1 =>
  (q8 F p_1 r_1 F (0:Int) []).bind fun (o_1:(List zE)⊕((List (zE))×Bool)) =>
  (match o_1 with
  | (.inl q_1) =>
  some (q_1,true)
  | (.inr q_2) =>
  some q_2)
def uE (F:Nat) (r_4:(List (zE))×Bool) (rec:Bool→Int→Int→Option (Bool×Int)) (p9:Bool) (uP:Int) (v_1:Int):Option (Bool×Int) :=
  (bif decide (v_1<(((r_4.1).length:Nat):Int)) then (xQ r_4.1 v_1).bind fun x_1 =>
  rec (p9&&decide (x_1.At≥uP)) x_1.At (zG (v_1+(1:Int))) else
  some (p9,uP))
def uX (F:Nat) (r_4:(List (zE))×Bool):Nat→Bool→Int→Int→Option (Bool×Int)
  | 0,_,_,_=>none
  | n+1,p9,uP,v_1=>uE F r_4 (uX F r_4 n) p9 uP v_1
def qP (F:Nat) (p_1:zA):Option ((List (zE))×Int) :=
  (jE F p_1.Thread).bind fun r_1 =>
  (bif (r_1 != (0:Int)) then some ([],r_1) else
  (q7 F p_1.Names p_1.Stacks).bind fun r_2 =>
  (bif (r_2 != (0:Int)) then some ([],r_2) else
  (zBd F p_1.Ring).bind fun r_3 =>
  (bif (r_3 != (0:Int)) then some ([],r_3) else
  (bif (decide (p_1.Sent<(0:Int))||(decide (p_1.Sent>p_1.Ring.First)||(decide (p_1.Last<(0:Int))||decide (p_1.Last>(1000000000000:Int))))) then some ([],(2:Int)) else
  (kM F p_1).bind fun r_4 =>
  (uX F r_4 F r_4.2 (0:Int) (0:Int)).bind fun (o_1:(Bool×Int)) =>
  (bif (!o_1.1||decide (o_1.2>p_1.Last)) then some ([],(10:Int)) else
  some (r_4.1,(0:Int)))))))
def qN (F:Nat) (p_1:zA):Option Int :=
  (qP F p_1).bind fun r_1 =>
  some r_1.2
def zAf (n_1:Int):Option Int :=
  some (zAJ .u64 (kU .u64 (yG n_1) (1:Int)) (yG (nT .i64 n_1 (63:Int))))
def vV (F:Nat) (rec:Int→Int→(List Int)→Option (Int×(List Int))) (yA:Int) (u_1:Int) (zL:List Int):Option (Int×(List Int)) :=
  (need ((0:Int)≤yA∧yA<((10:Nat):Int))).bind fun _=>((zL)[(yA).toNat]?).bind fun x_1 =>
  (bif decide (u_1<(128:Int)) then some (zG (yA+(1:Int)),(zL).set ((yA).toNat) (p8 (vT .u64 u_1 (127:Int)))) else
  (need ((0:Int)≤(zG ((zG (yA+(1:Int))) - (1:Int)))∧(zG ((zG (yA+(1:Int))) - (1:Int)))<((10:Nat):Int))).bind fun _=>(((zL).set ((yA).toNat) (p8 (vT .u64 u_1 (127:Int))))[(zG ((zG (yA+(1:Int))) - (1:Int))).toNat]?).bind fun x_2=>(need ((0:Int)≤(zG ((zG (yA+(1:Int))) - (1:Int)))∧(zG ((zG (yA+(1:Int))) - (1:Int)))<((10:Nat):Int))).bind fun _=>(((zL).set ((yA).toNat) (p8 (vT .u64 u_1 (127:Int))))[(zG ((zG (yA+(1:Int))) - (1:Int))).toNat]?).bind fun x_3 =>
  rec (zG (yA+(1:Int))) (nT .u64 u_1 (7:Int)) (((zL).set ((yA).toNat) (p8 (vT .u64 u_1 (127:Int)))).set ((zG ((zG (yA+(1:Int))) - (1:Int))).toNat) (ior .u8 x_2 (128:Int))))
def uW (F:Nat):Nat→Int→Int→(List Int)→Option (Int×(List Int))
  | 0,_,_,_=>none
  | n+1,yA,u_1,zL=>vV F (uW F n) yA u_1 zL
def x9 (F:Nat) (b_1:List (Int)) (n_1:Int):Option (List (Int)) :=
  (zAf n_1).bind fun r_1 =>
  (uW F F (0:Int) r_1 (List.replicate 10 (0:Int))).bind fun (o_1:(Int×(List Int))) =>
  (need ((0:Int)≤o_1.1∧o_1.1≤((10:Nat):Int)∧10≤(o_1.2).length)).bind fun _=>(need (0≤((o_1.1).toNat)∧((o_1.1).toNat)≤(o_1.2).length)).bind fun _=>(need (((sub b_1 (0:Int) (((b_1).length:Nat):Int)).length+(((o_1.2).take ((o_1.1).toNat)).drop 0).length) * 1≤140737488355328)).bind fun _=>(need (0<(((o_1.2).take ((o_1.1).toNat)).drop 0).length∨(sub b_1 (0:Int) (((b_1).length:Nat):Int)).length=0)).bind fun _ =>
  some ((sub b_1 (0:Int) (((b_1).length:Nat):Int))++(((o_1.2).take ((o_1.1).toNat)).drop 0))
def xN (F:Nat) (s_1:List (List Int)) (a_1:List Int) (rec:Int→Option (Unit⊕Int)) (v_1:Int):Option (Unit⊕Int) :=
  (bif decide (v_1<(((s_1).length:Nat):Int)) then (xQ s_1 v_1).bind fun x_1 =>
  (bif (a_1==x_1) then some (.inr v_1) else
  rec (zG (v_1+(1:Int)))) else
  some (.inl ()))
def vF (F:Nat) (s_1:List (List Int)) (a_1:List Int):Nat→Int→Option (Unit⊕Int)
  | 0,_=>none
  | n+1,v_1=>xN F s_1 a_1 (vF F s_1 a_1 n) v_1
def v5 (F:Nat) (s_1:List (List Int)) (a_1:List Int):Option Int :=
  (vF F s_1 a_1 F (0:Int)).bind fun (o_1:Unit⊕Int) =>
  (match o_1 with
  | (.inl q_1) =>
  some (-1:Int)
  | (.inr q_2) =>
  some q_2)
def tB (s_1:List (List Int)):Option (List (List Int)) :=
  (need (((([]:List (List Int))).length+(s_1).length) * 16≤140737488355328)).bind fun _ =>
  some ([]++s_1)
def zAp (F:Nat) (zI:List (List Int)) (s_1:List Int):Option (Int×(List (List Int))×Int) :=
  (qU F s_1).bind fun r_1 =>
  (bif (r_1 != (0:Int)) then some ((0:Int),zI,r_1) else
  (v5 F zI s_1).bind fun r_2 =>
  (bif decide (r_2≥(0:Int)) then some (r_2,zI,(0:Int)) else
  (bif decide ((((zI).length:Nat):Int)≥(1000:Int)) then some ((0:Int),zI,(6:Int)) else
  (tB zI).bind fun r_3=>(need (((r_3).length+(([s_1]:List (List Int))).length) * 16≤140737488355328)).bind fun _ =>
  some ((((zI).length:Nat):Int),(r_3++([s_1]:List (List Int))),(0:Int)))))
def tT (s_1:List (zJ)):Option (List (zJ)) :=
  (need (((([]:List zJ)).length+(s_1).length) * 16≤140737488355328)).bind fun _ =>
  some ([]++s_1)
def xV (F:Nat) (s_1:List (zJ)) (a_1:zJ) (rec:Int→Option (Unit⊕Int)) (v_1:Int):Option (Unit⊕Int) :=
  (bif decide (v_1<(((s_1).length:Nat):Int)) then (xQ s_1 v_1).bind fun x_1 =>
  (bif (decide (a_1=x_1)) then some (.inr v_1) else
  rec (zG (v_1+(1:Int)))) else
  some (.inl ()))
def vQ (F:Nat) (s_1:List (zJ)) (a_1:zJ):Nat→Int→Option (Unit⊕Int)
  | 0,_=>none
  | n+1,v_1=>xV F s_1 a_1 (vQ F s_1 a_1 n) v_1
def uG (F:Nat) (s_1:List (zJ)) (a_1:zJ):Option Int :=
  (vQ F s_1 a_1 F (0:Int)).bind fun (o_1:Unit⊕Int) =>
  (match o_1 with
  | (.inl q_1) =>
  some (-1:Int)
  | (.inr q_2) =>
  some q_2)
def uO (F:Nat) (zI:List (List Int)) (zH:List (zJ)) (l_1:List (List Int)) (rec:Int→(List (List Int))→Int→(List zJ)→Option ((Int×(List (List Int))×(List zJ))⊕(Int×(List (List Int))×(List (zJ))×Int))) (yP:Int) (n_1:List (List Int)) (v_1:Int) (zL:List zJ):Option ((Int×(List (List Int))×(List zJ))⊕(Int×(List (List Int))×(List (zJ))×Int)) :=
  (bif decide (v_1<(((l_1).length:Nat):Int)) then (xQ l_1 v_1).bind fun x_1 =>
  (zAp F n_1 x_1).bind fun r_3 =>
  (bif (r_3.2.2 != (0:Int)) then some (.inr ((0:Int),zI,zH,r_3.2.2)) else
  (uG F zL (⟨yP,r_3.1⟩:zJ)).bind fun r_4 =>
  (bif decide (r_4≥(0:Int)) then rec r_4 r_3.2.1 (zG (v_1+(1:Int))) zL else
  (bif decide ((((zL).length:Nat):Int)≥(1000:Int)) then some (.inr ((0:Int),zI,zH,(6:Int))) else
  (need (((zL).length+(([(⟨yP,r_3.1⟩:zJ)]:List zJ)).length) * 16≤140737488355328)).bind fun _ =>
  rec (((zL).length:Nat):Int) r_3.2.1 (zG (v_1+(1:Int))) (zL++([(⟨yP,r_3.1⟩:zJ)]:List zJ))))) else
  some (.inl (yP,n_1,zL)))
def tE (F:Nat) (zI:List (List Int)) (zH:List (zJ)) (l_1:List (List Int)):Nat→Int→(List (List Int))→Int→(List zJ)→Option ((Int×(List (List Int))×(List zJ))⊕(Int×(List (List Int))×(List (zJ))×Int))
  | 0,_,_,_,_=>none
  | n+1,yP,n_1,v_1,zL=>uO F zI zH l_1 (tE F zI zH l_1 n) yP n_1 v_1 zL
def jD (F:Nat) (zI:List (List Int)) (zH:List (zJ)) (l_1:List (List Int)):Option (Int×(List (List Int))×(List (zJ))×Int) :=
  (kG F l_1).bind fun r_1 =>
  (bif (r_1 != (0:Int)) then some ((0:Int),zI,zH,r_1) else
  (tT zH).bind fun r_2 =>
  (tE F zI zH l_1 F (-1:Int) zI (0:Int) r_2).bind fun (o_1:(Int×(List (List Int))×(List zJ))⊕(Int×(List (List Int))×(List (zJ))×Int)) =>
  (match o_1 with
  | (.inl q_1) =>
  some (q_1.1,q_1.2.1,q_1.2.2,(0:Int))
  | (.inr q_2) =>
  some q_2))
def nI (F:Nat) (zI:List (List Int)) (zH:List (zJ)) (e_1:zE):Option ((List (Int))×(List (List Int))×(List (zJ))×Int) :=
  (q7 F zI zH).bind fun r_1 =>
  (bif (r_1 != (0:Int)) then some ([],[],[],(1:Int)) else
  (jU F e_1).bind fun r_2 =>
  (bif (r_2 != (0:Int)) then some ([],[],[],r_2) else
  (zAH e_1.Kind).bind fun r_3 =>
  (x9 F [] e_1.Kind).bind fun r_4=>(x9 F r_4 e_1.At).bind fun r_5 =>
  (((bif r_3.1 then (zAp F zI e_1.Name).bind fun r_6 =>
  (bif (r_6.2.2 != (0:Int)) then some (.inr ([],[],[],r_6.2.2)) else
  (x9 F r_5 r_6.1).bind fun r_7 =>
  some (.inl (r_6.2.1,r_7))) else
  some (.inl (zI,r_5))):Option (((List (List Int))×(List Int))⊕((List (Int))×(List (List Int))×(List (zJ))×Int)))).bind fun (o_1:((List (List Int))×(List Int))⊕((List (Int))×(List (List Int))×(List (zJ))×Int)) =>
  (match o_1 with
  | (.inl q_1) =>
  (((bif r_3.2.1 then (x9 F q_1.2 e_1.N).bind fun r_8 =>
  some r_8 else
  some q_1.2):Option (List Int))).bind fun (o_2:(List Int)) =>
  (((bif r_3.2.2.1 then (x9 F o_2 e_1.M).bind fun r_9 =>
  some r_9 else
  some o_2):Option (List Int))).bind fun (o_3:(List Int)) =>
  (((bif r_3.2.2.2 then (jD F q_1.1 zH e_1.Stack).bind fun yQ =>
  (bif (yQ.2.2.2 != (0:Int)) then some (.inr ([],[],[],yQ.2.2.2)) else
  (x9 F o_3 yQ.1).bind fun y1 =>
  some (.inl (yQ.2.1,yQ.2.2.1,y1))) else
  some (.inl (q_1.1,zH,o_3))):Option (((List (List Int))×(List zJ)×(List Int))⊕((List (Int))×(List (List Int))×(List (zJ))×Int)))).bind fun (o_4:((List (List Int))×(List zJ)×(List Int))⊕((List (Int))×(List (List Int))×(List (zJ))×Int)) =>
  (match o_4 with
  | (.inl q_3) =>
  some (q_3.2.2,q_3.1,q_3.2.1,(0:Int))
  | (.inr q_4) =>
  some q_4)
  | (.inr q_2) =>
  some q_2)))
def u6 (s_1:List (Int)):Option (List (Int)) :=
  (need (((([]:List Int)).length+(s_1).length) * 1≤140737488355328)).bind fun _ =>
  some ([]++s_1)
def tD (F:Nat) (b_1:List (Int)) (r_2:(List (List (Int)))×Int) (r_3:(List (Int))) (rec:Int→Int→Int→Option (Int×Int)) (jR:Int) (xG:Int) (c_1:Int):Option (Int×Int) :=
  (bif decide (((((r_3++b_1)).length:Nat):Int)>jR) then (xQ r_2.1 xG).bind fun x_1=>(x9 F [] (((x_1).length:Nat):Int)).bind fun r_4=>(xQ r_2.1 xG).bind fun x_2 =>
  rec (zG (jR+(zG ((((r_4).length:Nat):Int)+(((x_2).length:Nat):Int))))) (zG (xG+(1:Int))) (zG (c_1+(zG ((((r_4).length:Nat):Int)+(((x_2).length:Nat):Int))))) else
  some (xG,c_1))
def nP (F:Nat) (b_1:List (Int)) (r_2:(List (List (Int)))×Int) (r_3:(List (Int))):Nat→Int→Int→Int→Option (Int×Int)
  | 0,_,_,_=>none
  | n+1,jR,xG,c_1=>tD F b_1 r_2 r_3 (nP F b_1 r_2 r_3 n) jR xG c_1
def zCI (F:Nat) (r_1:zB) (b_1:List (Int)):Option (zB×Int×Int) :=
  (zAd F r_1).bind fun r_2 =>
  (bif (r_2.2 != (0:Int)) then some (r_1,(0:Int),r_2.2) else
  (x9 F [] (((b_1).length:Nat):Int)).bind fun r_3=>(need (((r_3).length+(b_1).length) * 1≤140737488355328)).bind fun _ =>
  (bif (decide ((((b_1).length:Nat):Int)>(2000:Int))||decide (((((r_3++b_1)).length:Nat):Int)>(((r_1.Data).length:Nat):Int))) then some (r_1,(0:Int),(7:Int)) else
  (bif ((r_1.Policy==(2:Int))&&decide (((((r_3++b_1)).length:Nat):Int)>(zG ((((r_1.Data).length:Nat):Int) - (zG (r_1.End - r_1.Start)))))) then some (r_1,(0:Int),(6:Int)) else
  (bif (decide ((zG (r_1.End+((((r_3++b_1)).length:Nat):Int)))>(1000000000000000:Int))||decide (r_1.Next≥(1000000000000000:Int))) then some (r_1,(0:Int),(2:Int)) else
  (nP F b_1 r_2 r_3 F (zG ((((r_1.Data).length:Nat):Int) - (zG (r_1.End - r_1.Start)))) (0:Int) r_1.Start).bind fun (o_1:(Int×Int)) =>
  (u6 r_1.Data).bind fun r_5 =>
  (need ((((r_5).length:Nat):Int)≠(0:Int))).bind fun _=>(need ((0:Int)≤(yH r_1.End (((r_5).length:Nat):Int))∧(yH r_1.End (((r_5).length:Nat):Int))≤(((r_5).length:Nat):Int))).bind fun _=>(need (((yH r_1.End (((r_5).length:Nat):Int)).toNat)≤((r_5).length)∧((r_5).length)≤(r_5).length)).bind fun _ =>
  (need ((((min ((r_3++b_1)).length ((r_5).length - (yH r_1.End (((r_5).length:Nat):Int)).toNat)):Nat):Int)≤((((r_3++b_1)).length:Nat):Int))).bind fun _=>(need ((min ((r_3++b_1)).length ((r_5).length - (yH r_1.End (((r_5).length:Nat):Int)).toNat))≤(((r_3++b_1)).length)∧(((r_3++b_1)).length)≤((r_3++b_1)).length)).bind fun _=>(need (0≤((r_5).length)∧((r_5).length)≤((cpy r_5 ((yH r_1.End (((r_5).length:Nat):Int)).toNat) ((r_5).length) (r_3++b_1))).length)).bind fun _ =>
  some ((⟨r_1.Policy,(cpy (cpy r_5 ((yH r_1.End (((r_5).length:Nat):Int)).toNat) ((r_5).length) (r_3++b_1)) 0 ((r_5).length) ((((r_3++b_1)).take (((r_3++b_1)).length)).drop (min ((r_3++b_1)).length ((r_5).length - (yH r_1.End (((r_5).length:Nat):Int)).toNat)))),o_1.2,zG (r_1.End+((((r_3++b_1)).length:Nat):Int)),zG (r_1.First+o_1.1),zG (r_1.Next+(1:Int))⟩:zB),o_1.1,(0:Int))))))
def vN (F:Nat) (p_1:zA) (e_1:zE):Option (zA×Int) :=
  (qN F p_1).bind fun r_1 =>
  (bif (r_1 != (0:Int)) then some ((⟨(⟨(0:Int),([]:List Int),(0:Int)⟩:zC),[],[],(⟨(0:Int),[],(0:Int),(0:Int),(0:Int),(0:Int)⟩:zB),(0:Int),(0:Int)⟩:zA),r_1) else
  (jU F e_1).bind fun r_2 =>
  (bif (r_2 != (0:Int)) then some ((⟨(⟨(0:Int),([]:List Int),(0:Int)⟩:zC),[],[],(⟨(0:Int),[],(0:Int),(0:Int),(0:Int),(0:Int)⟩:zB),(0:Int),(0:Int)⟩:zA),r_2) else
  (bif decide (e_1.At<p_1.Last) then some ((⟨(⟨(0:Int),([]:List Int),(0:Int)⟩:zC),[],[],(⟨(0:Int),[],(0:Int),(0:Int),(0:Int),(0:Int)⟩:zB),(0:Int),(0:Int)⟩:zA),(11:Int)) else
  (nI F p_1.Names p_1.Stacks e_1).bind fun r_3 =>
  (bif (r_3.2.2.2 != (0:Int)) then some ((⟨(⟨(0:Int),([]:List Int),(0:Int)⟩:zC),[],[],(⟨(0:Int),[],(0:Int),(0:Int),(0:Int),(0:Int)⟩:zB),(0:Int),(0:Int)⟩:zA),r_3.2.2.2) else
  (zCI F p_1.Ring r_3.1).bind fun r_4 =>
  (bif (r_4.2.2 != (0:Int)) then some ((⟨(⟨(0:Int),([]:List Int),(0:Int)⟩:zC),[],[],(⟨(0:Int),[],(0:Int),(0:Int),(0:Int),(0:Int)⟩:zB),(0:Int),(0:Int)⟩:zA),r_4.2.2) else
  some ((⟨p_1.Thread,r_3.2.1,r_3.2.2.1,r_4.1,e_1.At,p_1.Sent⟩:zA),(0:Int)))))))
structure yJ where
  Thread:Int
  Serial:Int
  Lost:Int
  Events:List (zE)
  deriving DecidableEq,Inhabited
def zGT (s:yJ):List AV:=[.int .i64 s.Thread,.int .i64 s.Serial,.int .i64 s.Lost,.sl false 6 (List.map zN s.Events)]
def zO (s:yJ):AV:=.agg (zGT s)
def vD (F:Nat) (p_1:zA) (rec:(List zE)→Int→Int→(List yJ)→Option (List yJ)) (l_1:List zE) (wI:Int) (xG:Int) (zL:List yJ):Option (List yJ) :=
  (bif decide ((((l_1).length:Nat):Int)>(0:Int)) then (need ((0:Int)≤(vZ (((l_1).length:Nat):Int) (1000:Int))∧(vZ (((l_1).length:Nat):Int) (1000:Int))≤(((l_1).length:Nat):Int))).bind fun _=>(need (((zL).length+(([(⟨p_1.Thread.Id,wI,xG,sub l_1 (0:Int) (vZ (((l_1).length:Nat):Int) (1000:Int))⟩:yJ)]:List yJ)).length) * 48≤140737488355328)).bind fun _ =>
  (need ((0:Int)≤(vZ (((l_1).length:Nat):Int) (1000:Int))∧(vZ (((l_1).length:Nat):Int) (1000:Int))≤(((l_1).length:Nat):Int))).bind fun _ =>
  rec (sub l_1 (vZ (((l_1).length:Nat):Int) (1000:Int)) (((l_1).length:Nat):Int)) (zG (wI+(vZ (((l_1).length:Nat):Int) (1000:Int)))) (0:Int) (zL++([(⟨p_1.Thread.Id,wI,xG,sub l_1 (0:Int) (vZ (((l_1).length:Nat):Int) (1000:Int))⟩:yJ)]:List yJ)) else
  some zL)
def uS (F:Nat) (p_1:zA):Nat→(List zE)→Int→Int→(List yJ)→Option (List yJ)
  | 0,_,_,_,_=>none
  | n+1,l_1,wI,xG,zL=>vD F p_1 (uS F p_1 n) l_1 wI xG zL
def uL (F:Nat) (p_1:zA):Option ((List (yJ))×zA) :=
  (qP F p_1).bind fun r_1 =>
  (bif (r_1.2 != (0:Int)) then some ([],p_1) else
  (uS F p_1 F r_1.1 p_1.Ring.First (zG (p_1.Ring.First - p_1.Sent)) []).bind fun (o_1:(List yJ)) =>
  (zAW F p_1.Ring).bind fun r_2 =>
  some (o_1,(⟨p_1.Thread,p_1.Names,p_1.Stacks,r_2.2,p_1.Last,r_2.2.Next⟩:zA)))
def kF (F:Nat) (p_1:zA):Option Int :=
  (qN F p_1).bind fun r_1 =>
  (bif (r_1 != (0:Int)) then some (0:Int) else
  some (zG (p_1.Ring.First - p_1.Sent)))
def zAz (F:Nat) (rec:Int→Int→(List Int)→Int→(List (List Int))→(List zJ)→Int→(List Int)→Int→Int→Int→Int→Int→Int→Int→(List Int)→Int→(List (List Int))→(List zJ)→Int→(List Int)→Int→Int→Int→Int→Int→Int→Option ((Int×(List Int)×Int×(List (List Int))×(List zJ)×Int×(List Int)×Int×Int×Int×Int×Int×Int×Int×(List Int)×Int×(List (List Int))×(List zJ)×Int×(List Int)×Int×Int×Int×Int×Int×Int)⊕Bool)) (yP:Int) (c_1:Int) (c_2:List Int) (c_3:Int) (c_4:List (List Int)) (c_5:List zJ) (c_6:Int) (c_7:List Int) (c_8:Int) (c_9:Int) (xY:Int) (xZ:Int) (x3:Int) (x4:Int) (t5:Int) (t6:List Int) (t7:Int) (t8:List (List Int)) (t9:List zJ) (qA:Int) (qB:List Int) (qC:Int) (qD:Int) (qE:Int) (qF:Int) (qG:Int) (qH:Int):Option ((Int×(List Int)×Int×(List (List Int))×(List zJ)×Int×(List Int)×Int×Int×Int×Int×Int×Int×Int×(List Int)×Int×(List (List Int))×(List zJ)×Int×(List Int)×Int×Int×Int×Int×Int×Int)⊕Bool) :=
  (bif decide (yP≤(4:Int)) then (zBt yP).bind fun r_3=>(vN F (⟨(⟨c_1,c_2,c_3⟩:zC),c_4,c_5,(⟨c_6,c_7,c_8,c_9,xY,xZ⟩:zB),x3,x4⟩:zA) r_3).bind fun r_4 =>
  (zBt yP).bind fun r_5=>(vN F (⟨(⟨t5,t6,t7⟩:zC),t8,t9,(⟨qA,qB,qC,qD,qE,qF⟩:zB),qG,qH⟩:zA) r_5).bind fun r_6 =>
  (bif ((r_4.2 != (0:Int))||(r_6.2 != (0:Int))) then some (.inr false) else
  rec (zG (yP+(1:Int))) r_4.1.Thread.Id r_4.1.Thread.Name r_4.1.Thread.Domain r_4.1.Names r_4.1.Stacks r_4.1.Ring.Policy r_4.1.Ring.Data r_4.1.Ring.Start r_4.1.Ring.End r_4.1.Ring.First r_4.1.Ring.Next r_4.1.Last r_4.1.Sent r_6.1.Thread.Id r_6.1.Thread.Name r_6.1.Thread.Domain r_6.1.Names r_6.1.Stacks r_6.1.Ring.Policy r_6.1.Ring.Data r_6.1.Ring.Start r_6.1.Ring.End r_6.1.Ring.First r_6.1.Ring.Next r_6.1.Last r_6.1.Sent) else
  some (.inl (c_1,c_2,c_3,c_4,c_5,c_6,c_7,c_8,c_9,xY,xZ,x3,x4,t5,t6,t7,t8,t9,qA,qB,qC,qD,qE,qF,qG,qH)))
def zBa (F:Nat):Nat→Int→Int→(List Int)→Int→(List (List Int))→(List zJ)→Int→(List Int)→Int→Int→Int→Int→Int→Int→Int→(List Int)→Int→(List (List Int))→(List zJ)→Int→(List Int)→Int→Int→Int→Int→Int→Int→Option ((Int×(List Int)×Int×(List (List Int))×(List zJ)×Int×(List Int)×Int×Int×Int×Int×Int×Int×Int×(List Int)×Int×(List (List Int))×(List zJ)×Int×(List Int)×Int×Int×Int×Int×Int×Int)⊕Bool)
  | 0,_,_,_,_,_,_,_,_,_,_,_,_,_,_,_,_,_,_,_,_,_,_,_,_,_,_,_=>none
  | n+1,yP,c_1,c_2,c_3,c_4,c_5,c_6,c_7,c_8,c_9,xY,xZ,x3,x4,t5,t6,t7,t8,t9,qA,qB,qC,qD,qE,qF,qG,qH=>zAz F (zBa F n) yP c_1 c_2 c_3 c_4 c_5 c_6 c_7 c_8 c_9 xY xZ x3 x4 t5 t6 t7 t8 t9 qA qB qC qD qE qF qG qH
def zBZ (F:Nat):Option Bool :=
  (qY F (⟨(3:Int),([109,97,105,110]:List Int),(0:Int)⟩:zC) (16:Int) (1:Int)).bind fun r_1 =>
  (qY F (⟨(3:Int),([109,97,105,110]:List Int),(0:Int)⟩:zC) (16:Int) (2:Int)).bind fun r_2 =>
  (bif ((r_1.2 != (0:Int))||(r_2.2 != (0:Int))) then some false else
  (zBa F F (1:Int) r_1.1.Thread.Id r_1.1.Thread.Name r_1.1.Thread.Domain r_1.1.Names r_1.1.Stacks r_1.1.Ring.Policy r_1.1.Ring.Data r_1.1.Ring.Start r_1.1.Ring.End r_1.1.Ring.First r_1.1.Ring.Next r_1.1.Last r_1.1.Sent r_2.1.Thread.Id r_2.1.Thread.Name r_2.1.Thread.Domain r_2.1.Names r_2.1.Stacks r_2.1.Ring.Policy r_2.1.Ring.Data r_2.1.Ring.Start r_2.1.Ring.End r_2.1.Ring.First r_2.1.Ring.Next r_2.1.Last r_2.1.Sent).bind fun (o_1:(Int×(List Int)×Int×(List (List Int))×(List zJ)×Int×(List Int)×Int×Int×Int×Int×Int×Int×Int×(List Int)×Int×(List (List Int))×(List zJ)×Int×(List Int)×Int×Int×Int×Int×Int×Int)⊕Bool) =>
  (match o_1 with
  | (.inl q_1) =>
  (zBt (5:Int)).bind fun r_7=>(vN F (⟨(⟨q_1.2.2.2.2.2.2.2.2.2.2.2.2.2.1,q_1.2.2.2.2.2.2.2.2.2.2.2.2.2.2.1,q_1.2.2.2.2.2.2.2.2.2.2.2.2.2.2.2.1⟩:zC),q_1.2.2.2.2.2.2.2.2.2.2.2.2.2.2.2.2.1,q_1.2.2.2.2.2.2.2.2.2.2.2.2.2.2.2.2.2.1,(⟨q_1.2.2.2.2.2.2.2.2.2.2.2.2.2.2.2.2.2.2.1,q_1.2.2.2.2.2.2.2.2.2.2.2.2.2.2.2.2.2.2.2.1,q_1.2.2.2.2.2.2.2.2.2.2.2.2.2.2.2.2.2.2.2.2.1,q_1.2.2.2.2.2.2.2.2.2.2.2.2.2.2.2.2.2.2.2.2.2.1,q_1.2.2.2.2.2.2.2.2.2.2.2.2.2.2.2.2.2.2.2.2.2.2.1,q_1.2.2.2.2.2.2.2.2.2.2.2.2.2.2.2.2.2.2.2.2.2.2.2.1⟩:zB),q_1.2.2.2.2.2.2.2.2.2.2.2.2.2.2.2.2.2.2.2.2.2.2.2.2.1,q_1.2.2.2.2.2.2.2.2.2.2.2.2.2.2.2.2.2.2.2.2.2.2.2.2.2⟩:zA) r_7).bind fun r_8 =>
  (zBt (5:Int)).bind fun r_9=>(vN F (⟨(⟨q_1.1,q_1.2.1,q_1.2.2.1⟩:zC),q_1.2.2.2.1,q_1.2.2.2.2.1,(⟨q_1.2.2.2.2.2.1,q_1.2.2.2.2.2.2.1,q_1.2.2.2.2.2.2.2.1,q_1.2.2.2.2.2.2.2.2.1,q_1.2.2.2.2.2.2.2.2.2.1,q_1.2.2.2.2.2.2.2.2.2.2.1⟩:zB),q_1.2.2.2.2.2.2.2.2.2.2.2.1,q_1.2.2.2.2.2.2.2.2.2.2.2.2.1⟩:zA) r_9).bind fun yQ =>
  (uL F yQ.1).bind fun y1 =>
  (uL F (⟨(⟨q_1.2.2.2.2.2.2.2.2.2.2.2.2.2.1,q_1.2.2.2.2.2.2.2.2.2.2.2.2.2.2.1,q_1.2.2.2.2.2.2.2.2.2.2.2.2.2.2.2.1⟩:zC),q_1.2.2.2.2.2.2.2.2.2.2.2.2.2.2.2.2.1,q_1.2.2.2.2.2.2.2.2.2.2.2.2.2.2.2.2.2.1,(⟨q_1.2.2.2.2.2.2.2.2.2.2.2.2.2.2.2.2.2.2.1,q_1.2.2.2.2.2.2.2.2.2.2.2.2.2.2.2.2.2.2.2.1,q_1.2.2.2.2.2.2.2.2.2.2.2.2.2.2.2.2.2.2.2.2.1,q_1.2.2.2.2.2.2.2.2.2.2.2.2.2.2.2.2.2.2.2.2.2.1,q_1.2.2.2.2.2.2.2.2.2.2.2.2.2.2.2.2.2.2.2.2.2.2.1,q_1.2.2.2.2.2.2.2.2.2.2.2.2.2.2.2.2.2.2.2.2.2.2.2.1⟩:zB),q_1.2.2.2.2.2.2.2.2.2.2.2.2.2.2.2.2.2.2.2.2.2.2.2.2.1,q_1.2.2.2.2.2.2.2.2.2.2.2.2.2.2.2.2.2.2.2.2.2.2.2.2.2⟩:zA)).bind fun wY =>
  ((bif (yQ.2==(0:Int)) then (bif (r_8.2==(6:Int)) then ((kF F yQ.1).bind fun tL=>bif (tL==(1:Int)) then (bif ((((y1.1).length:Nat):Int)==(1:Int)) then ((xQ y1.1 (0:Int)).bind fun x_1=>bif (x_1.Thread==(3:Int)) then ((xQ y1.1 (0:Int)).bind fun x_2=>bif (x_2.Serial==(1:Int)) then ((xQ y1.1 (0:Int)).bind fun x_3=>bif (x_3.Lost==(1:Int)) then ((xQ y1.1 (0:Int)).bind fun x_4=>bif ((((x_4.Events).length:Nat):Int)==(4:Int)) then (bif ((((wY.1).length:Nat):Int)==(1:Int)) then ((xQ wY.1 (0:Int)).bind fun x_5=>bif (x_5.Serial==(0:Int)) then ((xQ wY.1 (0:Int)).bind fun x_6=>some ((((x_6.Events).length:Nat):Int)==(4:Int))) else (some false)) else (some false)) else (some false)) else (some false)) else (some false)) else (some false)) else (some false)) else (some false)) else (some false)) else (some false))).bind fun (p_1:Bool) =>
  some p_1
  | (.inr q_2) =>
  some q_2))
def vM (F:Nat) (a_1:List (List Int)) (b_1:List (List Int)) (rec:Int→Option (Unit⊕Bool)) (i_1:Int):Option (Unit⊕Bool) :=
  (bif decide (i_1<(((a_1).length:Nat):Int)) then (xQ a_1 i_1).bind fun x_1=>(xQ b_1 i_1).bind fun x_2 =>
  (bif !(x_1==x_2) then some (.inr false) else
  rec (zG (i_1+(1:Int)))) else
  some (.inl ()))
def jZ (F:Nat) (a_1:List (List Int)) (b_1:List (List Int)):Nat→Int→Option (Unit⊕Bool)
  | 0,_=>none
  | n+1,i_1=>vM F a_1 b_1 (jZ F a_1 b_1 n) i_1
def nD (F:Nat) (a_1:List (List Int)) (b_1:List (List Int)):Option Bool :=
  (bif ((((a_1).length:Nat):Int) != (((b_1).length:Nat):Int)) then some false else
  (jZ F a_1 b_1 F (0:Int)).bind fun (o_1:Unit⊕Bool) =>
  (match o_1 with
  | (.inl q_1) =>
  some true
  | (.inr q_2) =>
  some q_2))
def vC (F:Nat) (a_1:List (zJ)) (b_1:List (zJ)) (rec:Int→Option (Unit⊕Bool)) (i_1:Int):Option (Unit⊕Bool) :=
  (bif decide (i_1<(((a_1).length:Nat):Int)) then (xQ a_1 i_1).bind fun x_1=>(xQ b_1 i_1).bind fun x_2 =>
  (bif (!(decide (x_1=x_2))) then some (.inr false) else
  rec (zG (i_1+(1:Int)))) else
  some (.inl ()))
def jL (F:Nat) (a_1:List (zJ)) (b_1:List (zJ)):Nat→Int→Option (Unit⊕Bool)
  | 0,_=>none
  | n+1,i_1=>vC F a_1 b_1 (jL F a_1 b_1 n) i_1
def pD (F:Nat) (a_1:List (zJ)) (b_1:List (zJ)):Option Bool :=
  (bif ((((a_1).length:Nat):Int) != (((b_1).length:Nat):Int)) then some false else
  (jL F a_1 b_1 F (0:Int)).bind fun (o_1:Unit⊕Bool) =>
  (match o_1 with
  | (.inl q_1) =>
  some true
  | (.inr q_2) =>
  some q_2))
def tN (F:Nat) (r_1:zB) (rec:Int→(List Int)→Option (List Int)) (p_1:Int) (zL:List Int):Option (List Int) :=
  (bif decide (p_1<r_1.End) then (need ((((r_1.Data).length:Nat):Int)≠(0:Int))).bind fun _=>(xQ r_1.Data (yH p_1 (((r_1.Data).length:Nat):Int))).bind fun x_1=>(need (((zL).length+(([x_1]:List Int)).length) * 1≤140737488355328)).bind fun _ =>
  rec (zG (p_1+(1:Int))) (zL++([x_1]:List Int)) else
  some zL)
def jI (F:Nat) (r_1:zB):Nat→Int→(List Int)→Option (List Int)
  | 0,_,_=>none
  | n+1,p_1,zL=>tN F r_1 (jI F r_1 n) p_1 zL
def pC (F:Nat) (r_1:zB):Option (List (Int)) :=
  (jI F r_1 F r_1.Start []).bind fun (o_1:(List Int)) =>
  some o_1
def zAE (u_1:Int):Option Int :=
  (bif ((yH u_1 (2:Int))==(1:Int)) then some (zG ((zG (0 - (zG (zDW .u64 u_1 (2:Int))))) - (1:Int))) else
  some (zG (zDW .u64 u_1 (2:Int))))
def kO (F:Nat) (b_1:List (Int)) (rec:Int→Int→Int→Option (Unit⊕(Int×Int×Int))) (u_1:Int) (wB:Int) (i_1:Int):Option (Unit⊕(Int×Int×Int)) :=
  (bif decide (i_1<(10:Int)) then (bif decide (i_1≥(((b_1).length:Nat):Int)) then some (.inr ((0:Int),(0:Int),(8:Int))) else
  (xQ b_1 i_1).bind fun x_1 =>
  (bif ((i_1==(9:Int))&&decide ((yG x_1)>(1:Int))) then some (.inr ((0:Int),(0:Int),(10:Int))) else
  (bif (decide ((yG x_1)<(128:Int))&&(((yG x_1)==(0:Int))&&decide (i_1>(0:Int)))) then some (.inr ((0:Int),(0:Int),(10:Int))) else
  (bif decide ((yG x_1)<(128:Int)) then (zAE (yG (u_1+(yG ((yH (yG x_1) (128:Int)) * wB))))).bind fun r_1 =>
  some (.inr (r_1,zG (i_1+(1:Int)),(0:Int))) else
  rec (yG (u_1+(yG ((yH (yG x_1) (128:Int)) * wB)))) (yG (wB * (128:Int))) (zG (i_1+(1:Int))))))) else
  some (.inl ()))
def pY (F:Nat) (b_1:List (Int)):Nat→Int→Int→Int→Option (Unit⊕(Int×Int×Int))
  | 0,_,_,_=>none
  | n+1,u_1,wB,i_1=>kO F b_1 (pY F b_1 n) u_1 wB i_1
def zDb (F:Nat) (b_1:List (Int)):Option (Int×Int×Int) :=
  (pY F b_1 F (0:Int) (1:Int) (0:Int)).bind fun (o_1:Unit⊕(Int×Int×Int)) =>
  (match o_1 with
  | (.inl q_1) =>
  some ((0:Int),(0:Int),(10:Int))
  | (.inr q_2) =>
  some q_2)
def qK (F:Nat) (rec:(List Int)→(List (List (Int)))→Option ((List (List (Int)))⊕((List (List (Int)))×Bool))) (b_2:List Int) (zL:List (List (Int))):Option ((List (List (Int)))⊕((List (List (Int)))×Bool)) :=
  (bif decide ((((b_2).length:Nat):Int)>(0:Int)) then (zDb F b_2).bind fun r_1 =>
  (bif ((r_1.2.2 != (0:Int))||(decide (r_1.1<(0:Int))||(decide (r_1.1>(2000:Int))||decide (r_1.1>(zG ((((b_2).length:Nat):Int) - r_1.2.1)))))) then some (.inr ([],false)) else
  (need ((0:Int)≤r_1.2.1∧r_1.2.1≤(zG (r_1.2.1+r_1.1))∧(zG (r_1.2.1+r_1.1))≤(((b_2).length:Nat):Int))).bind fun _=>(need (((zL).length+(([sub b_2 r_1.2.1 (zG (r_1.2.1+r_1.1))]:List (List (Int)))).length) * 24≤140737488355328)).bind fun _ =>
  (need ((0:Int)≤(zG (r_1.2.1+r_1.1))∧(zG (r_1.2.1+r_1.1))≤(((b_2).length:Nat):Int))).bind fun _ =>
  rec (sub b_2 (zG (r_1.2.1+r_1.1)) (((b_2).length:Nat):Int)) (zL++([sub b_2 r_1.2.1 (zG (r_1.2.1+r_1.1))]:List (List (Int))))) else
  some (.inl zL))
def pE (F:Nat):Nat→(List Int)→(List (List (Int)))→Option ((List (List (Int)))⊕((List (List (Int)))×Bool))
  | 0,_,_=>none
  | n+1,b_2,zL=>qK F (pE F n) b_2 zL
def nN (F:Nat) (b_1:List (Int)):Option ((List (List (Int)))×Bool) :=
  (pE F F b_1 []).bind fun (o_1:(List (List (Int)))⊕((List (List (Int)))×Bool)) =>
  (match o_1 with
  | (.inl q_1) =>
  some (q_1,true)
  | (.inr q_2) =>
  some q_2)
def zBT (F:Nat) (r_1:zB):Option Int :=
  (bif ((r_1.Policy != (1:Int))&&(r_1.Policy != (2:Int))) then some (1:Int) else
  (bif (decide ((((r_1.Data).length:Nat):Int)<(16:Int))||(decide ((((r_1.Data).length:Nat):Int)>(65536:Int))||(decide (r_1.Start<(0:Int))||(decide (r_1.Start>r_1.End)||(decide (r_1.End>(1000000000000000:Int))||(decide ((zG (r_1.End - r_1.Start))>(((r_1.Data).length:Nat):Int))||(decide (r_1.First<(0:Int))||(decide (r_1.First>r_1.Next)||decide (r_1.Next>(1000000000000000:Int)))))))))) then some (2:Int) else
  (pC F r_1).bind fun r_2=>(nN F r_2).bind fun r_3 =>
  (bif (!r_3.2||((((r_3.1).length:Nat):Int) != (zG (r_1.Next - r_1.First)))) then some (10:Int) else
  some (0:Int))))
def zBr (F:Nat) (r_1:zB):Option ((List (List (Int)))×zB) :=
  (zBT F r_1).bind fun r_2 =>
  (bif (r_2 != (0:Int)) then some ([],r_1) else
  (pC F r_1).bind fun r_3=>(nN F r_3).bind fun r_4 =>
  some (r_4.1,(⟨r_1.Policy,r_1.Data,r_1.End,r_1.End,r_1.Next,r_1.Next⟩:zB)))
def tC (F:Nat) (r_3:(List (List (Int)))×zB) (r_4:(List (List (Int)))×zB) (rec:Int→Option (Unit⊕Bool)) (i_1:Int):Option (Unit⊕Bool) :=
  (bif decide (i_1<(((r_3.1).length:Nat):Int)) then (xQ r_3.1 i_1).bind fun x_1=>(xQ r_4.1 i_1).bind fun x_2 =>
  (bif !(x_1==x_2) then some (.inr false) else
  rec (zG (i_1+(1:Int)))) else
  some (.inl ()))
def zAG (F:Nat) (r_3:(List (List (Int)))×zB) (r_4:(List (List (Int)))×zB):Nat→Int→Option (Unit⊕Bool)
  | 0,_=>none
  | n+1,i_1=>tC F r_3 r_4 (zAG F r_3 r_4 n) i_1
def zCu (F:Nat) (a_1:zA) (b_1:zA):Option Bool :=
  ((bif (!(decide (a_1.Thread=b_1.Thread))) then (some true) else ((nD F a_1.Names b_1.Names).bind fun r_1=>bif !r_1 then (some true) else ((pD F a_1.Stacks b_1.Stacks).bind fun r_2=>bif !r_2 then (some true) else (bif (a_1.Last != b_1.Last) then (some true) else (some (a_1.Sent != b_1.Sent))))))).bind fun (p_1:Bool) =>
  (bif p_1 then some false else
  (bif ((a_1.Ring.Policy != b_1.Ring.Policy)||(((((a_1.Ring.Data).length:Nat):Int) != (((b_1.Ring.Data).length:Nat):Int))||((a_1.Ring.Start != b_1.Ring.Start)||((a_1.Ring.End != b_1.Ring.End)||((a_1.Ring.First != b_1.Ring.First)||(a_1.Ring.Next != b_1.Ring.Next)))))) then some false else
  (zBr F a_1.Ring).bind fun r_3 =>
  (zBr F b_1.Ring).bind fun r_4 =>
  (bif ((((r_3.1).length:Nat):Int) != (((r_4.1).length:Nat):Int)) then some false else
  (zAG F r_3 r_4 F (0:Int)).bind fun (o_1:Unit⊕Bool) =>
  (match o_1 with
  | (.inl q_1) =>
  some true
  | (.inr q_2) =>
  some q_2))))
structure y3 where
  Drain:Bool
  E:zE
  deriving DecidableEq,Inhabited
def zDp (s:y3):List AV:=[.bool s.Drain,.int .i64 s.E.At,.int .i64 s.E.Kind,.str s.E.Name,.int .i64 s.E.N,.int .i64 s.E.M,.sl false 1 (List.map AV.str s.E.Stack)]
def z0 (s:y3):AV:=.agg (zDp s)
def uR (F:Nat) (e_1:zE) (rec:Int→Option (Unit⊕Bool)) (i_1:Int):Option (Unit⊕Bool) :=
  (bif decide (i_1<(((e_1.Stack).length:Nat):Int)) then (xQ e_1.Stack i_1).bind fun x_1 =>
  (bif decide ((((x_1).length:Nat):Int)>(200:Int)) then some (.inr false) else
  rec (zG (i_1+(1:Int)))) else
  some (.inl ()))
def j2 (F:Nat) (e_1:zE):Nat→Int→Option (Unit⊕Bool)
  | 0,_=>none
  | n+1,i_1=>uR F e_1 (j2 F e_1 n) i_1
def zB2 (F:Nat) (e_1:zE):Option Bool :=
  (bif (decide ((((e_1.Name).length:Nat):Int)>(200:Int))||decide ((((e_1.Stack).length:Nat):Int)>(60:Int))) then some false else
  (j2 F e_1 F (0:Int)).bind fun (o_1:Unit⊕Bool) =>
  (match o_1 with
  | (.inl q_1) =>
  some true
  | (.inr q_2) =>
  some q_2))
def kQ (F:Nat) (y2:List (y3)) (rec:Int→Option (Unit⊕Bool)) (i_1:Int):Option (Unit⊕Bool) :=
  (bif decide (i_1<(((y2).length:Nat):Int)) then (xQ y2 i_1).bind fun x_1=>(zB2 F x_1.E).bind fun r_1 =>
  (bif !r_1 then some (.inr false) else
  rec (zG (i_1+(1:Int)))) else
  some (.inl ()))
def zAk (F:Nat) (y2:List (y3)):Nat→Int→Option (Unit⊕Bool)
  | 0,_=>none
  | n+1,i_1=>kQ F y2 (zAk F y2 n) i_1
def zCr (F:Nat) (y2:List (y3)):Option Bool :=
  (bif decide ((((y2).length:Nat):Int)>(40:Int)) then some false else
  (zAk F y2 F (0:Int)).bind fun (o_1:Unit⊕Bool) =>
  (match o_1 with
  | (.inl q_1) =>
  some true
  | (.inr q_2) =>
  some q_2))
def uA (F:Nat) (y2:List (y3)) (rec:Int→Int→(List Int)→Int→(List (List Int))→(List zJ)→Int→(List Int)→Int→Int→Int→Int→Int→Int→Option (Int×(List Int)×Int×(List (List Int))×(List zJ)×Int×(List Int)×Int×Int×Int×Int×Int×Int)) (i_1:Int) (c_1:Int) (c_2:List Int) (c_3:Int) (c_4:List (List Int)) (c_5:List zJ) (c_6:Int) (c_7:List Int) (c_8:Int) (c_9:Int) (xY:Int) (xZ:Int) (x3:Int) (x4:Int):Option (Int×(List Int)×Int×(List (List Int))×(List zJ)×Int×(List Int)×Int×Int×Int×Int×Int×Int) :=
  (bif decide (i_1<(((y2).length:Nat):Int)) then (((xQ y2 i_1).bind fun x_1=>(vN F (⟨(⟨c_1,c_2,c_3⟩:zC),c_4,c_5,(⟨c_6,c_7,c_8,c_9,xY,xZ⟩:zB),x3,x4⟩:zA) x_1.E).bind fun r_5 =>
  (bif (r_5.2==(0:Int)) then some (r_5.1.Thread.Id,r_5.1.Thread.Name,r_5.1.Thread.Domain,r_5.1.Names,r_5.1.Stacks,r_5.1.Ring.Policy,r_5.1.Ring.Data,r_5.1.Ring.Start,r_5.1.Ring.End,r_5.1.Ring.First,r_5.1.Ring.Next,r_5.1.Last,r_5.1.Sent) else
  some (c_1,c_2,c_3,c_4,c_5,c_6,c_7,c_8,c_9,xY,xZ,x3,x4)):Option (Int×(List Int)×Int×(List (List Int))×(List zJ)×Int×(List Int)×Int×Int×Int×Int×Int×Int))).bind fun (o_2:(Int×(List Int)×Int×(List (List Int))×(List zJ)×Int×(List Int)×Int×Int×Int×Int×Int×Int)) =>
  rec (zG (i_1+(1:Int))) o_2.1 o_2.2.1 o_2.2.2.1 o_2.2.2.2.1 o_2.2.2.2.2.1 o_2.2.2.2.2.2.1 o_2.2.2.2.2.2.2.1 o_2.2.2.2.2.2.2.2.1 o_2.2.2.2.2.2.2.2.2.1 o_2.2.2.2.2.2.2.2.2.2.1 o_2.2.2.2.2.2.2.2.2.2.2.1 o_2.2.2.2.2.2.2.2.2.2.2.2.1 o_2.2.2.2.2.2.2.2.2.2.2.2.2 else
  some (c_1,c_2,c_3,c_4,c_5,c_6,c_7,c_8,c_9,xY,xZ,x3,x4))
def uM (F:Nat) (y2:List (y3)):Nat→Int→Int→(List Int)→Int→(List (List Int))→(List zJ)→Int→(List Int)→Int→Int→Int→Int→Int→Int→Option (Int×(List Int)×Int×(List (List Int))×(List zJ)×Int×(List Int)×Int×Int×Int×Int×Int×Int)
  | 0,_,_,_,_,_,_,_,_,_,_,_,_,_,_=>none
  | n+1,i_1,c_1,c_2,c_3,c_4,c_5,c_6,c_7,c_8,c_9,xY,xZ,x3,x4=>uA F y2 (uM F y2 n) i_1 c_1 c_2 c_3 c_4 c_5 c_6 c_7 c_8 c_9 xY xZ x3 x4
def uT (F:Nat) (y2:List (y3)):Option Bool :=
  (((zBZ F).bind fun r_1=>bif !r_1 then (some true) else ((zCr F y2).bind fun r_2=>some (!r_2)))).bind fun (p_1:Bool) =>
  (bif p_1 then (zBZ F).bind fun r_3 =>
  some r_3 else
  (qY F (⟨(1:Int),([116]:List Int),(0:Int)⟩:zC) (200:Int) (1:Int)).bind fun r_4 =>
  (uM F y2 F (0:Int) r_4.1.Thread.Id r_4.1.Thread.Name r_4.1.Thread.Domain r_4.1.Names r_4.1.Stacks r_4.1.Ring.Policy r_4.1.Ring.Data r_4.1.Ring.Start r_4.1.Ring.End r_4.1.Ring.First r_4.1.Ring.Next r_4.1.Last r_4.1.Sent).bind fun (o_1:(Int×(List Int)×Int×(List (List Int))×(List zJ)×Int×(List Int)×Int×Int×Int×Int×Int×Int)) =>
  (bif decide ((((o_1.2.2.2.1).length:Nat):Int)≥(1000:Int)) then some true else
  (uL F (⟨(⟨o_1.1,o_1.2.1,o_1.2.2.1⟩:zC),o_1.2.2.2.1,o_1.2.2.2.2.1,(⟨o_1.2.2.2.2.2.1,o_1.2.2.2.2.2.2.1,o_1.2.2.2.2.2.2.2.1,o_1.2.2.2.2.2.2.2.2.1,o_1.2.2.2.2.2.2.2.2.2.1,o_1.2.2.2.2.2.2.2.2.2.2.1⟩:zB),o_1.2.2.2.2.2.2.2.2.2.2.2.1,o_1.2.2.2.2.2.2.2.2.2.2.2.2⟩:zA)).bind fun r_6 =>
  (uL F r_6.2).bind fun r_7 =>
  ((bif ((((r_7.1).length:Nat):Int) != (0:Int)) then (some true) else ((zCu F r_6.2 r_7.2).bind fun r_8=>bif !r_8 then (some true) else ((kF F r_6.2).bind fun r_9=>bif (r_9 != (0:Int)) then (some true) else ((qN F r_6.2).bind fun yQ=>some (yQ != (0:Int))))))).bind fun (p_2:Bool) =>
  (bif p_2 then some false else
  (vN F r_6.2 (⟨(1000000000000:Int),(2:Int),([]:List Int),(0:Int),(0:Int),[]⟩:zE)).bind fun y1 =>
  (uL F y1.1).bind fun wY =>
  ((bif (y1.2==(0:Int)) then (bif ((((wY.1).length:Nat):Int)==(1:Int)) then ((xQ wY.1 (0:Int)).bind fun x_2=>bif (x_2.Serial==o_1.2.2.2.2.2.2.2.2.2.2.1) then ((xQ wY.1 (0:Int)).bind fun x_3=>bif (x_3.Lost==(0:Int)) then ((xQ wY.1 (0:Int)).bind fun x_4=>some ((((x_4.Events).length:Nat):Int)==(1:Int))) else (some false)) else (some false)) else (some false)) else (some false))).bind fun (p_3:Bool) =>
  some p_3)))
end Go.Ab
