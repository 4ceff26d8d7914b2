/- Printed: the typed Lean functions of the Go functions, or the proofs that the Go functions meet them. No conditions but those that the theorems name. -/
import Derived.Test.YtdpgdpjoemdkjaaA35
import Derived.Test.YtdpgdpjoemdkjaaA41
namespace Go.Ab
open Go
set_option linter.unusedVariables false
structure zC where
  Id:Int
  Name:List Int
  Domain:Int
  deriving DecidableEq,Inhabited
def z8 (s:zC):List AV:=[.int .i64 s.Id,.str s.Name,.int .i64 s.Domain]
def zW (s:zC):AV:=.agg (z8 s)
def uL (s_1:List Int) (c_1:Int):Option Int :=
  some (wN s_1 c_1)
def xB (s_1:List Int) (c_1:Int):Option Int :=
  (uL s_1 c_1).bind fun r_1 =>
  some r_1
def jJ (c_1:Int):Option Bool :=
  ((bif decide (c_1≥(97:Int)) then (bif decide (c_1≤(122:Int)) then (some true) else (bif decide (c_1≥(65:Int)) then (bif decide (c_1≤(90:Int)) then (some true) else (bif decide (c_1≥(48:Int)) then (bif decide (c_1≤(57:Int)) then (some true) else ((xB ([95,46,58,47,60,62,36,42,126,45]:List Int) c_1).bind fun r_1=>some (decide (r_1≥(0:Int))))) else ((xB ([95,46,58,47,60,62,36,42,126,45]:List Int) c_1).bind fun r_1=>some (decide (r_1≥(0:Int)))))) else (bif decide (c_1≥(48:Int)) then (bif decide (c_1≤(57:Int)) then (some true) else ((xB ([95,46,58,47,60,62,36,42,126,45]:List Int) c_1).bind fun r_1=>some (decide (r_1≥(0:Int))))) else ((xB ([95,46,58,47,60,62,36,42,126,45]:List Int) c_1).bind fun r_1=>some (decide (r_1≥(0:Int))))))) else (bif decide (c_1≥(65:Int)) then (bif decide (c_1≤(90:Int)) then (some true) else (bif decide (c_1≥(48:Int)) then (bif decide (c_1≤(57:Int)) then (some true) else ((xB ([95,46,58,47,60,62,36,42,126,45]:List Int) c_1).bind fun r_1=>some (decide (r_1≥(0:Int))))) else ((xB ([95,46,58,47,60,62,36,42,126,45]:List Int) c_1).bind fun r_1=>some (decide (r_1≥(0:Int)))))) else (bif decide (c_1≥(48:Int)) then (bif decide (c_1≤(57:Int)) then (some true) else ((xB ([95,46,58,47,60,62,36,42,126,45]:List Int) c_1).bind fun r_1=>some (decide (r_1≥(0:Int))))) else ((xB ([95,46,58,47,60,62,36,42,126,45]:List Int) c_1).bind fun r_1=>some (decide (r_1≥(0:Int)))))))).bind fun (p_1:Bool) =>
  some p_1
def vY (F:Nat) (s_1:List Int) (rec:Int→Option (Unit⊕Int)) (v_1:Int):Option (Unit⊕Int) :=
  (bif decide (v_1<(((s_1).length:Nat):Int)) then (yW s_1 v_1).bind fun c_1=>(jJ c_1).bind fun r_1 =>
  (bif !r_1 then some (.inr (3:Int)) else
  rec (zG (v_1+(1:Int)))) else
  some (.inl ()))
def qO (F:Nat) (s_1:List Int):Nat→Int→Option (Unit⊕Int)
  | 0,_=>none
  | n+1,v_1=>vY F s_1 (qO F s_1 n) v_1
def v8 (F:Nat) (s_1:List Int):Option Int :=
  (bif ((s_1==([]:List Int))||decide ((((s_1).length:Nat):Int)>(40:Int))) then some (3:Int) else
  (qO F s_1 F (0:Int)).bind fun (o_1:Unit⊕Int) =>
  (match o_1 with
  | (.inl q_1) =>
  some (0:Int)
  | (.inr q_2) =>
  some q_2))
def vJ (F:Nat) (t_1:zC):Option Int :=
  (bif (decide (t_1.Id<(0:Int))||(decide (t_1.Id>(1000000000000000:Int))||(decide (t_1.Domain<(0:Int))||decide (t_1.Domain≥(8:Int))))) then some (2:Int) else
  (v8 F t_1.Name).bind fun r_1 =>
  some r_1)
structure zI where
  c0:Int
  c1:Int
  deriving DecidableEq,Inhabited
def zEP (s:zI):List AV:=[.int .i64 s.c0,.int .i64 s.c1]
def zD (s:zI):AV:=.agg (zEP s)
structure zB where
  Policy:Int
  Data:List (Int)
  Start:Int
  End:Int
  First:Int
  Next:Int
  deriving DecidableEq,Inhabited
def zK (s:zB):List AV:=[.int .i64 s.Policy,.sl false 1 (List.map (AV.int .u8) s.Data),.int .i64 s.Start,.int .i64 s.End,.int .i64 s.First,.int .i64 s.Next]
def zT (s:zB):AV:=.agg (zK s)
structure zA where
  Thread:zC
  Names:List (List Int)
  Stacks:List (zI)
  Ring:zB
  Last:Int
  Sent:Int
  deriving DecidableEq,Inhabited
def zH (s:zA):List AV:=[.int .i64 s.Thread.Id,.str s.Thread.Name,.int .i64 s.Thread.Domain,.sl false 1 (List.map AV.str s.Names),.sl false 2 (List.map zD s.Stacks),.int .i64 s.Ring.Policy,.sl false 1 (List.map (AV.int .u8) s.Ring.Data),.int .i64 s.Ring.Start,.int .i64 s.Ring.End,.int .i64 s.Ring.First,.int .i64 s.Ring.Next,.int .i64 s.Last,.int .i64 s.Sent]
def zL (s:zA):AV:=.agg (zH s)
def zCb (size_1:Int) (p_1:Int):Option (zB×Int) :=
  (bif (decide (size_1<(16:Int))||decide (size_1>(65536:Int))) then some ((⟨(0:Int),[],(0:Int),(0:Int),(0:Int),(0:Int)⟩:zB),(2:Int)) else
  (bif ((p_1 != (1:Int))&&(p_1 != (2:Int))) then some ((⟨(0:Int),[],(0:Int),(0:Int),(0:Int),(0:Int)⟩:zB),(1:Int)) else
  (need ((0:Int)≤size_1∧((size_1).toNat) * 1≤281474976710656)).bind fun _ =>
  some ((⟨p_1,(List.replicate ((size_1).toNat) (0:Int)),(0:Int),(0:Int),(0:Int),(0:Int)⟩:zB),(0:Int))))
def u9 (F:Nat) (t_1:zC) (size_1:Int) (p_1:Int):Option (zA×Int) :=
  (vJ F t_1).bind fun r_1 =>
  (bif (r_1 != (0:Int)) then some ((⟨(⟨(0:Int),([]:List Int),(0:Int)⟩:zC),[],[],(⟨(0:Int),[],(0:Int),(0:Int),(0:Int),(0:Int)⟩:zB),(0:Int),(0:Int)⟩:zA),r_1) else
  (zCb size_1 p_1).bind fun r_2 =>
  (bif (r_2.2 != (0:Int)) then some ((⟨(⟨(0:Int),([]:List Int),(0:Int)⟩:zC),[],[],(⟨(0:Int),[],(0:Int),(0:Int),(0:Int),(0:Int)⟩:zB),(0:Int),(0:Int)⟩:zA),r_2.2) else
  some ((⟨t_1,[],[],r_2.1,(0:Int),(0:Int)⟩:zA),(0:Int))))
structure zF where
  At:Int
  Kind:Int
  Name:List Int
  N:Int
  M:Int
  Stack:List (List Int)
  deriving DecidableEq,Inhabited
def zQ (s:zF):List AV:=[.int .i64 s.At,.int .i64 s.Kind,.str s.Name,.int .i64 s.N,.int .i64 s.M,.sl false 1 (List.map AV.str s.Stack)]
def zJ (s:zF):AV:=.agg (zQ s)
def nN (at__1:Int):Option zF :=
  some (⟨at__1,(3:Int),([97]:List Int),(0:Int),(0:Int),[]⟩:zF)
def xE (F:Nat) (names_1:List (List Int)) (rec:Int→(List ((List Int)×Bool))→Option (Unit⊕Int)) (v_1:Int) (row_1:List ((List Int)×Bool)):Option (Unit⊕Int) :=
  (bif decide (v_1<(((names_1).length:Nat):Int)) then (yW names_1 v_1).bind fun x_1 =>
  (v8 F x_1).bind fun r_1 =>
  (bif (r_1 != (0:Int)) then some (.inr r_1) else
  (bif ((vN row_1 x_1).getD false) then some (.inr (4:Int)) else
  (need ((row_1).length<140737488355328)).bind fun _ =>
  rec (zG (v_1+(1:Int))) (vU row_1 x_1 true))) else
  some (.inl ()))
def wL (F:Nat) (names_1:List (List Int)):Nat→Int→(List ((List Int)×Bool))→Option (Unit⊕Int)
  | 0,_,_=>none
  | n+1,v_1,row_1=>xE F names_1 (wL F names_1 n) v_1 row_1
def uR (F:Nat) (names_1:List (List Int)):Option Int :=
  (wL F names_1 F (0:Int) []).bind fun (o_1:Unit⊕Int) =>
  (match o_1 with
  | (.inl q_1) =>
  some (0:Int)
  | (.inr q_2) =>
  some q_2)
def vH (F:Nat) (names_1:List (List Int)) (stacks_1:List (zI)) (rec:Int→(List (zI×Bool))→(List Int)→Option (Unit⊕Int)) (v_1:Int) (row_1:List (zI×Bool)) (row_2:List Int):Option (Unit⊕Int) :=
  (bif decide (v_1<(((stacks_1).length:Nat):Int)) then (yW stacks_1 v_1).bind fun x_1 =>
  (bif (decide (x_1.c0<(-1:Int))||(decide (x_1.c0≥v_1)||(decide (x_1.c1<(0:Int))||decide (x_1.c1≥(((names_1).length:Nat):Int))))) then some (.inr (2:Int)) else
  (bif ((vN row_1 x_1).getD false) then some (.inr (4:Int)) else
  (need ((row_1).length<140737488355328)).bind fun _ =>
  (yW row_2 v_1).bind fun x_2 =>
  (((bif (x_1.c0 != (-1:Int)) then (yW ((row_2).set ((v_1).toNat) (1:Int)) v_1).bind fun x_3=>(yW ((row_2).set ((v_1).toNat) (1:Int)) x_1.c0).bind fun x_4=>(yW ((row_2).set ((v_1).toNat) (1:Int)) v_1).bind fun x_5 =>
  some (((row_2).set ((v_1).toNat) (1:Int)).set ((v_1).toNat) (zG (x_3+x_4))) else
  some ((row_2).set ((v_1).toNat) (1:Int))):Option (List Int))).bind fun (o_2:(List Int)) =>
  (yW o_2 v_1).bind fun x_6 =>
  (bif decide (x_6>(32:Int)) then some (.inr (7:Int)) else
  rec (zG (v_1+(1:Int))) (vU row_1 x_1 true) o_2))) else
  some (.inl ()))
def uH (F:Nat) (names_1:List (List Int)) (stacks_1:List (zI)):Nat→Int→(List (zI×Bool))→(List Int)→Option (Unit⊕Int)
  | 0,_,_,_=>none
  | n+1,v_1,row_1,row_2=>vH F names_1 stacks_1 (uH F names_1 stacks_1 n) v_1 row_1 row_2
def uE (F:Nat) (names_1:List (List Int)) (stacks_1:List (zI)):Option Int :=
  (bif (decide ((((names_1).length:Nat):Int)>(1000:Int))||decide ((((stacks_1).length:Nat):Int)>(1000:Int))) then some (7:Int) else
  (uR F names_1).bind fun r_1 =>
  (bif (r_1 != (0:Int)) then some r_1 else
  (need (((stacks_1).length) * 8≤281474976710656)).bind fun _ =>
  (uH F names_1 stacks_1 F (0:Int) [] (List.replicate ((stacks_1).length) (0:Int))).bind fun (o_1:Unit⊕Int) =>
  (match o_1 with
  | (.inl q_1) =>
  some (0:Int)
  | (.inr q_2) =>
  some q_2)))
def jI (r_1:zB):Option (List (Int)) :=
  (need ((0:Int)≤(zG (r_1.End - r_1.Start))∧((zG (r_1.End - r_1.Start)).toNat) * 1≤281474976710656)).bind fun _ =>
  (need ((((r_1.Data).length:Nat):Int)≠(0:Int))).bind fun _ =>
  (need ((0:Int)≤(zX r_1.Start (((r_1.Data).length:Nat):Int))∧(zX r_1.Start (((r_1.Data).length:Nat):Int))≤(((r_1.Data).length:Nat):Int))).bind fun _=>(need (0≤((zG (r_1.End - r_1.Start)).toNat)∧((zG (r_1.End - r_1.Start)).toNat)≤((List.replicate ((zG (r_1.End - r_1.Start)).toNat) (0:Int))).length)).bind fun _ =>
  (need ((((min (sub r_1.Data (zX r_1.Start (((r_1.Data).length:Nat):Int)) (((r_1.Data).length:Nat):Int)).length ((zG (r_1.End - r_1.Start)).toNat - 0)):Nat):Int)≤(((zG (r_1.End - r_1.Start)).toNat:Nat):Int))).bind fun _=>(need ((min (sub r_1.Data (zX r_1.Start (((r_1.Data).length:Nat):Int)) (((r_1.Data).length:Nat):Int)).length ((zG (r_1.End - r_1.Start)).toNat - 0))≤((zG (r_1.End - r_1.Start)).toNat)∧((zG (r_1.End - r_1.Start)).toNat)≤((cpy (List.replicate ((zG (r_1.End - r_1.Start)).toNat) (0:Int)) 0 ((zG (r_1.End - r_1.Start)).toNat) (sub r_1.Data (zX r_1.Start (((r_1.Data).length:Nat):Int)) (((r_1.Data).length:Nat):Int)))).length)).bind fun _ =>
  some (cpy (cpy (List.replicate ((zG (r_1.End - r_1.Start)).toNat) (0:Int)) 0 ((zG (r_1.End - r_1.Start)).toNat) (sub r_1.Data (zX r_1.Start (((r_1.Data).length:Nat):Int)) (((r_1.Data).length:Nat):Int))) (min (sub r_1.Data (zX r_1.Start (((r_1.Data).length:Nat):Int)) (((r_1.Data).length:Nat):Int)).length ((zG (r_1.End - r_1.Start)).toNat - 0)) ((zG (r_1.End - r_1.Start)).toNat) r_1.Data)
def jK (u_1:Int):Option Int :=
  some (zAV .i64 (zG (pG .u64 u_1 (1:Int))) (zG (0 - (zG (wA .u64 u_1 (1:Int))))))
def uU (F:Nat) (b_1:List (Int)) (rec:Int→Int→Option (Unit⊕(Int×Int×Int))) (u_1:Int) (v_1:Int):Option (Unit⊕(Int×Int×Int)) :=
  (bif decide (v_1<(((b_1).length:Nat):Int)) then (yW b_1 v_1).bind fun x_1 =>
  (bif ((v_1==(9:Int))&&decide (x_1>(1:Int))) then some (.inr ((0:Int),(0:Int),(10:Int))) else
  (need ((0:Int)≤(zG ((7:Int) * v_1)))).bind fun _ =>
  (bif decide (x_1≥(128:Int)) then rec (ior .u64 u_1 (jG .u64 (z0 (wA .u8 x_1 (127:Int))) (zG ((7:Int) * v_1)))) (zG (v_1+(1:Int))) else
  (bif ((x_1==(0:Int))&&decide (v_1>(0:Int))) then some (.inr ((0:Int),(0:Int),(10:Int))) else
  (jK (ior .u64 u_1 (jG .u64 (z0 (wA .u8 x_1 (127:Int))) (zG ((7:Int) * v_1))))).bind fun r_1 =>
  some (.inr (r_1,zG (v_1+(1:Int)),(0:Int)))))) else
  some (.inl ()))
def u7 (F:Nat) (b_1:List (Int)):Nat→Int→Int→Option (Unit⊕(Int×Int×Int))
  | 0,_,_=>none
  | n+1,u_1,v_1=>uU F b_1 (u7 F b_1 n) u_1 v_1
def pI (F:Nat) (b_1:List (Int)):Option (Int×Int×Int) :=
  (u7 F b_1 F (0:Int) (0:Int)).bind fun (o_1:Unit⊕(Int×Int×Int)) =>
  (match o_1 with
  | (.inl q_1) =>
  some ((0:Int),(0:Int),(8:Int))
  | (.inr q_2) =>
  some q_2)
def uG (F:Nat) (rec:(List Int)→(List (List (Int)))→Option ((List (List (Int)))⊕((List (List (Int)))×Bool))) (b_2:List Int) (row_1:List (List (Int))):Option ((List (List (Int)))⊕((List (List (Int)))×Bool)) :=
  (bif decide ((((b_2).length:Nat):Int)>(0:Int)) then (pI F b_2).bind fun r_1 =>
  (bif ((r_1.2.2 != (0:Int))||(decide (r_1.1<(0:Int))||(decide (r_1.1>(2000:Int))||decide ((zG (r_1.2.1+r_1.1))>(((b_2).length:Nat):Int))))) then some (.inr ([],false)) else
  (need ((0:Int)≤r_1.2.1∧r_1.2.1≤(zG (r_1.2.1+r_1.1))∧(zG (r_1.2.1+r_1.1))≤(((b_2).length:Nat):Int))).bind fun _=>(need (((row_1).length+(([sub b_2 r_1.2.1 (zG (r_1.2.1+r_1.1))]:List (List (Int)))).length) * 24≤140737488355328)).bind fun _ =>
  (need ((0:Int)≤(zG (r_1.2.1+r_1.1))∧(zG (r_1.2.1+r_1.1))≤(((b_2).length:Nat):Int))).bind fun _ =>
  rec (sub b_2 (zG (r_1.2.1+r_1.1)) (((b_2).length:Nat):Int)) (row_1++([sub b_2 r_1.2.1 (zG (r_1.2.1+r_1.1))]:List (List (Int))))) else
  some (.inl row_1))
def jN (F:Nat):Nat→(List Int)→(List (List (Int)))→Option ((List (List (Int)))⊕((List (List (Int)))×Bool))
  | 0,_,_=>none
  | n+1,b_2,row_1=>uG F (jN F n) b_2 row_1
def pZ (F:Nat) (b_1:List (Int)):Option ((List (List (Int)))×Bool) :=
  (jN F F b_1 []).bind fun (o_1:(List (List (Int)))⊕((List (List (Int)))×Bool)) =>
  (match o_1 with
  | (.inl q_1) =>
  some (q_1,true)
  | (.inr q_2) =>
  some q_2)
def kC (F:Nat) (r_1:zB):Option ((List (List (Int)))×Int) :=
  (((bif ((r_1.Policy != (1:Int))&&(r_1.Policy != (2:Int))) then some (.inr ([],(1:Int))) else
  (bif (decide ((((r_1.Data).length:Nat):Int)<(16:Int))||decide ((((r_1.Data).length:Nat):Int)>(65536:Int))) then some (.inr ([],(2:Int))) else
  (bif decide (r_1.Start<(0:Int)) then some (.inr ([],(2:Int))) else
  (bif decide (r_1.End<r_1.Start) then some (.inr ([],(2:Int))) else
  (bif decide (r_1.End>(1000000000000000:Int)) then some (.inr ([],(2:Int))) else
  (bif decide ((zG (r_1.End - r_1.Start))>(((r_1.Data).length:Nat):Int)) then some (.inr ([],(2:Int))) else
  (bif decide (r_1.First<(0:Int)) then some (.inr ([],(2:Int))) else
  (bif decide (r_1.Next<r_1.First) then some (.inr ([],(2:Int))) else
  (bif decide (r_1.Next>(1000000000000000:Int)) then some (.inr ([],(2:Int))) else
  some (.inl ())))))))))):Option (Unit⊕((List (List (Int)))×Int)))).bind fun (o_1:Unit⊕((List (List (Int)))×Int)) =>
  (match o_1 with
  | (.inl q_1) =>
  (jI r_1).bind fun r_2=>(pZ F r_2).bind fun r_3 =>
  (bif (!r_3.2||((((r_3.1).length:Nat):Int) != (zG (r_1.Next - r_1.First)))) then some ([],(10:Int)) else
  some (r_3.1,(0:Int)))
  | (.inr q_2) =>
  some q_2)
def p9 (F:Nat) (r_1:zB):Option Int :=
  (kC F r_1).bind fun r_2 =>
  some r_2.2
def pL (F:Nat) (r_1:zB):Option ((List (List (Int)))×zB) :=
  (kC F r_1).bind fun r_2 =>
  (bif (r_2.2 != (0:Int)) then some ([],r_1) else
  some (r_2.1,(⟨r_1.Policy,r_1.Data,r_1.End,r_1.End,r_1.Next,r_1.Next⟩:zB)))
structure yE where
  b:List (Int)
  used:Int
  fault:Int
  deriving DecidableEq,Inhabited
def z5 (s:yE):List AV:=[.sl false 1 (List.map (AV.int .u8) s.b),.int .i64 s.used,.int .i64 s.fault]
def y1 (F:Nat) (x_1:yE):Option (Int×yE) :=
  (bif (x_1.fault != (0:Int)) then some ((0:Int),x_1) else
  (need ((0:Int)≤x_1.used∧x_1.used≤(((x_1.b).length:Nat):Int))).bind fun _=>(pI F (sub x_1.b x_1.used (((x_1.b).length:Nat):Int))).bind fun r_1 =>
  some (r_1.1,(⟨x_1.b,zG (x_1.used+r_1.2.1),r_1.2.2⟩:yE)))
def n7 (k_1:Int):Option (Bool×Bool×Bool×Bool) :=
  some (((k_1==(1:Int))||((k_1==(3:Int))||(k_1==(4:Int)))),decide (k_1≥(4:Int)),((k_1==(9:Int))||(k_1==(11:Int))),((k_1==(5:Int))||(k_1==(11:Int))))
def y6 (F:Nat) (rec:Int→Int→(List (List Int))→Option (List (List Int))) (i_1:Int) (j_1:Int) (row_1:List (List Int)):Option (List (List Int)) :=
  (bif decide (i_1<j_1) then (yW row_1 j_1).bind fun x_1=>(yW row_1 i_1).bind fun x_2=>(yW row_1 i_1).bind fun x_3=>(yW ((row_1).set ((i_1).toNat) x_1) j_1).bind fun x_4 =>
  rec (zG (i_1+(1:Int))) (zG (j_1 - (1:Int))) (((row_1).set ((i_1).toNat) x_1).set ((j_1).toNat) x_2) else
  some row_1)
def y2 (F:Nat):Nat→Int→Int→(List (List Int))→Option (List (List Int))
  | 0,_,_,_=>none
  | n+1,i_1,j_1,row_1=>y6 F (y2 F n) i_1 j_1 row_1
def xX (F:Nat) (s_1:List (List Int)):Option (List (List Int)) :=
  (y2 F F (0:Int) (zG ((((s_1).length:Nat):Int) - (1:Int))) s_1).bind fun (o_1:(List (List Int))) =>
  some o_1
def x6 (F:Nat) (names_1:List (List Int)) (stacks_1:List (zI)) (rec:Int→(List (List Int))→Option (List (List Int))) (i_2:Int) (row_1:List (List Int)):Option (List (List Int)) :=
  (bif (i_2 != (-1:Int)) then (yW stacks_1 i_2).bind fun x_1=>(yW names_1 x_1.c1).bind fun x_2=>(need (((row_1).length+(([x_2]:List (List Int))).length) * 16≤140737488355328)).bind fun _ =>
  (yW stacks_1 i_2).bind fun x_3 =>
  rec x_3.c0 (row_1++([x_2]:List (List Int))) else
  some row_1)
def tZ (F:Nat) (names_1:List (List Int)) (stacks_1:List (zI)):Nat→Int→(List (List Int))→Option (List (List Int))
  | 0,_,_=>none
  | n+1,i_2,row_1=>x6 F names_1 stacks_1 (tZ F names_1 stacks_1 n) i_2 row_1
def qN (F:Nat) (names_1:List (List Int)) (stacks_1:List (zI)) (i_1:Int):Option ((List (List Int))×Int) :=
  (uE F names_1 stacks_1).bind fun r_1 =>
  (bif (r_1 != (0:Int)) then some ([],(1:Int)) else
  (bif (decide (i_1<(-1:Int))||decide (i_1≥(((stacks_1).length:Nat):Int))) then some ([],(2:Int)) else
  (tZ F names_1 stacks_1 F i_1 []).bind fun (o_1:(List (List Int))) =>
  (xX F o_1).bind fun r_2=>(need ((r_2).length=(o_1).length)).bind fun _ =>
  some (r_2,(0:Int))))
structure zO where
  word:List Int
  name:Bool
  n:Bool
  m:Bool
  stack:Bool
  least:Int
  most:Int
  mLeast:Int
  mMost:Int
  deriving DecidableEq,Inhabited
def zY (s:zO):List AV:=[.str s.word,.bool s.name,.bool s.n,.bool s.m,.bool s.stack,.int .i64 s.least,.int .i64 s.most,.int .i64 s.mLeast,.int .i64 s.mMost]
def yO (s:zO):AV:=.agg (zY s)
def jP:Option (List (zO)) :=
  some ([(⟨([]:List Int),false,false,false,false,(0:Int),(0:Int),(0:Int),(0:Int)⟩:zO),(⟨([98,101,103,105,110]:List Int),true,false,false,false,(0:Int),(0:Int),(0:Int),(0:Int)⟩:zO),(⟨([101,110,100]:List Int),false,false,false,false,(0:Int),(0:Int),(0:Int),(0:Int)⟩:zO),(⟨([109,97,114,107]:List Int),true,false,false,false,(0:Int),(0:Int),(0:Int),(0:Int)⟩:zO),(⟨([99,111,117,110,116]:List Int),true,true,false,false,(-1000000000000000:Int),(1000000000000000:Int),(0:Int),(0:Int)⟩:zO),(⟨([115,97,109,112,108,101]:List Int),false,true,false,true,(1:Int),(1000000000000:Int),(0:Int),(0:Int)⟩:zO),(⟨([115,101,110,100]:List Int),false,true,false,false,(0:Int),(1000000000000000:Int),(0:Int),(0:Int)⟩:zO),(⟨([114,101,99,118]:List Int),false,true,false,false,(0:Int),(1000000000000000:Int),(0:Int),(0:Int)⟩:zO),(⟨([114,117,110]:List Int),false,true,false,false,(0:Int),(63:Int),(0:Int),(0:Int)⟩:zO),(⟨([115,116,111,112]:List Int),false,true,true,false,(0:Int),(3:Int),(0:Int),(1000000000000000:Int)⟩:zO),(⟨([119,97,107,101]:List Int),false,true,false,false,(0:Int),(1000000000000000:Int),(0:Int),(0:Int)⟩:zO),(⟨([97,108,108,111,99]:List Int),false,true,true,true,(0:Int),(1000000000000000:Int),(1:Int),(1000000000000:Int)⟩:zO),(⟨([102,114,101,101]:List Int),false,true,false,false,(0:Int),(1000000000000000:Int),(0:Int),(0:Int)⟩:zO)]:List zO)
def j8 (k_1:Int):Option (zO×Bool) :=
  (jP ).bind fun r_1 =>
  (bif (decide (k_1<(1:Int))||decide (k_1≥(((r_1).length:Nat):Int))) then some ((⟨([]:List Int),false,false,false,false,(0:Int),(0:Int),(0:Int),(0:Int)⟩:zO),false) else
  (yW r_1 k_1).bind fun x_1 =>
  some (x_1,true))
def vD (F:Nat) (l_1:List (List Int)) (rec:Int→Option (Unit⊕Int)) (v_1:Int):Option (Unit⊕Int) :=
  (bif decide (v_1<(((l_1).length:Nat):Int)) then (yW l_1 v_1).bind fun x_1 =>
  (v8 F x_1).bind fun r_1 =>
  (bif (r_1 != (0:Int)) then some (.inr r_1) else
  rec (zG (v_1+(1:Int)))) else
  some (.inl ()))
def tL (F:Nat) (l_1:List (List Int)):Nat→Int→Option (Unit⊕Int)
  | 0,_=>none
  | n+1,v_1=>vD F l_1 (tL F l_1 n) v_1
def tS (F:Nat) (l_1:List (List Int)):Option Int :=
  (bif decide ((((l_1).length:Nat):Int)>(32:Int)) then some (7:Int) else
  (tL F l_1 F (0:Int)).bind fun (o_1:Unit⊕Int) =>
  (match o_1 with
  | (.inl q_1) =>
  some (0:Int)
  | (.inr q_2) =>
  some q_2))
def kW (F:Nat) (f_1:zO) (e_1:zF):Option Int :=
  (bif f_1.name then (v8 F e_1.Name).bind fun r_1 =>
  some r_1 else
  (tS F e_1.Stack).bind fun r_2 =>
  some r_2)
def uX (F:Nat) (e_1:zF):Option Int :=
  (bif (decide (e_1.At<(0:Int))||decide (e_1.At>(1000000000000:Int))) then some (2:Int) else
  (j8 e_1.Kind).bind fun r_1 =>
  ((bif !r_1.2 then (some true) else (bif !r_1.1.name then (bif !(e_1.Name==([]:List Int)) then (some true) else (bif !r_1.1.n then (bif (e_1.N != (0:Int)) then (some true) else (bif !r_1.1.m then (bif (e_1.M != (0:Int)) then (some true) else (bif !r_1.1.stack then (some (decide ((((e_1.Stack).length:Nat):Int)>(0:Int)))) else (some false))) else (bif !r_1.1.stack then (some (decide ((((e_1.Stack).length:Nat):Int)>(0:Int)))) else (some false)))) else (bif !r_1.1.m then (bif (e_1.M != (0:Int)) then (some true) else (bif !r_1.1.stack then (some (decide ((((e_1.Stack).length:Nat):Int)>(0:Int)))) else (some false))) else (bif !r_1.1.stack then (some (decide ((((e_1.Stack).length:Nat):Int)>(0:Int)))) else (some false))))) else (bif !r_1.1.n then (bif (e_1.N != (0:Int)) then (some true) else (bif !r_1.1.m then (bif (e_1.M != (0:Int)) then (some true) else (bif !r_1.1.stack then (some (decide ((((e_1.Stack).length:Nat):Int)>(0:Int)))) else (some false))) else (bif !r_1.1.stack then (some (decide ((((e_1.Stack).length:Nat):Int)>(0:Int)))) else (some false)))) else (bif !r_1.1.m then (bif (e_1.M != (0:Int)) then (some true) else (bif !r_1.1.stack then (some (decide ((((e_1.Stack).length:Nat):Int)>(0:Int)))) else (some false))) else (bif !r_1.1.stack then (some (decide ((((e_1.Stack).length:Nat):Int)>(0:Int)))) else (some false))))))).bind fun (p_1:Bool) =>
  (bif p_1 then some (1:Int) else
  (kW F r_1.1 e_1).bind fun r_2 =>
  (bif (r_2 != (0:Int)) then some r_2 else
  (bif (r_1.1.n&&(decide (e_1.N<r_1.1.least)||decide (e_1.N>r_1.1.most))) then some (2:Int) else
  (bif ((e_1.Kind==(9:Int))&&((e_1.N != (2:Int))&&(e_1.M != (0:Int)))) then some (1:Int) else
  (bif (r_1.1.m&&(bif decide (e_1.M<r_1.1.mLeast) then ((e_1.Kind != (9:Int))||(e_1.N==(2:Int))) else (decide (e_1.M>r_1.1.mMost)&&((e_1.Kind != (9:Int))||(e_1.N==(2:Int)))))) then some (2:Int) else
  some (0:Int)))))))
def jH (F:Nat) (names_1:List (List Int)) (stacks_1:List (zI)) (b_1:List (Int)):Option (zF×Int×Int) :=
  (uE F names_1 stacks_1).bind fun r_1 =>
  (bif (r_1 != (0:Int)) then some ((⟨(0:Int),(0:Int),([]:List Int),(0:Int),(0:Int),[]⟩:zF),(0:Int),(1:Int)) else
  (y1 F (⟨b_1,(0:Int),(0:Int)⟩:yE)).bind fun r_2 =>
  (y1 F r_2.2).bind fun r_3 =>
  (((bif ((r_3.2.fault==(0:Int))&&(decide (r_2.1<(1:Int))||decide (r_2.1>(12:Int)))) then some (10:Int) else
  some r_3.2.fault):Option Int)).bind fun (o_1:Int) =>
  (n7 r_2.1).bind fun r_4 =>
  (((bif r_4.1 then (y1 F (⟨r_3.2.b,r_3.2.used,o_1⟩:yE)).bind fun r_5 =>
  some (r_5.1,r_5.2.b,r_5.2.used,r_5.2.fault) else
  some ((0:Int),r_3.2.b,r_3.2.used,o_1)):Option (Int×(List Int)×Int×Int))).bind fun (o_2:(Int×(List Int)×Int×Int)) =>
  (((bif r_4.2.1 then (y1 F (⟨o_2.2.1,o_2.2.2.1,o_2.2.2.2⟩:yE)).bind fun r_6 =>
  some (r_6.2.b,r_6.2.used,r_6.2.fault,r_6.1) else
  some (o_2.2.1,o_2.2.2.1,o_2.2.2.2,(0:Int))):Option ((List Int)×Int×Int×Int))).bind fun (o_3:((List Int)×Int×Int×Int)) =>
  (((bif r_4.2.2.1 then (y1 F (⟨o_3.1,o_3.2.1,o_3.2.2.1⟩:yE)).bind fun r_7 =>
  some (r_7.2.b,r_7.2.used,r_7.2.fault,r_7.1) else
  some (o_3.1,o_3.2.1,o_3.2.2.1,(0:Int))):Option ((List Int)×Int×Int×Int))).bind fun (o_4:((List Int)×Int×Int×Int)) =>
  (((bif r_4.2.2.2 then (y1 F (⟨o_4.1,o_4.2.1,o_4.2.2.1⟩:yE)).bind fun r_8 =>
  some (r_8.1,r_8.2.b,r_8.2.used,r_8.2.fault) else
  some ((-1:Int),o_4.1,o_4.2.1,o_4.2.2.1)):Option (Int×(List Int)×Int×Int))).bind fun (o_5:(Int×(List Int)×Int×Int)) =>
  (((bif (o_5.2.2.2 != (0:Int)) then some (.inr ((⟨(0:Int),(0:Int),([]:List Int),(0:Int),(0:Int),[]⟩:zF),(0:Int),o_5.2.2.2)) else
  (bif (r_4.1&&(decide (o_2.1<(0:Int))||decide (o_2.1≥(((names_1).length:Nat):Int)))) then some (.inr ((⟨(0:Int),(0:Int),([]:List Int),(0:Int),(0:Int),[]⟩:zF),(0:Int),(2:Int))) else
  (bif (decide (o_5.1<(-1:Int))||decide (o_5.1≥(((stacks_1).length:Nat):Int))) then some (.inr ((⟨(0:Int),(0:Int),([]:List Int),(0:Int),(0:Int),[]⟩:zF),(0:Int),(2:Int))) else
  some (.inl ())))):Option (Unit⊕(zF×Int×Int)))).bind fun (o_6:Unit⊕(zF×Int×Int)) =>
  (match o_6 with
  | (.inl q_1) =>
  (((bif r_4.1 then (yW names_1 o_2.1).bind fun x_1 =>
  some x_1 else
  some ([]:List Int)):Option (List Int))).bind fun (o_7:(List Int)) =>
  (qN F names_1 stacks_1 o_5.1).bind fun r_9 =>
  (uX F (⟨r_3.1,r_2.1,o_7,o_3.2.2.2,o_4.2.2.2,r_9.1⟩:zF)).bind fun r_10 =>
  (bif (r_10 != (0:Int)) then some ((⟨(0:Int),(0:Int),([]:List Int),(0:Int),(0:Int),[]⟩:zF),(0:Int),(10:Int)) else
  some ((⟨r_3.1,r_2.1,o_7,o_3.2.2.2,o_4.2.2.2,r_9.1⟩:zF),o_5.2.2.1,(0:Int)))
  | (.inr q_2) =>
  some q_2))
def wQ (F:Nat) (p_1:zA) (r_1:(List (List (Int)))×zB) (rec:Int→(List zF)→Option ((List zF)⊕((List (zF))×Bool))) (v_1:Int) (row_1:List zF):Option ((List zF)⊕((List (zF))×Bool)) :=
  (bif decide (v_1<(((r_1.1).length:Nat):Int)) then (yW r_1.1 v_1).bind fun x_1 =>
  (jH F p_1.Names p_1.Stacks x_1).bind fun r_2 =>
  (bif ((r_2.2.2 != (0:Int))||(r_2.2.1 != (((x_1).length:Nat):Int))) then some (.inr ([],false)) else
  (need (((row_1).length+(([r_2.1]:List zF)).length) * 72≤140737488355328)).bind fun _ =>
  rec (zG (v_1+(1:Int))) (row_1++([r_2.1]:List zF))) else
  some (.inl row_1))
def uF (F:Nat) (p_1:zA) (r_1:(List (List (Int)))×zB):Nat→Int→(List zF)→Option ((List zF)⊕((List (zF))×Bool))
  | 0,_,_=>none
  | n+1,v_1,row_1=>wQ F p_1 r_1 (uF F p_1 r_1 n) v_1 row_1
def t4 (F:Nat) (p_1:zA):Option ((List (zF))×Bool) :=
  (pL F p_1.Ring).bind fun r_1 =>
  (uF F p_1 r_1 F (0:Int) []).bind fun (o_1:(List zF)⊕((List (zF))×Bool)) =>
  (match o_1 with
  | (.inl q_1) =>
  some (q_1,true)
  | (.inr q_2) =>
  some q_2)
def wJ (F:Nat) (r_4:(List (zF))×Bool) (rec:Bool→Int→Int→Option (Bool×Int)) (ok_1:Bool) (last_1:Int) (v_1:Int):Option (Bool×Int) :=
  (bif decide (v_1<(((r_4.1).length:Nat):Int)) then (yW r_4.1 v_1).bind fun x_1 =>
  rec (ok_1&&decide (x_1.At≥last_1)) x_1.At (zG (v_1+(1:Int))) else
  some (ok_1,last_1))
def wZ (F:Nat) (r_4:(List (zF))×Bool):Nat→Bool→Int→Int→Option (Bool×Int)
  | 0,_,_,_=>none
  | n+1,ok_1,last_1,v_1=>wJ F r_4 (wZ F r_4 n) ok_1 last_1 v_1
def v7 (F:Nat) (p_1:zA):Option ((List (zF))×Int) :=
  (vJ F p_1.Thread).bind fun r_1 =>
  (bif (r_1 != (0:Int)) then some ([],r_1) else
  (uE F p_1.Names p_1.Stacks).bind fun r_2 =>
  (bif (r_2 != (0:Int)) then some ([],r_2) else
  (p9 F p_1.Ring).bind fun r_3 =>
  (bif (r_3 != (0:Int)) then some ([],r_3) else
  (bif (decide (p_1.Sent<(0:Int))||(decide (p_1.Sent>p_1.Ring.First)||(decide (p_1.Last<(0:Int))||decide (p_1.Last>(1000000000000:Int))))) then some ([],(2:Int)) else
  (t4 F p_1).bind fun r_4 =>
  (wZ F r_4 F r_4.2 (0:Int) (0:Int)).bind fun (o_1:(Bool×Int)) =>
  (bif (!o_1.1||decide (o_1.2>p_1.Last)) then some ([],(10:Int)) else
  some (r_4.1,(0:Int)))))))
def v5 (F:Nat) (p_1:zA):Option Int :=
  (v7 F p_1).bind fun r_1 =>
  some r_1.2
def zAR (n_1:Int):Option Int :=
  some (zAV .u64 (jG .u64 (z0 n_1) (1:Int)) (z0 (pG .i64 n_1 (63:Int))))
def jF (F:Nat) (rec:Int→Int→(List Int)→Option (Int×(List Int))) (size_1:Int) (u_1:Int) (row_1:List Int):Option (Int×(List Int)) :=
  (need ((0:Int)≤size_1∧size_1<((10:Nat):Int))).bind fun _=>((row_1)[(size_1).toNat]?).bind fun x_1 =>
  (bif decide (u_1<(128:Int)) then some (zG (size_1+(1:Int)),(row_1).set ((size_1).toNat) (kD (wA .u64 u_1 (127:Int)))) else
  (need ((0:Int)≤(zG ((zG (size_1+(1:Int))) - (1:Int)))∧(zG ((zG (size_1+(1:Int))) - (1:Int)))<((10:Nat):Int))).bind fun _=>(((row_1).set ((size_1).toNat) (kD (wA .u64 u_1 (127:Int))))[(zG ((zG (size_1+(1:Int))) - (1:Int))).toNat]?).bind fun x_2=>(need ((0:Int)≤(zG ((zG (size_1+(1:Int))) - (1:Int)))∧(zG ((zG (size_1+(1:Int))) - (1:Int)))<((10:Nat):Int))).bind fun _=>(((row_1).set ((size_1).toNat) (kD (wA .u64 u_1 (127:Int))))[(zG ((zG (size_1+(1:Int))) - (1:Int))).toNat]?).bind fun x_3 =>
  rec (zG (size_1+(1:Int))) (pG .u64 u_1 (7:Int)) (((row_1).set ((size_1).toNat) (kD (wA .u64 u_1 (127:Int)))).set ((zG ((zG (size_1+(1:Int))) - (1:Int))).toNat) (ior .u8 x_2 (128:Int))))
def jZ (F:Nat):Nat→Int→Int→(List Int)→Option (Int×(List Int))
  | 0,_,_,_=>none
  | n+1,size_1,u_1,row_1=>jF F (jZ F n) size_1 u_1 row_1
def w4 (F:Nat) (b_1:List (Int)) (n_1:Int):Option (List (Int)) :=
  (zAR n_1).bind fun r_1 =>
  (jZ F F (0:Int) r_1 (List.replicate 10 (0:Int))).bind fun (o_1:(Int×(List Int))) =>
  (need ((0:Int)≤o_1.1∧o_1.1≤((10:Nat):Int)∧10≤(o_1.2).length)).bind fun _=>(need (0≤((o_1.1).toNat)∧((o_1.1).toNat)≤(o_1.2).length)).bind fun _=>(need (((sub b_1 (0:Int) (((b_1).length:Nat):Int)).length+(((o_1.2).take ((o_1.1).toNat)).drop 0).length) * 1≤140737488355328)).bind fun _=>(need (0<(((o_1.2).take ((o_1.1).toNat)).drop 0).length∨(sub b_1 (0:Int) (((b_1).length:Nat):Int)).length=0)).bind fun _ =>
  some ((sub b_1 (0:Int) (((b_1).length:Nat):Int))++(((o_1.2).take ((o_1.1).toNat)).drop 0))
def wR (F:Nat) (s_1:List (List Int)) (a_1:List Int) (rec:Int→Option (Unit⊕Int)) (v_1:Int):Option (Unit⊕Int) :=
  (bif decide (v_1<(((s_1).length:Nat):Int)) then (yW s_1 v_1).bind fun x_1 =>
  (bif (a_1==x_1) then some (.inr v_1) else
  rec (zG (v_1+(1:Int)))) else
  some (.inl ()))
def wH (F:Nat) (s_1:List (List Int)) (a_1:List Int):Nat→Int→Option (Unit⊕Int)
  | 0,_=>none
  | n+1,v_1=>wR F s_1 a_1 (wH F s_1 a_1 n) v_1
def uN (F:Nat) (s_1:List (List Int)) (a_1:List Int):Option Int :=
  (wH F s_1 a_1 F (0:Int)).bind fun (o_1:Unit⊕Int) =>
  (match o_1 with
  | (.inl q_1) =>
  some (-1:Int)
  | (.inr q_2) =>
  some q_2)
def uO (s_1:List (List Int)):Option (List (List Int)) :=
  (need (((([]:List (List Int))).length+(s_1).length) * 16≤140737488355328)).bind fun _ =>
  some ([]++s_1)
def zAE (F:Nat) (names_1:List (List Int)) (s_1:List Int):Option (Int×(List (List Int))×Int) :=
  (v8 F s_1).bind fun r_1 =>
  (bif (r_1 != (0:Int)) then some ((0:Int),names_1,r_1) else
  (uN F names_1 s_1).bind fun r_2 =>
  (bif decide (r_2≥(0:Int)) then some (r_2,names_1,(0:Int)) else
  (bif decide ((((names_1).length:Nat):Int)≥(1000:Int)) then some ((0:Int),names_1,(6:Int)) else
  (uO names_1).bind fun r_3=>(need (((r_3).length+(([s_1]:List (List Int))).length) * 16≤140737488355328)).bind fun _ =>
  some ((((names_1).length:Nat):Int),(r_3++([s_1]:List (List Int))),(0:Int)))))
def tK (s_1:List (zI)):Option (List (zI)) :=
  (need (((([]:List zI)).length+(s_1).length) * 16≤140737488355328)).bind fun _ =>
  some ([]++s_1)
def vA (F:Nat) (s_1:List (zI)) (a_1:zI) (rec:Int→Option (Unit⊕Int)) (v_1:Int):Option (Unit⊕Int) :=
  (bif decide (v_1<(((s_1).length:Nat):Int)) then (yW s_1 v_1).bind fun x_1 =>
  (bif (decide (a_1=x_1)) then some (.inr v_1) else
  rec (zG (v_1+(1:Int)))) else
  some (.inl ()))
def wT (F:Nat) (s_1:List (zI)) (a_1:zI):Nat→Int→Option (Unit⊕Int)
  | 0,_=>none
  | n+1,v_1=>vA F s_1 a_1 (wT F s_1 a_1 n) v_1
def tA (F:Nat) (s_1:List (zI)) (a_1:zI):Option Int :=
  (wT F s_1 a_1 F (0:Int)).bind fun (o_1:Unit⊕Int) =>
  (match o_1 with
  | (.inl q_1) =>
  some (-1:Int)
  | (.inr q_2) =>
  some q_2)
def tP (F:Nat) (names_1:List (List Int)) (stacks_1:List (zI)) (l_1:List (List Int)) (rec:Int→(List (List Int))→Int→(List zI)→Option ((Int×(List (List Int))×(List zI))⊕(Int×(List (List Int))×(List (zI))×Int))) (at__1:Int) (n_1:List (List Int)) (v_1:Int) (row_1:List zI):Option ((Int×(List (List Int))×(List zI))⊕(Int×(List (List Int))×(List (zI))×Int)) :=
  (bif decide (v_1<(((l_1).length:Nat):Int)) then (yW l_1 v_1).bind fun x_1 =>
  (zAE F n_1 x_1).bind fun r_3 =>
  (bif (r_3.2.2 != (0:Int)) then some (.inr ((0:Int),names_1,stacks_1,r_3.2.2)) else
  (tA F row_1 (⟨at__1,r_3.1⟩:zI)).bind fun r_4 =>
  (bif decide (r_4≥(0:Int)) then rec r_4 r_3.2.1 (zG (v_1+(1:Int))) row_1 else
  (bif decide ((((row_1).length:Nat):Int)≥(1000:Int)) then some (.inr ((0:Int),names_1,stacks_1,(6:Int))) else
  (need (((row_1).length+(([(⟨at__1,r_3.1⟩:zI)]:List zI)).length) * 16≤140737488355328)).bind fun _ =>
  rec (((row_1).length:Nat):Int) r_3.2.1 (zG (v_1+(1:Int))) (row_1++([(⟨at__1,r_3.1⟩:zI)]:List zI))))) else
  some (.inl (at__1,n_1,row_1)))
def t3 (F:Nat) (names_1:List (List Int)) (stacks_1:List (zI)) (l_1:List (List Int)):Nat→Int→(List (List Int))→Int→(List zI)→Option ((Int×(List (List Int))×(List zI))⊕(Int×(List (List Int))×(List (zI))×Int))
  | 0,_,_,_,_=>none
  | n+1,at__1,n_1,v_1,row_1=>tP F names_1 stacks_1 l_1 (t3 F names_1 stacks_1 l_1 n) at__1 n_1 v_1 row_1
def pR (F:Nat) (names_1:List (List Int)) (stacks_1:List (zI)) (l_1:List (List Int)):Option (Int×(List (List Int))×(List (zI))×Int) :=
  (tS F l_1).bind fun r_1 =>
  (bif (r_1 != (0:Int)) then some ((0:Int),names_1,stacks_1,r_1) else
  (tK stacks_1).bind fun r_2 =>
  (t3 F names_1 stacks_1 l_1 F (-1:Int) names_1 (0:Int) r_2).bind fun (o_1:(Int×(List (List Int))×(List zI))⊕(Int×(List (List Int))×(List (zI))×Int)) =>
  (match o_1 with
  | (.inl q_1) =>
  some (q_1.1,q_1.2.1,q_1.2.2,(0:Int))
  | (.inr q_2) =>
  some q_2))
def zAu (F:Nat) (names_1:List (List Int)) (stacks_1:List (zI)) (e_1:zF):Option ((List (Int))×(List (List Int))×(List (zI))×Int) :=
  (uE F names_1 stacks_1).bind fun r_1 =>
  (bif (r_1 != (0:Int)) then some ([],[],[],(1:Int)) else
  (uX F e_1).bind fun r_2 =>
  (bif (r_2 != (0:Int)) then some ([],[],[],r_2) else
  (n7 e_1.Kind).bind fun r_3 =>
  (w4 F [] e_1.Kind).bind fun r_4=>(w4 F r_4 e_1.At).bind fun r_5 =>
  (((bif r_3.1 then (zAE F names_1 e_1.Name).bind fun r_6 =>
  (bif (r_6.2.2 != (0:Int)) then some (.inr ([],[],[],r_6.2.2)) else
  (w4 F r_5 r_6.1).bind fun r_7 =>
  some (.inl (r_6.2.1,r_7))) else
  some (.inl (names_1,r_5))):Option (((List (List Int))×(List Int))⊕((List (Int))×(List (List Int))×(List (zI))×Int)))).bind fun (o_1:((List (List Int))×(List Int))⊕((List (Int))×(List (List Int))×(List (zI))×Int)) =>
  (match o_1 with
  | (.inl q_1) =>
  (((bif r_3.2.1 then (w4 F q_1.2 e_1.N).bind fun r_8 =>
  some r_8 else
  some q_1.2):Option (List Int))).bind fun (o_2:(List Int)) =>
  (((bif r_3.2.2.1 then (w4 F o_2 e_1.M).bind fun r_9 =>
  some r_9 else
  some o_2):Option (List Int))).bind fun (o_3:(List Int)) =>
  (((bif r_3.2.2.2 then (pR F q_1.1 stacks_1 e_1.Stack).bind fun r_10 =>
  (bif (r_10.2.2.2 != (0:Int)) then some (.inr ([],[],[],r_10.2.2.2)) else
  (w4 F o_3 r_10.1).bind fun r_11 =>
  some (.inl (r_10.2.1,r_10.2.2.1,r_11))) else
  some (.inl (q_1.1,stacks_1,o_3))):Option (((List (List Int))×(List zI)×(List Int))⊕((List (Int))×(List (List Int))×(List (zI))×Int)))).bind fun (o_4:((List (List Int))×(List zI)×(List Int))⊕((List (Int))×(List (List Int))×(List (zI))×Int)) =>
  (match o_4 with
  | (.inl q_3) =>
  some (q_3.2.2,q_3.1,q_3.2.1,(0:Int))
  | (.inr q_4) =>
  some q_4)
  | (.inr q_2) =>
  some q_2)))
def qD (s_1:List (Int)):Option (List (Int)) :=
  (need (((([]:List Int)).length+(s_1).length) * 1≤140737488355328)).bind fun _ =>
  some ([]++s_1)
def pB (F:Nat) (b_1:List (Int)) (r_2:(List (List (Int)))×Int) (r_3:(List (Int))) (rec:Int→Int→Int→Option (Int×Int)) (room_1:Int) (lost_1:Int) (c_1:Int):Option (Int×Int) :=
  (bif decide (((((r_3++b_1)).length:Nat):Int)>room_1) then (yW r_2.1 lost_1).bind fun x_1=>(w4 F [] (((x_1).length:Nat):Int)).bind fun r_4=>(yW r_2.1 lost_1).bind fun x_2 =>
  rec (zG (room_1+(zG ((((r_4).length:Nat):Int)+(((x_2).length:Nat):Int))))) (zG (lost_1+(1:Int))) (zG (c_1+(zG ((((r_4).length:Nat):Int)+(((x_2).length:Nat):Int))))) else
  some (lost_1,c_1))
def n9 (F:Nat) (b_1:List (Int)) (r_2:(List (List (Int)))×Int) (r_3:(List (Int))):Nat→Int→Int→Int→Option (Int×Int)
  | 0,_,_,_=>none
  | n+1,room_1,lost_1,c_1=>pB F b_1 r_2 r_3 (n9 F b_1 r_2 r_3 n) room_1 lost_1 c_1
def zDZ (F:Nat) (r_1:zB) (b_1:List (Int)):Option (zB×Int×Int) :=
  (kC F r_1).bind fun r_2 =>
  (bif (r_2.2 != (0:Int)) then some (r_1,(0:Int),r_2.2) else
  (w4 F [] (((b_1).length:Nat):Int)).bind fun r_3=>(need (((r_3).length+(b_1).length) * 1≤140737488355328)).bind fun _ =>
  (bif (decide ((((b_1).length:Nat):Int)>(2000:Int))||decide (((((r_3++b_1)).length:Nat):Int)>(((r_1.Data).length:Nat):Int))) then some (r_1,(0:Int),(7:Int)) else
  (bif ((r_1.Policy==(2:Int))&&decide (((((r_3++b_1)).length:Nat):Int)>(zG ((((r_1.Data).length:Nat):Int) - (zG (r_1.End - r_1.Start)))))) then some (r_1,(0:Int),(6:Int)) else
  (bif (decide ((zG (r_1.End+((((r_3++b_1)).length:Nat):Int)))>(1000000000000000:Int))||decide (r_1.Next≥(1000000000000000:Int))) then some (r_1,(0:Int),(2:Int)) else
  (n9 F b_1 r_2 r_3 F (zG ((((r_1.Data).length:Nat):Int) - (zG (r_1.End - r_1.Start)))) (0:Int) r_1.Start).bind fun (o_1:(Int×Int)) =>
  (qD r_1.Data).bind fun r_5 =>
  (need ((((r_5).length:Nat):Int)≠(0:Int))).bind fun _=>(need ((0:Int)≤(zX r_1.End (((r_5).length:Nat):Int))∧(zX r_1.End (((r_5).length:Nat):Int))≤(((r_5).length:Nat):Int))).bind fun _=>(need (((zX r_1.End (((r_5).length:Nat):Int)).toNat)≤((r_5).length)∧((r_5).length)≤(r_5).length)).bind fun _ =>
  (need ((((min ((r_3++b_1)).length ((r_5).length - (zX r_1.End (((r_5).length:Nat):Int)).toNat)):Nat):Int)≤((((r_3++b_1)).length:Nat):Int))).bind fun _=>(need ((min ((r_3++b_1)).length ((r_5).length - (zX r_1.End (((r_5).length:Nat):Int)).toNat))≤(((r_3++b_1)).length)∧(((r_3++b_1)).length)≤((r_3++b_1)).length)).bind fun _=>(need (0≤((r_5).length)∧((r_5).length)≤((cpy r_5 ((zX r_1.End (((r_5).length:Nat):Int)).toNat) ((r_5).length) (r_3++b_1))).length)).bind fun _ =>
  some ((⟨r_1.Policy,(cpy (cpy r_5 ((zX r_1.End (((r_5).length:Nat):Int)).toNat) ((r_5).length) (r_3++b_1)) 0 ((r_5).length) ((((r_3++b_1)).take (((r_3++b_1)).length)).drop (min ((r_3++b_1)).length ((r_5).length - (zX r_1.End (((r_5).length:Nat):Int)).toNat)))),o_1.2,zG (r_1.End+((((r_3++b_1)).length:Nat):Int)),zG (r_1.First+o_1.1),zG (r_1.Next+(1:Int))⟩:zB),o_1.1,(0:Int))))))
def uY (F:Nat) (p_1:zA) (e_1:zF):Option (zA×Int) :=
  (v5 F p_1).bind fun r_1 =>
  (bif (r_1 != (0:Int)) then some ((⟨(⟨(0:Int),([]:List Int),(0:Int)⟩:zC),[],[],(⟨(0:Int),[],(0:Int),(0:Int),(0:Int),(0:Int)⟩:zB),(0:Int),(0:Int)⟩:zA),r_1) else
  (uX F e_1).bind fun r_2 =>
  (bif (r_2 != (0:Int)) then some ((⟨(⟨(0:Int),([]:List Int),(0:Int)⟩:zC),[],[],(⟨(0:Int),[],(0:Int),(0:Int),(0:Int),(0:Int)⟩:zB),(0:Int),(0:Int)⟩:zA),r_2) else
  (bif decide (e_1.At<p_1.Last) then some ((⟨(⟨(0:Int),([]:List Int),(0:Int)⟩:zC),[],[],(⟨(0:Int),[],(0:Int),(0:Int),(0:Int),(0:Int)⟩:zB),(0:Int),(0:Int)⟩:zA),(11:Int)) else
  (zAu F p_1.Names p_1.Stacks e_1).bind fun r_3 =>
  (bif (r_3.2.2.2 != (0:Int)) then some ((⟨(⟨(0:Int),([]:List Int),(0:Int)⟩:zC),[],[],(⟨(0:Int),[],(0:Int),(0:Int),(0:Int),(0:Int)⟩:zB),(0:Int),(0:Int)⟩:zA),r_3.2.2.2) else
  (zDZ F p_1.Ring r_3.1).bind fun r_4 =>
  (bif (r_4.2.2 != (0:Int)) then some ((⟨(⟨(0:Int),([]:List Int),(0:Int)⟩:zC),[],[],(⟨(0:Int),[],(0:Int),(0:Int),(0:Int),(0:Int)⟩:zB),(0:Int),(0:Int)⟩:zA),r_4.2.2) else
  some ((⟨p_1.Thread,r_3.2.1,r_3.2.2.1,r_4.1,e_1.At,p_1.Sent⟩:zA),(0:Int)))))))
structure z6 where
  Thread:Int
  Serial:Int
  Lost:Int
  Events:List (zF)
  deriving DecidableEq,Inhabited
def zE5 (s:z6):List AV:=[.int .i64 s.Thread,.int .i64 s.Serial,.int .i64 s.Lost,.sl false 6 (List.map zJ s.Events)]
def zM (s:z6):AV:=.agg (zE5 s)
def t8 (F:Nat) (p_1:zA) (rec:(List zF)→Int→Int→(List z6)→Option (List z6)) (l_1:List zF) (serial_1:Int) (lost_1:Int) (row_1:List z6):Option (List z6) :=
  (bif decide ((((l_1).length:Nat):Int)>(0:Int)) then (need ((0:Int)≤(wE (((l_1).length:Nat):Int) (1000:Int))∧(wE (((l_1).length:Nat):Int) (1000:Int))≤(((l_1).length:Nat):Int))).bind fun _=>(need (((row_1).length+(([(⟨p_1.Thread.Id,serial_1,lost_1,sub l_1 (0:Int) (wE (((l_1).length:Nat):Int) (1000:Int))⟩:z6)]:List z6)).length) * 48≤140737488355328)).bind fun _ =>
  (need ((0:Int)≤(wE (((l_1).length:Nat):Int) (1000:Int))∧(wE (((l_1).length:Nat):Int) (1000:Int))≤(((l_1).length:Nat):Int))).bind fun _ =>
  rec (sub l_1 (wE (((l_1).length:Nat):Int) (1000:Int)) (((l_1).length:Nat):Int)) (zG (serial_1+(wE (((l_1).length:Nat):Int) (1000:Int)))) (0:Int) (row_1++([(⟨p_1.Thread.Id,serial_1,lost_1,sub l_1 (0:Int) (wE (((l_1).length:Nat):Int) (1000:Int))⟩:z6)]:List z6)) else
  some row_1)
def qF (F:Nat) (p_1:zA):Nat→(List zF)→Int→Int→(List z6)→Option (List z6)
  | 0,_,_,_,_=>none
  | n+1,l_1,serial_1,lost_1,row_1=>t8 F p_1 (qF F p_1 n) l_1 serial_1 lost_1 row_1
def kH (F:Nat) (p_1:zA):Option ((List (z6))×zA) :=
  (v7 F p_1).bind fun r_1 =>
  (bif (r_1.2 != (0:Int)) then some ([],p_1) else
  (qF F p_1 F r_1.1 p_1.Ring.First (zG (p_1.Ring.First - p_1.Sent)) []).bind fun (o_1:(List z6)) =>
  (pL F p_1.Ring).bind fun r_2 =>
  some (o_1,(⟨p_1.Thread,p_1.Names,p_1.Stacks,r_2.2,p_1.Last,r_2.2.Next⟩:zA)))
def tT (F:Nat) (p_1:zA):Option Int :=
  (v5 F p_1).bind fun r_1 =>
  (bif (r_1 != (0:Int)) then some (0:Int) else
  some (zG (p_1.Ring.First - p_1.Sent)))
def kQ (F:Nat) (rec:Int→Int→(List Int)→Int→(List (List Int))→(List zI)→Int→(List Int)→Int→Int→Int→Int→Int→Int→Int→(List Int)→Int→(List (List Int))→(List zI)→Int→(List Int)→Int→Int→Int→Int→Int→Int→Option ((Int×(List Int)×Int×(List (List Int))×(List zI)×Int×(List Int)×Int×Int×Int×Int×Int×Int×Int×(List Int)×Int×(List (List Int))×(List zI)×Int×(List Int)×Int×Int×Int×Int×Int×Int)⊕Bool)) (at__1:Int) (c_1:Int) (c_2:List Int) (c_3:Int) (c_4:List (List Int)) (c_5:List zI) (c_6:Int) (c_7:List Int) (c_8:Int) (c_9:Int) (c_10:Int) (c_11:Int) (c_12:Int) (c_13:Int) (c_14:Int) (c_15:List Int) (c_16:Int) (c_17:List (List Int)) (c_18:List zI) (c_19:Int) (c_20:List Int) (c_21:Int) (c_22:Int) (c_23:Int) (c_24:Int) (c_25:Int) (c_26:Int):Option ((Int×(List Int)×Int×(List (List Int))×(List zI)×Int×(List Int)×Int×Int×Int×Int×Int×Int×Int×(List Int)×Int×(List (List Int))×(List zI)×Int×(List Int)×Int×Int×Int×Int×Int×Int)⊕Bool) :=
  (bif decide (at__1≤(4:Int)) then (nN at__1).bind fun r_3=>(uY F (⟨(⟨c_1,c_2,c_3⟩:zC),c_4,c_5,(⟨c_6,c_7,c_8,c_9,c_10,c_11⟩:zB),c_12,c_13⟩:zA) r_3).bind fun r_4 =>
  (nN at__1).bind fun r_5=>(uY F (⟨(⟨c_14,c_15,c_16⟩:zC),c_17,c_18,(⟨c_19,c_20,c_21,c_22,c_23,c_24⟩:zB),c_25,c_26⟩:zA) r_5).bind fun r_6 =>
  (bif ((r_4.2 != (0:Int))||(r_6.2 != (0:Int))) then some (.inr false) else
  rec (zG (at__1+(1:Int))) r_4.1.Thread.Id r_4.1.Thread.Name r_4.1.Thread.Domain r_4.1.Names r_4.1.Stacks r_4.1.Ring.Policy r_4.1.Ring.Data r_4.1.Ring.Start r_4.1.Ring.End r_4.1.Ring.First r_4.1.Ring.Next r_4.1.Last r_4.1.Sent r_6.1.Thread.Id r_6.1.Thread.Name r_6.1.Thread.Domain r_6.1.Names r_6.1.Stacks r_6.1.Ring.Policy r_6.1.Ring.Data r_6.1.Ring.Start r_6.1.Ring.End r_6.1.Ring.First r_6.1.Ring.Next r_6.1.Last r_6.1.Sent) else
  some (.inl (c_1,c_2,c_3,c_4,c_5,c_6,c_7,c_8,c_9,c_10,c_11,c_12,c_13,c_14,c_15,c_16,c_17,c_18,c_19,c_20,c_21,c_22,c_23,c_24,c_25,c_26)))
def p7 (F:Nat):Nat→Int→Int→(List Int)→Int→(List (List Int))→(List zI)→Int→(List Int)→Int→Int→Int→Int→Int→Int→Int→(List Int)→Int→(List (List Int))→(List zI)→Int→(List Int)→Int→Int→Int→Int→Int→Int→Option ((Int×(List Int)×Int×(List (List Int))×(List zI)×Int×(List Int)×Int×Int×Int×Int×Int×Int×Int×(List Int)×Int×(List (List Int))×(List zI)×Int×(List Int)×Int×Int×Int×Int×Int×Int)⊕Bool)
  | 0,_,_,_,_,_,_,_,_,_,_,_,_,_,_,_,_,_,_,_,_,_,_,_,_,_,_,_=>none
  | n+1,at__1,c_1,c_2,c_3,c_4,c_5,c_6,c_7,c_8,c_9,c_10,c_11,c_12,c_13,c_14,c_15,c_16,c_17,c_18,c_19,c_20,c_21,c_22,c_23,c_24,c_25,c_26=>kQ F (p7 F n) at__1 c_1 c_2 c_3 c_4 c_5 c_6 c_7 c_8 c_9 c_10 c_11 c_12 c_13 c_14 c_15 c_16 c_17 c_18 c_19 c_20 c_21 c_22 c_23 c_24 c_25 c_26
def zAl (F:Nat):Option Bool :=
  (u9 F (⟨(3:Int),([109,97,105,110]:List Int),(0:Int)⟩:zC) (16:Int) (1:Int)).bind fun r_1 =>
  (u9 F (⟨(3:Int),([109,97,105,110]:List Int),(0:Int)⟩:zC) (16:Int) (2:Int)).bind fun r_2 =>
  (bif ((r_1.2 != (0:Int))||(r_2.2 != (0:Int))) then some false else
  (p7 F F (1:Int) r_1.1.Thread.Id r_1.1.Thread.Name r_1.1.Thread.Domain r_1.1.Names r_1.1.Stacks r_1.1.Ring.Policy r_1.1.Ring.Data r_1.1.Ring.Start r_1.1.Ring.End r_1.1.Ring.First r_1.1.Ring.Next r_1.1.Last r_1.1.Sent r_2.1.Thread.Id r_2.1.Thread.Name r_2.1.Thread.Domain r_2.1.Names r_2.1.Stacks r_2.1.Ring.Policy r_2.1.Ring.Data r_2.1.Ring.Start r_2.1.Ring.End r_2.1.Ring.First r_2.1.Ring.Next r_2.1.Last r_2.1.Sent).bind fun (o_1:(Int×(List Int)×Int×(List (List Int))×(List zI)×Int×(List Int)×Int×Int×Int×Int×Int×Int×Int×(List Int)×Int×(List (List Int))×(List zI)×Int×(List Int)×Int×Int×Int×Int×Int×Int)⊕Bool) =>
  (match o_1 with
  | (.inl q_1) =>
  (nN (5:Int)).bind fun r_7=>(uY F (⟨(⟨q_1.2.2.2.2.2.2.2.2.2.2.2.2.2.1,q_1.2.2.2.2.2.2.2.2.2.2.2.2.2.2.1,q_1.2.2.2.2.2.2.2.2.2.2.2.2.2.2.2.1⟩:zC),q_1.2.2.2.2.2.2.2.2.2.2.2.2.2.2.2.2.1,q_1.2.2.2.2.2.2.2.2.2.2.2.2.2.2.2.2.2.1,(⟨q_1.2.2.2.2.2.2.2.2.2.2.2.2.2.2.2.2.2.2.1,q_1.2.2.2.2.2.2.2.2.2.2.2.2.2.2.2.2.2.2.2.1,q_1.2.2.2.2.2.2.2.2.2.2.2.2.2.2.2.2.2.2.2.2.1,q_1.2.2.2.2.2.2.2.2.2.2.2.2.2.2.2.2.2.2.2.2.2.1,q_1.2.2.2.2.2.2.2.2.2.2.2.2.2.2.2.2.2.2.2.2.2.2.1,q_1.2.2.2.2.2.2.2.2.2.2.2.2.2.2.2.2.2.2.2.2.2.2.2.1⟩:zB),q_1.2.2.2.2.2.2.2.2.2.2.2.2.2.2.2.2.2.2.2.2.2.2.2.2.1,q_1.2.2.2.2.2.2.2.2.2.2.2.2.2.2.2.2.2.2.2.2.2.2.2.2.2⟩:zA) r_7).bind fun r_8 =>
  (nN (5:Int)).bind fun r_9=>(uY F (⟨(⟨q_1.1,q_1.2.1,q_1.2.2.1⟩:zC),q_1.2.2.2.1,q_1.2.2.2.2.1,(⟨q_1.2.2.2.2.2.1,q_1.2.2.2.2.2.2.1,q_1.2.2.2.2.2.2.2.1,q_1.2.2.2.2.2.2.2.2.1,q_1.2.2.2.2.2.2.2.2.2.1,q_1.2.2.2.2.2.2.2.2.2.2.1⟩:zB),q_1.2.2.2.2.2.2.2.2.2.2.2.1,q_1.2.2.2.2.2.2.2.2.2.2.2.2.1⟩:zA) r_9).bind fun r_10 =>
  (kH F r_10.1).bind fun r_11 =>
  (kH F (⟨(⟨q_1.2.2.2.2.2.2.2.2.2.2.2.2.2.1,q_1.2.2.2.2.2.2.2.2.2.2.2.2.2.2.1,q_1.2.2.2.2.2.2.2.2.2.2.2.2.2.2.2.1⟩:zC),q_1.2.2.2.2.2.2.2.2.2.2.2.2.2.2.2.2.1,q_1.2.2.2.2.2.2.2.2.2.2.2.2.2.2.2.2.2.1,(⟨q_1.2.2.2.2.2.2.2.2.2.2.2.2.2.2.2.2.2.2.1,q_1.2.2.2.2.2.2.2.2.2.2.2.2.2.2.2.2.2.2.2.1,q_1.2.2.2.2.2.2.2.2.2.2.2.2.2.2.2.2.2.2.2.2.1,q_1.2.2.2.2.2.2.2.2.2.2.2.2.2.2.2.2.2.2.2.2.2.1,q_1.2.2.2.2.2.2.2.2.2.2.2.2.2.2.2.2.2.2.2.2.2.2.1,q_1.2.2.2.2.2.2.2.2.2.2.2.2.2.2.2.2.2.2.2.2.2.2.2.1⟩:zB),q_1.2.2.2.2.2.2.2.2.2.2.2.2.2.2.2.2.2.2.2.2.2.2.2.2.1,q_1.2.2.2.2.2.2.2.2.2.2.2.2.2.2.2.2.2.2.2.2.2.2.2.2.2⟩:zA)).bind fun r_12 =>
  ((bif (r_10.2==(0:Int)) then (bif (r_8.2==(6:Int)) then ((tT F r_10.1).bind fun r_13=>bif (r_13==(1:Int)) then (bif ((((r_11.1).length:Nat):Int)==(1:Int)) then ((yW r_11.1 (0:Int)).bind fun x_1=>bif (x_1.Thread==(3:Int)) then ((yW r_11.1 (0:Int)).bind fun x_2=>bif (x_2.Serial==(1:Int)) then ((yW r_11.1 (0:Int)).bind fun x_3=>bif (x_3.Lost==(1:Int)) then ((yW r_11.1 (0:Int)).bind fun x_4=>bif ((((x_4.Events).length:Nat):Int)==(4:Int)) then (bif ((((r_12.1).length:Nat):Int)==(1:Int)) then ((yW r_12.1 (0:Int)).bind fun x_5=>bif (x_5.Serial==(0:Int)) then ((yW r_12.1 (0:Int)).bind fun x_6=>some ((((x_6.Events).length:Nat):Int)==(4:Int))) else (some false)) else (some false)) else (some false)) else (some false)) else (some false)) else (some false)) else (some false)) else (some false)) else (some false)) else (some false))).bind fun (p_1:Bool) =>
  some p_1
  | (.inr q_2) =>
  some q_2))
def wI (F:Nat) (c_1:Int) (rec:Int→Option (Unit⊕Bool)) (i_1:Int):Option (Unit⊕Bool) :=
  (bif decide (i_1<(((([95,46,58,47,60,62,36,42,126,45]:List Int)).length:Nat):Int)) then (yW ([95,46,58,47,60,62,36,42,126,45]:List Int) i_1).bind fun c_2 =>
  (bif (c_2==c_1) then some (.inr true) else
  rec (zG (i_1+(1:Int)))) else
  some (.inl ()))
def vR (F:Nat) (c_1:Int):Nat→Int→Option (Unit⊕Bool)
  | 0,_=>none
  | n+1,i_1=>wI F c_1 (vR F c_1 n) i_1
def nA (F:Nat) (c_1:Int):Option Bool :=
  (bif (bif decide (c_1≥(97:Int)) then (decide (c_1≤(122:Int))||(bif decide (c_1≥(65:Int)) then (decide (c_1≤(90:Int))||(decide (c_1≥(48:Int))&&decide (c_1≤(57:Int)))) else (decide (c_1≥(48:Int))&&decide (c_1≤(57:Int))))) else (bif decide (c_1≥(65:Int)) then (decide (c_1≤(90:Int))||(decide (c_1≥(48:Int))&&decide (c_1≤(57:Int)))) else (decide (c_1≥(48:Int))&&decide (c_1≤(57:Int))))) then some true else
  (vR F c_1 F (0:Int)).bind fun (o_1:Unit⊕Bool) =>
  (match o_1 with
  | (.inl q_1) =>
  some false
  | (.inr q_2) =>
  some q_2))
def u6 (F:Nat) (s_1:List Int) (rec:Int→Option (Unit⊕Int)) (i_1:Int):Option (Unit⊕Int) :=
  (bif decide (i_1<(((s_1).length:Nat):Int)) then (yW s_1 i_1).bind fun c_1=>(nA F c_1).bind fun r_1 =>
  (bif !r_1 then some (.inr (3:Int)) else
  rec (zG (i_1+(1:Int)))) else
  some (.inl ()))
def kZ (F:Nat) (s_1:List Int):Nat→Int→Option (Unit⊕Int)
  | 0,_=>none
  | n+1,i_1=>u6 F s_1 (kZ F s_1 n) i_1
def zAU (F:Nat) (s_1:List Int):Option Int :=
  (bif (decide ((((s_1).length:Nat):Int)<(1:Int))||decide ((((s_1).length:Nat):Int)>(40:Int))) then some (3:Int) else
  (kZ F s_1 F (0:Int)).bind fun (o_1:Unit⊕Int) =>
  (match o_1 with
  | (.inl q_1) =>
  some (0:Int)
  | (.inr q_2) =>
  some q_2))
def kL (F:Nat) (t_1:zC):Option Int :=
  (bif (decide (t_1.Id<(0:Int))||(decide (t_1.Id>(1000000000000000:Int))||(decide (t_1.Domain<(0:Int))||decide (t_1.Domain≥(8:Int))))) then some (2:Int) else
  (zAU F t_1.Name).bind fun r_1 =>
  some r_1)
def zC6 (size_1:Int) (p_1:Int):Option (zB×Int) :=
  (bif (decide (size_1<(16:Int))||decide (size_1>(65536:Int))) then some ((⟨(0:Int),[],(0:Int),(0:Int),(0:Int),(0:Int)⟩:zB),(2:Int)) else
  (bif ((p_1 != (1:Int))&&(p_1 != (2:Int))) then some ((⟨(0:Int),[],(0:Int),(0:Int),(0:Int),(0:Int)⟩:zB),(1:Int)) else
  (need ((0:Int)≤size_1∧((size_1).toNat) * 1≤281474976710656)).bind fun _ =>
  some ((⟨p_1,(List.replicate ((size_1).toNat) (0:Int)),(0:Int),(0:Int),(0:Int),(0:Int)⟩:zB),(0:Int))))
def zBN (F:Nat) (t_1:zC) (size_1:Int) (p_1:Int):Option (zA×Int) :=
  (kL F t_1).bind fun r_1 =>
  (bif (r_1 != (0:Int)) then some ((⟨(⟨(0:Int),([]:List Int),(0:Int)⟩:zC),[],[],(⟨(0:Int),[],(0:Int),(0:Int),(0:Int),(0:Int)⟩:zB),(0:Int),(0:Int)⟩:zA),r_1) else
  (zC6 size_1 p_1).bind fun r_2 =>
  (bif (r_2.2 != (0:Int)) then some ((⟨(⟨(0:Int),([]:List Int),(0:Int)⟩:zC),[],[],(⟨(0:Int),[],(0:Int),(0:Int),(0:Int),(0:Int)⟩:zB),(0:Int),(0:Int)⟩:zA),r_2.2) else
  some ((⟨t_1,[],[],r_2.1,(0:Int),(0:Int)⟩:zA),(0:Int))))
def xY (F:Nat) (a_1:List (List Int)) (b_1:List (List Int)) (rec:Int→Option (Unit⊕Bool)) (i_1:Int):Option (Unit⊕Bool) :=
  (bif decide (i_1<(((a_1).length:Nat):Int)) then (yW a_1 i_1).bind fun x_1=>(yW b_1 i_1).bind fun x_2 =>
  (bif !(x_1==x_2) then some (.inr false) else
  rec (zG (i_1+(1:Int)))) else
  some (.inl ()))
def tH (F:Nat) (a_1:List (List Int)) (b_1:List (List Int)):Nat→Int→Option (Unit⊕Bool)
  | 0,_=>none
  | n+1,i_1=>xY F a_1 b_1 (tH F a_1 b_1 n) i_1
def jL (F:Nat) (a_1:List (List Int)) (b_1:List (List Int)):Option Bool :=
  (bif ((((a_1).length:Nat):Int) != (((b_1).length:Nat):Int)) then some false else
  (tH F a_1 b_1 F (0:Int)).bind fun (o_1:Unit⊕Bool) =>
  (match o_1 with
  | (.inl q_1) =>
  some true
  | (.inr q_2) =>
  some q_2))
def xM (F:Nat) (a_1:List (zI)) (b_1:List (zI)) (rec:Int→Option (Unit⊕Bool)) (i_1:Int):Option (Unit⊕Bool) :=
  (bif decide (i_1<(((a_1).length:Nat):Int)) then (yW a_1 i_1).bind fun x_1=>(yW b_1 i_1).bind fun x_2 =>
  (bif (!(decide (x_1=x_2))) then some (.inr false) else
  rec (zG (i_1+(1:Int)))) else
  some (.inl ()))
def uS (F:Nat) (a_1:List (zI)) (b_1:List (zI)):Nat→Int→Option (Unit⊕Bool)
  | 0,_=>none
  | n+1,i_1=>xM F a_1 b_1 (uS F a_1 b_1 n) i_1
def qM (F:Nat) (a_1:List (zI)) (b_1:List (zI)):Option Bool :=
  (bif ((((a_1).length:Nat):Int) != (((b_1).length:Nat):Int)) then some false else
  (uS F a_1 b_1 F (0:Int)).bind fun (o_1:Unit⊕Bool) =>
  (match o_1 with
  | (.inl q_1) =>
  some true
  | (.inr q_2) =>
  some q_2))
def vM (F:Nat) (r_1:zB) (rec:Int→(List Int)→Option (List Int)) (p_1:Int) (row_1:List Int):Option (List Int) :=
  (bif decide (p_1<r_1.End) then (need ((((r_1.Data).length:Nat):Int)≠(0:Int))).bind fun _=>(yW r_1.Data (zX p_1 (((r_1.Data).length:Nat):Int))).bind fun x_1=>(need (((row_1).length+(([x_1]:List Int)).length) * 1≤140737488355328)).bind fun _ =>
  rec (zG (p_1+(1:Int))) (row_1++([x_1]:List Int)) else
  some row_1)
def uK (F:Nat) (r_1:zB):Nat→Int→(List Int)→Option (List Int)
  | 0,_,_=>none
  | n+1,p_1,row_1=>vM F r_1 (uK F r_1 n) p_1 row_1
def qQ (F:Nat) (r_1:zB):Option (List (Int)) :=
  (uK F r_1 F r_1.Start []).bind fun (o_1:(List Int)) =>
  some o_1
def kX (u_1:Int):Option Int :=
  (bif ((zX u_1 (2:Int))==(1:Int)) then some (zG ((zG (0 - (zG (zCf .u64 u_1 (2:Int))))) - (1:Int))) else
  some (zG (zCf .u64 u_1 (2:Int))))
def tV (F:Nat) (b_1:List (Int)) (rec:Int→Int→Int→Option (Unit⊕(Int×Int×Int))) (u_1:Int) (unit_1:Int) (i_1:Int):Option (Unit⊕(Int×Int×Int)) :=
  (bif decide (i_1<(10:Int)) then (bif decide (i_1≥(((b_1).length:Nat):Int)) then some (.inr ((0:Int),(0:Int),(8:Int))) else
  (yW b_1 i_1).bind fun x_1 =>
  (bif ((i_1==(9:Int))&&decide ((z0 x_1)>(1:Int))) then some (.inr ((0:Int),(0:Int),(10:Int))) else
  (bif (decide ((z0 x_1)<(128:Int))&&(((z0 x_1)==(0:Int))&&decide (i_1>(0:Int)))) then some (.inr ((0:Int),(0:Int),(10:Int))) else
  (bif decide ((z0 x_1)<(128:Int)) then (kX (z0 (u_1+(z0 ((zX (z0 x_1) (128:Int)) * unit_1))))).bind fun r_1 =>
  some (.inr (r_1,zG (i_1+(1:Int)),(0:Int))) else
  rec (z0 (u_1+(z0 ((zX (z0 x_1) (128:Int)) * unit_1)))) (z0 (unit_1 * (128:Int))) (zG (i_1+(1:Int))))))) else
  some (.inl ()))
def jB (F:Nat) (b_1:List (Int)):Nat→Int→Int→Int→Option (Unit⊕(Int×Int×Int))
  | 0,_,_,_=>none
  | n+1,u_1,unit_1,i_1=>tV F b_1 (jB F b_1 n) u_1 unit_1 i_1
def zBD (F:Nat) (b_1:List (Int)):Option (Int×Int×Int) :=
  (jB F b_1 F (0:Int) (1:Int) (0:Int)).bind fun (o_1:Unit⊕(Int×Int×Int)) =>
  (match o_1 with
  | (.inl q_1) =>
  some ((0:Int),(0:Int),(10:Int))
  | (.inr q_2) =>
  some q_2)
def vZ (F:Nat) (rec:(List Int)→(List (List (Int)))→Option ((List (List (Int)))⊕((List (List (Int)))×Bool))) (b_2:List Int) (row_1:List (List (Int))):Option ((List (List (Int)))⊕((List (List (Int)))×Bool)) :=
  (bif decide ((((b_2).length:Nat):Int)>(0:Int)) then (zBD F b_2).bind fun r_1 =>
  (bif ((r_1.2.2 != (0:Int))||(decide (r_1.1<(0:Int))||(decide (r_1.1>(2000:Int))||decide (r_1.1>(zG ((((b_2).length:Nat):Int) - r_1.2.1)))))) then some (.inr ([],false)) else
  (need ((0:Int)≤r_1.2.1∧r_1.2.1≤(zG (r_1.2.1+r_1.1))∧(zG (r_1.2.1+r_1.1))≤(((b_2).length:Nat):Int))).bind fun _=>(need (((row_1).length+(([sub b_2 r_1.2.1 (zG (r_1.2.1+r_1.1))]:List (List (Int)))).length) * 24≤140737488355328)).bind fun _ =>
  (need ((0:Int)≤(zG (r_1.2.1+r_1.1))∧(zG (r_1.2.1+r_1.1))≤(((b_2).length:Nat):Int))).bind fun _ =>
  rec (sub b_2 (zG (r_1.2.1+r_1.1)) (((b_2).length:Nat):Int)) (row_1++([sub b_2 r_1.2.1 (zG (r_1.2.1+r_1.1))]:List (List (Int))))) else
  some (.inl row_1))
def qU (F:Nat):Nat→(List Int)→(List (List (Int)))→Option ((List (List (Int)))⊕((List (List (Int)))×Bool))
  | 0,_,_=>none
  | n+1,b_2,row_1=>vZ F (qU F n) b_2 row_1
def jQ (F:Nat) (b_1:List (Int)):Option ((List (List (Int)))×Bool) :=
  (qU F F b_1 []).bind fun (o_1:(List (List (Int)))⊕((List (List (Int)))×Bool)) =>
  (match o_1 with
  | (.inl q_1) =>
  some (q_1,true)
  | (.inr q_2) =>
  some q_2)
def zAk (F:Nat) (r_1:zB):Option Int :=
  (bif ((r_1.Policy != (1:Int))&&(r_1.Policy != (2:Int))) then some (1:Int) else
  (bif (decide ((((r_1.Data).length:Nat):Int)<(16:Int))||(decide ((((r_1.Data).length:Nat):Int)>(65536:Int))||(decide (r_1.Start<(0:Int))||(decide (r_1.Start>r_1.End)||(decide (r_1.End>(1000000000000000:Int))||(decide ((zG (r_1.End - r_1.Start))>(((r_1.Data).length:Nat):Int))||(decide (r_1.First<(0:Int))||(decide (r_1.First>r_1.Next)||decide (r_1.Next>(1000000000000000:Int)))))))))) then some (2:Int) else
  (qQ F r_1).bind fun r_2=>(jQ F r_2).bind fun r_3 =>
  (bif (!r_3.2||((((r_3.1).length:Nat):Int) != (zG (r_1.Next - r_1.First)))) then some (10:Int) else
  some (0:Int))))
def nV (F:Nat) (r_1:zB):Option ((List (List (Int)))×zB) :=
  (zAk F r_1).bind fun r_2 =>
  (bif (r_2 != (0:Int)) then some ([],r_1) else
  (qQ F r_1).bind fun r_3=>(jQ F r_3).bind fun r_4 =>
  some (r_4.1,(⟨r_1.Policy,r_1.Data,r_1.End,r_1.End,r_1.Next,r_1.Next⟩:zB)))
def w9 (F:Nat) (r_3:(List (List (Int)))×zB) (r_4:(List (List (Int)))×zB) (rec:Int→Option (Unit⊕Bool)) (i_1:Int):Option (Unit⊕Bool) :=
  (bif decide (i_1<(((r_3.1).length:Nat):Int)) then (yW r_3.1 i_1).bind fun x_1=>(yW r_4.1 i_1).bind fun x_2 =>
  (bif !(x_1==x_2) then some (.inr false) else
  rec (zG (i_1+(1:Int)))) else
  some (.inl ()))
def kV (F:Nat) (r_3:(List (List (Int)))×zB) (r_4:(List (List (Int)))×zB):Nat→Int→Option (Unit⊕Bool)
  | 0,_=>none
  | n+1,i_1=>w9 F r_3 r_4 (kV F r_3 r_4 n) i_1
def zA7 (F:Nat) (a_1:zA) (b_1:zA):Option Bool :=
  ((bif (!(decide (a_1.Thread=b_1.Thread))) then (some true) else ((jL F a_1.Names b_1.Names).bind fun r_1=>bif !r_1 then (some true) else ((qM F a_1.Stacks b_1.Stacks).bind fun r_2=>bif !r_2 then (some true) else (bif (a_1.Last != b_1.Last) then (some true) else (some (a_1.Sent != b_1.Sent))))))).bind fun (p_1:Bool) =>
  (bif p_1 then some false else
  (bif ((a_1.Ring.Policy != b_1.Ring.Policy)||(((((a_1.Ring.Data).length:Nat):Int) != (((b_1.Ring.Data).length:Nat):Int))||((a_1.Ring.Start != b_1.Ring.Start)||((a_1.Ring.End != b_1.Ring.End)||((a_1.Ring.First != b_1.Ring.First)||(a_1.Ring.Next != b_1.Ring.Next)))))) then some false else
  (nV F a_1.Ring).bind fun r_3 =>
  (nV F b_1.Ring).bind fun r_4 =>
  (bif ((((r_3.1).length:Nat):Int) != (((r_4.1).length:Nat):Int)) then some false else
  (kV F r_3 r_4 F (0:Int)).bind fun (o_1:Unit⊕Bool) =>
  (match o_1 with
  | (.inl q_1) =>
  some true
  | (.inr q_2) =>
  some q_2))))
def wD (F:Nat) (t_1:zC) (size_1:Int) (policy_1:Int):Option Bool :=
  (((zAl F).bind fun r_1=>bif !r_1 then (some true) else (some (decide ((((t_1.Name).length:Nat):Int)>(200:Int)))))).bind fun (p_1:Bool) =>
  (bif p_1 then (zAl F).bind fun r_2 =>
  some r_2 else
  (u9 F t_1 size_1 policy_1).bind fun r_3 =>
  (zBN F t_1 size_1 policy_1).bind fun r_4 =>
  (((vJ F t_1).bind fun r_5=>(kL F t_1).bind fun r_6=>bif (r_5 != r_6) then (some true) else (bif (r_3.2 != r_4.2) then (some true) else ((zA7 F r_3.1 r_4.1).bind fun r_7=>some (!r_7))))).bind fun (p_2:Bool) =>
  (bif p_2 then some false else
  ((bif (r_3.2 != (0:Int)) then (some true) else ((v5 F r_3.1).bind fun r_8=>bif (r_8==(0:Int)) then ((tT F r_3.1).bind fun r_9=>some (r_9==(0:Int))) else (some false)))).bind fun (p_3:Bool) =>
  some p_3))
structure jV where
  Drain:Bool
  E:zF
  deriving DecidableEq,Inhabited
end Go.Ab
