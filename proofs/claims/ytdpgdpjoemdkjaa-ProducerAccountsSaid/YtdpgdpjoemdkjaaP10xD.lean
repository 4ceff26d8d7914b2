/- Printed: the typed Lean functions of the Go functions, or the proofs that the Go functions meet them. No conditions but those that the theorems name. -/
import Derived.Test.YtdpgdpjoemdkjaaA35
import Derived.Test.YtdpgdpjoemdkjaaA41
namespace Go.Ab
open Go
set_option linter.unusedVariables false
structure zC where
  Id:Int
  Name:List Int
  Domain:Int
  deriving DecidableEq,Inhabited
def xV (s:zC):List AV:=[.int .i64 s.Id,.str s.Name,.int .i64 s.Domain]
def wF (s:zC):AV:=.agg (xV s)
def u9 (s_1:List Int) (c_1:Int):Option Int :=
  some (vB s_1 c_1)
def xG (s_1:List Int) (c_1:Int):Option Int :=
  (u9 s_1 c_1).bind fun r_1 =>
  some r_1
def jV (c_1:Int):Option Bool :=
  ((bif decide (c_1≥(97:Int)) then (bif decide (c_1≤(122:Int)) then (some true) else (bif decide (c_1≥(65:Int)) then (bif decide (c_1≤(90:Int)) then (some true) else (bif decide (c_1≥(48:Int)) then (bif decide (c_1≤(57:Int)) then (some true) else ((xG ([95,46,58,47,60,62,36,42,126,45]:List Int) c_1).bind fun r_1=>some (decide (r_1≥(0:Int))))) else ((xG ([95,46,58,47,60,62,36,42,126,45]:List Int) c_1).bind fun r_1=>some (decide (r_1≥(0:Int)))))) else (bif decide (c_1≥(48:Int)) then (bif decide (c_1≤(57:Int)) then (some true) else ((xG ([95,46,58,47,60,62,36,42,126,45]:List Int) c_1).bind fun r_1=>some (decide (r_1≥(0:Int))))) else ((xG ([95,46,58,47,60,62,36,42,126,45]:List Int) c_1).bind fun r_1=>some (decide (r_1≥(0:Int))))))) else (bif decide (c_1≥(65:Int)) then (bif decide (c_1≤(90:Int)) then (some true) else (bif decide (c_1≥(48:Int)) then (bif decide (c_1≤(57:Int)) then (some true) else ((xG ([95,46,58,47,60,62,36,42,126,45]:List Int) c_1).bind fun r_1=>some (decide (r_1≥(0:Int))))) else ((xG ([95,46,58,47,60,62,36,42,126,45]:List Int) c_1).bind fun r_1=>some (decide (r_1≥(0:Int)))))) else (bif decide (c_1≥(48:Int)) then (bif decide (c_1≤(57:Int)) then (some true) else ((xG ([95,46,58,47,60,62,36,42,126,45]:List Int) c_1).bind fun r_1=>some (decide (r_1≥(0:Int))))) else ((xG ([95,46,58,47,60,62,36,42,126,45]:List Int) c_1).bind fun r_1=>some (decide (r_1≥(0:Int)))))))).bind fun (p_1:Bool) =>
  some p_1
def uG (F:Nat) (s_1:List Int) (rec:Int→Option (Unit⊕Int)) (v_1:Int):Option (Unit⊕Int) :=
  (bif decide (v_1<(((s_1).length:Nat):Int)) then (yY s_1 v_1).bind fun c_1=>(jV c_1).bind fun r_1 =>
  (bif !r_1 then some (.inr (3:Int)) else
  rec (zH (v_1+(1:Int)))) else
  some (.inl ()))
def jC (F:Nat) (s_1:List Int):Nat→Int→Option (Unit⊕Int)
  | 0,_=>none
  | n+1,v_1=>uG F s_1 (jC F s_1 n) v_1
def uQ (F:Nat) (s_1:List Int):Option Int :=
  (bif ((s_1==([]:List Int))||decide ((((s_1).length:Nat):Int)>(40:Int))) then some (3:Int) else
  (jC F s_1 F (0:Int)).bind fun (o_1:Unit⊕Int) =>
  (match o_1 with
  | (.inl q_1) =>
  some (0:Int)
  | (.inr q_2) =>
  some q_2))
def tD (F:Nat) (t_1:zC):Option Int :=
  (bif (decide (t_1.Id<(0:Int))||(decide (t_1.Id>(1000000000000000:Int))||(decide (t_1.Domain<(0:Int))||decide (t_1.Domain≥(8:Int))))) then some (2:Int) else
  (uQ F t_1.Name).bind fun r_1 =>
  some r_1)
structure zI where
  c0:Int
  c1:Int
  deriving DecidableEq,Inhabited
def zEX (s:zI):List AV:=[.int .i64 s.c0,.int .i64 s.c1]
def zD (s:zI):AV:=.agg (zEX s)
structure zB where
  Policy:Int
  Data:List (Int)
  Start:Int
  End:Int
  First:Int
  Next:Int
  deriving DecidableEq,Inhabited
def zT (s:zB):List AV:=[.int .i64 s.Policy,.sl false 1 (List.map (AV.int .u8) s.Data),.int .i64 s.Start,.int .i64 s.End,.int .i64 s.First,.int .i64 s.Next]
def z5 (s:zB):AV:=.agg (zT s)
structure zA where
  Thread:zC
  Names:List (List Int)
  Stacks:List (zI)
  Ring:zB
  Last:Int
  Sent:Int
  deriving DecidableEq,Inhabited
def zK (s:zA):List AV:=[.int .i64 s.Thread.Id,.str s.Thread.Name,.int .i64 s.Thread.Domain,.sl false 1 (List.map AV.str s.Names),.sl false 2 (List.map zD s.Stacks),.int .i64 s.Ring.Policy,.sl false 1 (List.map (AV.int .u8) s.Ring.Data),.int .i64 s.Ring.Start,.int .i64 s.Ring.End,.int .i64 s.Ring.First,.int .i64 s.Ring.Next,.int .i64 s.Last,.int .i64 s.Sent]
def zO (s:zA):AV:=.agg (zK s)
def zCh (size_1:Int) (p_1:Int):Option (zB×Int) :=
  (bif (decide (size_1<(16:Int))||decide (size_1>(65536:Int))) then some ((⟨(0:Int),[],(0:Int),(0:Int),(0:Int),(0:Int)⟩:zB),(2:Int)) else
  (bif ((p_1 != (1:Int))&&(p_1 != (2:Int))) then some ((⟨(0:Int),[],(0:Int),(0:Int),(0:Int),(0:Int)⟩:zB),(1:Int)) else
  (need ((0:Int)≤size_1∧((size_1).toNat) * 1≤281474976710656)).bind fun _ =>
  some ((⟨p_1,(List.replicate ((size_1).toNat) (0:Int)),(0:Int),(0:Int),(0:Int),(0:Int)⟩:zB),(0:Int))))
def uS (F:Nat) (t_1:zC) (size_1:Int) (p_1:Int):Option (zA×Int) :=
  (tD F t_1).bind fun r_1 =>
  (bif (r_1 != (0:Int)) then some ((⟨(⟨(0:Int),([]:List Int),(0:Int)⟩:zC),[],[],(⟨(0:Int),[],(0:Int),(0:Int),(0:Int),(0:Int)⟩:zB),(0:Int),(0:Int)⟩:zA),r_1) else
  (zCh size_1 p_1).bind fun r_2 =>
  (bif (r_2.2 != (0:Int)) then some ((⟨(⟨(0:Int),([]:List Int),(0:Int)⟩:zC),[],[],(⟨(0:Int),[],(0:Int),(0:Int),(0:Int),(0:Int)⟩:zB),(0:Int),(0:Int)⟩:zA),r_2.2) else
  some ((⟨t_1,[],[],r_2.1,(0:Int),(0:Int)⟩:zA),(0:Int))))
structure zE where
  At:Int
  Kind:Int
  Name:List Int
  N:Int
  M:Int
  Stack:List (List Int)
  deriving DecidableEq,Inhabited
def zM (s:zE):List AV:=[.int .i64 s.At,.int .i64 s.Kind,.str s.Name,.int .i64 s.N,.int .i64 s.M,.sl false 1 (List.map AV.str s.Stack)]
def zF (s:zE):AV:=.agg (zM s)
def nT (at__1:Int):Option zE :=
  some (⟨at__1,(3:Int),([97]:List Int),(0:Int),(0:Int),[]⟩:zE)
def xK (F:Nat) (names_1:List (List Int)) (rec:Int→(List ((List Int)×Bool))→Option (Unit⊕Int)) (v_1:Int) (row_1:List ((List Int)×Bool)):Option (Unit⊕Int) :=
  (bif decide (v_1<(((names_1).length:Nat):Int)) then (yY names_1 v_1).bind fun x_1 =>
  (uQ F x_1).bind fun r_1 =>
  (bif (r_1 != (0:Int)) then some (.inr r_1) else
  (bif ((uA row_1 x_1).getD false) then some (.inr (4:Int)) else
  (need ((row_1).length<140737488355328)).bind fun _ =>
  rec (zH (v_1+(1:Int))) (uE row_1 x_1 true))) else
  some (.inl ()))
def w8 (F:Nat) (names_1:List (List Int)):Nat→Int→(List ((List Int)×Bool))→Option (Unit⊕Int)
  | 0,_,_=>none
  | n+1,v_1,row_1=>xK F names_1 (w8 F names_1 n) v_1 row_1
def tL (F:Nat) (names_1:List (List Int)):Option Int :=
  (w8 F names_1 F (0:Int) []).bind fun (o_1:Unit⊕Int) =>
  (match o_1 with
  | (.inl q_1) =>
  some (0:Int)
  | (.inr q_2) =>
  some q_2)
def v6 (F:Nat) (names_1:List (List Int)) (stacks_1:List (zI)) (rec:Int→(List (zI×Bool))→(List Int)→Option (Unit⊕Int)) (v_1:Int) (row_1:List (zI×Bool)) (row_2:List Int):Option (Unit⊕Int) :=
  (bif decide (v_1<(((stacks_1).length:Nat):Int)) then (yY stacks_1 v_1).bind fun x_1 =>
  (bif (decide (x_1.c0<(-1:Int))||(decide (x_1.c0≥v_1)||(decide (x_1.c1<(0:Int))||decide (x_1.c1≥(((names_1).length:Nat):Int))))) then some (.inr (2:Int)) else
  (bif ((uA row_1 x_1).getD false) then some (.inr (4:Int)) else
  (need ((row_1).length<140737488355328)).bind fun _ =>
  (yY row_2 v_1).bind fun x_2 =>
  (((bif (x_1.c0 != (-1:Int)) then (yY ((row_2).set ((v_1).toNat) (1:Int)) v_1).bind fun x_3=>(yY ((row_2).set ((v_1).toNat) (1:Int)) x_1.c0).bind fun x_4=>(yY ((row_2).set ((v_1).toNat) (1:Int)) v_1).bind fun x_5 =>
  some (((row_2).set ((v_1).toNat) (1:Int)).set ((v_1).toNat) (zH (x_3+x_4))) else
  some ((row_2).set ((v_1).toNat) (1:Int))):Option (List Int))).bind fun (o_2:(List Int)) =>
  (yY o_2 v_1).bind fun x_6 =>
  (bif decide (x_6>(32:Int)) then some (.inr (7:Int)) else
  rec (zH (v_1+(1:Int))) (uE row_1 x_1 true) o_2))) else
  some (.inl ()))
def tC (F:Nat) (names_1:List (List Int)) (stacks_1:List (zI)):Nat→Int→(List (zI×Bool))→(List Int)→Option (Unit⊕Int)
  | 0,_,_,_=>none
  | n+1,v_1,row_1,row_2=>v6 F names_1 stacks_1 (tC F names_1 stacks_1 n) v_1 row_1 row_2
def uW (F:Nat) (names_1:List (List Int)) (stacks_1:List (zI)):Option Int :=
  (bif (decide ((((names_1).length:Nat):Int)>(1000:Int))||decide ((((stacks_1).length:Nat):Int)>(1000:Int))) then some (7:Int) else
  (tL F names_1).bind fun r_1 =>
  (bif (r_1 != (0:Int)) then some r_1 else
  (need (((stacks_1).length) * 8≤281474976710656)).bind fun _ =>
  (tC F names_1 stacks_1 F (0:Int) [] (List.replicate ((stacks_1).length) (0:Int))).bind fun (o_1:Unit⊕Int) =>
  (match o_1 with
  | (.inl q_1) =>
  some (0:Int)
  | (.inr q_2) =>
  some q_2)))
def jS (r_1:zB):Option (List (Int)) :=
  (need ((0:Int)≤(zH (r_1.End - r_1.Start))∧((zH (r_1.End - r_1.Start)).toNat) * 1≤281474976710656)).bind fun _ =>
  (need ((((r_1.Data).length:Nat):Int)≠(0:Int))).bind fun _ =>
  (need ((0:Int)≤(z0 r_1.Start (((r_1.Data).length:Nat):Int))∧(z0 r_1.Start (((r_1.Data).length:Nat):Int))≤(((r_1.Data).length:Nat):Int))).bind fun _=>(need (0≤((zH (r_1.End - r_1.Start)).toNat)∧((zH (r_1.End - r_1.Start)).toNat)≤((List.replicate ((zH (r_1.End - r_1.Start)).toNat) (0:Int))).length)).bind fun _ =>
  (need ((((min (sub r_1.Data (z0 r_1.Start (((r_1.Data).length:Nat):Int)) (((r_1.Data).length:Nat):Int)).length ((zH (r_1.End - r_1.Start)).toNat - 0)):Nat):Int)≤(((zH (r_1.End - r_1.Start)).toNat:Nat):Int))).bind fun _=>(need ((min (sub r_1.Data (z0 r_1.Start (((r_1.Data).length:Nat):Int)) (((r_1.Data).length:Nat):Int)).length ((zH (r_1.End - r_1.Start)).toNat - 0))≤((zH (r_1.End - r_1.Start)).toNat)∧((zH (r_1.End - r_1.Start)).toNat)≤((cpy (List.replicate ((zH (r_1.End - r_1.Start)).toNat) (0:Int)) 0 ((zH (r_1.End - r_1.Start)).toNat) (sub r_1.Data (z0 r_1.Start (((r_1.Data).length:Nat):Int)) (((r_1.Data).length:Nat):Int)))).length)).bind fun _ =>
  some (cpy (cpy (List.replicate ((zH (r_1.End - r_1.Start)).toNat) (0:Int)) 0 ((zH (r_1.End - r_1.Start)).toNat) (sub r_1.Data (z0 r_1.Start (((r_1.Data).length:Nat):Int)) (((r_1.Data).length:Nat):Int))) (min (sub r_1.Data (z0 r_1.Start (((r_1.Data).length:Nat):Int)) (((r_1.Data).length:Nat):Int)).length ((zH (r_1.End - r_1.Start)).toNat - 0)) ((zH (r_1.End - r_1.Start)).toNat) r_1.Data)
def jP (u_1:Int):Option Int :=
  some (pK .i64 (zH (j3 .u64 u_1 (1:Int))) (zH (0 - (zH (wO .u64 u_1 (1:Int))))))
def tM (F:Nat) (b_1:List (Int)) (rec:Int→Int→Option (Unit⊕(Int×Int×Int))) (u_1:Int) (v_1:Int):Option (Unit⊕(Int×Int×Int)) :=
  (bif decide (v_1<(((b_1).length:Nat):Int)) then (yY b_1 v_1).bind fun x_1 =>
  (bif ((v_1==(9:Int))&&decide (x_1>(1:Int))) then some (.inr ((0:Int),(0:Int),(10:Int))) else
  (need ((0:Int)≤(zH ((7:Int) * v_1)))).bind fun _ =>
  (bif decide (x_1≥(128:Int)) then rec (ior .u64 u_1 (qM .u64 (vT (wO .u8 x_1 (127:Int))) (zH ((7:Int) * v_1)))) (zH (v_1+(1:Int))) else
  (bif ((x_1==(0:Int))&&decide (v_1>(0:Int))) then some (.inr ((0:Int),(0:Int),(10:Int))) else
  (jP (ior .u64 u_1 (qM .u64 (vT (wO .u8 x_1 (127:Int))) (zH ((7:Int) * v_1))))).bind fun r_1 =>
  some (.inr (r_1,zH (v_1+(1:Int)),(0:Int)))))) else
  some (.inl ()))
def tX (F:Nat) (b_1:List (Int)):Nat→Int→Int→Option (Unit⊕(Int×Int×Int))
  | 0,_,_=>none
  | n+1,u_1,v_1=>tM F b_1 (tX F b_1 n) u_1 v_1
def pR (F:Nat) (b_1:List (Int)):Option (Int×Int×Int) :=
  (tX F b_1 F (0:Int) (0:Int)).bind fun (o_1:Unit⊕(Int×Int×Int)) =>
  (match o_1 with
  | (.inl q_1) =>
  some ((0:Int),(0:Int),(8:Int))
  | (.inr q_2) =>
  some q_2)
def uU (F:Nat) (rec:(List Int)→(List (List (Int)))→Option ((List (List (Int)))⊕((List (List (Int)))×Bool))) (b_2:List Int) (row_1:List (List (Int))):Option ((List (List (Int)))⊕((List (List (Int)))×Bool)) :=
  (bif decide ((((b_2).length:Nat):Int)>(0:Int)) then (pR F b_2).bind fun r_1 =>
  (bif ((r_1.2.2 != (0:Int))||(decide (r_1.1<(0:Int))||(decide (r_1.1>(2000:Int))||decide ((zH (r_1.2.1+r_1.1))>(((b_2).length:Nat):Int))))) then some (.inr ([],false)) else
  (need ((0:Int)≤r_1.2.1∧r_1.2.1≤(zH (r_1.2.1+r_1.1))∧(zH (r_1.2.1+r_1.1))≤(((b_2).length:Nat):Int))).bind fun _=>(need (((row_1).length+(([sub b_2 r_1.2.1 (zH (r_1.2.1+r_1.1))]:List (List (Int)))).length) * 24≤140737488355328)).bind fun _ =>
  (need ((0:Int)≤(zH (r_1.2.1+r_1.1))∧(zH (r_1.2.1+r_1.1))≤(((b_2).length:Nat):Int))).bind fun _ =>
  rec (sub b_2 (zH (r_1.2.1+r_1.1)) (((b_2).length:Nat):Int)) (row_1++([sub b_2 r_1.2.1 (zH (r_1.2.1+r_1.1))]:List (List (Int))))) else
  some (.inl row_1))
def jT (F:Nat):Nat→(List Int)→(List (List (Int)))→Option ((List (List (Int)))⊕((List (List (Int)))×Bool))
  | 0,_,_=>none
  | n+1,b_2,row_1=>uU F (jT F n) b_2 row_1
def nB (F:Nat) (b_1:List (Int)):Option ((List (List (Int)))×Bool) :=
  (jT F F b_1 []).bind fun (o_1:(List (List (Int)))⊕((List (List (Int)))×Bool)) =>
  (match o_1 with
  | (.inl q_1) =>
  some (q_1,true)
  | (.inr q_2) =>
  some q_2)
def kD (F:Nat) (r_1:zB):Option ((List (List (Int)))×Int) :=
  (((bif ((r_1.Policy != (1:Int))&&(r_1.Policy != (2:Int))) then some (.inr ([],(1:Int))) else
  (bif (decide ((((r_1.Data).length:Nat):Int)<(16:Int))||decide ((((r_1.Data).length:Nat):Int)>(65536:Int))) then some (.inr ([],(2:Int))) else
  (bif decide (r_1.Start<(0:Int)) then some (.inr ([],(2:Int))) else
  (bif decide (r_1.End<r_1.Start) then some (.inr ([],(2:Int))) else
  (bif decide (r_1.End>(1000000000000000:Int)) then some (.inr ([],(2:Int))) else
  (bif decide ((zH (r_1.End - r_1.Start))>(((r_1.Data).length:Nat):Int)) then some (.inr ([],(2:Int))) else
  (bif decide (r_1.First<(0:Int)) then some (.inr ([],(2:Int))) else
  (bif decide (r_1.Next<r_1.First) then some (.inr ([],(2:Int))) else
  (bif decide (r_1.Next>(1000000000000000:Int)) then some (.inr ([],(2:Int))) else
  some (.inl ())))))))))):Option (Unit⊕((List (List (Int)))×Int)))).bind fun (o_1:Unit⊕((List (List (Int)))×Int)) =>
  (match o_1 with
  | (.inl q_1) =>
  (jS r_1).bind fun r_2=>(nB F r_2).bind fun r_3 =>
  (bif (!r_3.2||((((r_3.1).length:Nat):Int) != (zH (r_1.Next - r_1.First)))) then some ([],(10:Int)) else
  some (r_3.1,(0:Int)))
  | (.inr q_2) =>
  some q_2)
def pY (F:Nat) (r_1:zB):Option Int :=
  (kD F r_1).bind fun r_2 =>
  some r_2.2
def pP (F:Nat) (r_1:zB):Option ((List (List (Int)))×zB) :=
  (kD F r_1).bind fun r_2 =>
  (bif (r_2.2 != (0:Int)) then some ([],r_1) else
  some (r_2.1,(⟨r_1.Policy,r_1.Data,r_1.End,r_1.End,r_1.Next,r_1.Next⟩:zB)))
structure yB where
  b:List (Int)
  used:Int
  fault:Int
  deriving DecidableEq,Inhabited
def zZ (s:yB):List AV:=[.sl false 1 (List.map (AV.int .u8) s.b),.int .i64 s.used,.int .i64 s.fault]
def y6 (F:Nat) (x_1:yB):Option (Int×yB) :=
  (bif (x_1.fault != (0:Int)) then some ((0:Int),x_1) else
  (need ((0:Int)≤x_1.used∧x_1.used≤(((x_1.b).length:Nat):Int))).bind fun _=>(pR F (sub x_1.b x_1.used (((x_1.b).length:Nat):Int))).bind fun r_1 =>
  some (r_1.1,(⟨x_1.b,zH (x_1.used+r_1.2.1),r_1.2.2⟩:yB)))
def pA (k_1:Int):Option (Bool×Bool×Bool×Bool) :=
  some (((k_1==(1:Int))||((k_1==(3:Int))||(k_1==(4:Int)))),decide (k_1≥(4:Int)),((k_1==(9:Int))||(k_1==(11:Int))),((k_1==(5:Int))||(k_1==(11:Int))))
def y8 (F:Nat) (rec:Int→Int→(List (List Int))→Option (List (List Int))) (i_1:Int) (j_1:Int) (row_1:List (List Int)):Option (List (List Int)) :=
  (bif decide (i_1<j_1) then (yY row_1 j_1).bind fun x_1=>(yY row_1 i_1).bind fun x_2=>(yY row_1 i_1).bind fun x_3=>(yY ((row_1).set ((i_1).toNat) x_1) j_1).bind fun x_4 =>
  rec (zH (i_1+(1:Int))) (zH (j_1 - (1:Int))) (((row_1).set ((i_1).toNat) x_1).set ((j_1).toNat) x_2) else
  some row_1)
def y7 (F:Nat):Nat→Int→Int→(List (List Int))→Option (List (List Int))
  | 0,_,_,_=>none
  | n+1,i_1,j_1,row_1=>y8 F (y7 F n) i_1 j_1 row_1
def wC (F:Nat) (s_1:List (List Int)):Option (List (List Int)) :=
  (y7 F F (0:Int) (zH ((((s_1).length:Nat):Int) - (1:Int))) s_1).bind fun (o_1:(List (List Int))) =>
  some o_1
def wV (F:Nat) (names_1:List (List Int)) (stacks_1:List (zI)) (rec:Int→(List (List Int))→Option (List (List Int))) (i_2:Int) (row_1:List (List Int)):Option (List (List Int)) :=
  (bif (i_2 != (-1:Int)) then (yY stacks_1 i_2).bind fun x_1=>(yY names_1 x_1.c1).bind fun x_2=>(need (((row_1).length+(([x_2]:List (List Int))).length) * 16≤140737488355328)).bind fun _ =>
  (yY stacks_1 i_2).bind fun x_3 =>
  rec x_3.c0 (row_1++([x_2]:List (List Int))) else
  some row_1)
def qJ (F:Nat) (names_1:List (List Int)) (stacks_1:List (zI)):Nat→Int→(List (List Int))→Option (List (List Int))
  | 0,_,_=>none
  | n+1,i_2,row_1=>wV F names_1 stacks_1 (qJ F names_1 stacks_1 n) i_2 row_1
def q9 (F:Nat) (names_1:List (List Int)) (stacks_1:List (zI)) (i_1:Int):Option ((List (List Int))×Int) :=
  (uW F names_1 stacks_1).bind fun r_1 =>
  (bif (r_1 != (0:Int)) then some ([],(1:Int)) else
  (bif (decide (i_1<(-1:Int))||decide (i_1≥(((stacks_1).length:Nat):Int))) then some ([],(2:Int)) else
  (qJ F names_1 stacks_1 F i_1 []).bind fun (o_1:(List (List Int))) =>
  (wC F o_1).bind fun r_2=>(need ((r_2).length=(o_1).length)).bind fun _ =>
  some (r_2,(0:Int))))
structure zL where
  word:List Int
  name:Bool
  n:Bool
  m:Bool
  stack:Bool
  least:Int
  most:Int
  mLeast:Int
  mMost:Int
  deriving DecidableEq,Inhabited
def zX (s:zL):List AV:=[.str s.word,.bool s.name,.bool s.n,.bool s.m,.bool s.stack,.int .i64 s.least,.int .i64 s.most,.int .i64 s.mLeast,.int .i64 s.mMost]
def yO (s:zL):AV:=.agg (zX s)
def j1:Option (List (zL)) :=
  some ([(⟨([]:List Int),false,false,false,false,(0:Int),(0:Int),(0:Int),(0:Int)⟩:zL),(⟨([98,101,103,105,110]:List Int),true,false,false,false,(0:Int),(0:Int),(0:Int),(0:Int)⟩:zL),(⟨([101,110,100]:List Int),false,false,false,false,(0:Int),(0:Int),(0:Int),(0:Int)⟩:zL),(⟨([109,97,114,107]:List Int),true,false,false,false,(0:Int),(0:Int),(0:Int),(0:Int)⟩:zL),(⟨([99,111,117,110,116]:List Int),true,true,false,false,(-1000000000000000:Int),(1000000000000000:Int),(0:Int),(0:Int)⟩:zL),(⟨([115,97,109,112,108,101]:List Int),false,true,false,true,(1:Int),(1000000000000:Int),(0:Int),(0:Int)⟩:zL),(⟨([115,101,110,100]:List Int),false,true,false,false,(0:Int),(1000000000000000:Int),(0:Int),(0:Int)⟩:zL),(⟨([114,101,99,118]:List Int),false,true,false,false,(0:Int),(1000000000000000:Int),(0:Int),(0:Int)⟩:zL),(⟨([114,117,110]:List Int),false,true,false,false,(0:Int),(63:Int),(0:Int),(0:Int)⟩:zL),(⟨([115,116,111,112]:List Int),false,true,true,false,(0:Int),(3:Int),(0:Int),(1000000000000000:Int)⟩:zL),(⟨([119,97,107,101]:List Int),false,true,false,false,(0:Int),(1000000000000000:Int),(0:Int),(0:Int)⟩:zL),(⟨([97,108,108,111,99]:List Int),false,true,true,true,(0:Int),(1000000000000000:Int),(1:Int),(1000000000000:Int)⟩:zL),(⟨([102,114,101,101]:List Int),false,true,false,false,(0:Int),(1000000000000000:Int),(0:Int),(0:Int)⟩:zL)]:List zL)
def kG (k_1:Int):Option (zL×Bool) :=
  (j1 ).bind fun r_1 =>
  (bif (decide (k_1<(1:Int))||decide (k_1≥(((r_1).length:Nat):Int))) then some ((⟨([]:List Int),false,false,false,false,(0:Int),(0:Int),(0:Int),(0:Int)⟩:zL),false) else
  (yY r_1 k_1).bind fun x_1 =>
  some (x_1,true))
def v4 (F:Nat) (l_1:List (List Int)) (rec:Int→Option (Unit⊕Int)) (v_1:Int):Option (Unit⊕Int) :=
  (bif decide (v_1<(((l_1).length:Nat):Int)) then (yY l_1 v_1).bind fun x_1 =>
  (uQ F x_1).bind fun r_1 =>
  (bif (r_1 != (0:Int)) then some (.inr r_1) else
  rec (zH (v_1+(1:Int)))) else
  some (.inl ()))
def tZ (F:Nat) (l_1:List (List Int)):Nat→Int→Option (Unit⊕Int)
  | 0,_=>none
  | n+1,v_1=>v4 F l_1 (tZ F l_1 n) v_1
def qA (F:Nat) (l_1:List (List Int)):Option Int :=
  (bif decide ((((l_1).length:Nat):Int)>(32:Int)) then some (7:Int) else
  (tZ F l_1 F (0:Int)).bind fun (o_1:Unit⊕Int) =>
  (match o_1 with
  | (.inl q_1) =>
  some (0:Int)
  | (.inr q_2) =>
  some q_2))
def pB (F:Nat) (f_1:zL) (e_1:zE):Option Int :=
  (bif f_1.name then (uQ F e_1.Name).bind fun r_1 =>
  some r_1 else
  (qA F e_1.Stack).bind fun r_2 =>
  some r_2)
def tS (F:Nat) (e_1:zE):Option Int :=
  (bif (decide (e_1.At<(0:Int))||decide (e_1.At>(1000000000000:Int))) then some (2:Int) else
  (kG e_1.Kind).bind fun r_1 =>
  ((bif !r_1.2 then (some true) else (bif !r_1.1.name then (bif !(e_1.Name==([]:List Int)) then (some true) else (bif !r_1.1.n then (bif (e_1.N != (0:Int)) then (some true) else (bif !r_1.1.m then (bif (e_1.M != (0:Int)) then (some true) else (bif !r_1.1.stack then (some (decide ((((e_1.Stack).length:Nat):Int)>(0:Int)))) else (some false))) else (bif !r_1.1.stack then (some (decide ((((e_1.Stack).length:Nat):Int)>(0:Int)))) else (some false)))) else (bif !r_1.1.m then (bif (e_1.M != (0:Int)) then (some true) else (bif !r_1.1.stack then (some (decide ((((e_1.Stack).length:Nat):Int)>(0:Int)))) else (some false))) else (bif !r_1.1.stack then (some (decide ((((e_1.Stack).length:Nat):Int)>(0:Int)))) else (some false))))) else (bif !r_1.1.n then (bif (e_1.N != (0:Int)) then (some true) else (bif !r_1.1.m then (bif (e_1.M != (0:Int)) then (some true) else (bif !r_1.1.stack then (some (decide ((((e_1.Stack).length:Nat):Int)>(0:Int)))) else (some false))) else (bif !r_1.1.stack then (some (decide ((((e_1.Stack).length:Nat):Int)>(0:Int)))) else (some false)))) else (bif !r_1.1.m then (bif (e_1.M != (0:Int)) then (some true) else (bif !r_1.1.stack then (some (decide ((((e_1.Stack).length:Nat):Int)>(0:Int)))) else (some false))) else (bif !r_1.1.stack then (some (decide ((((e_1.Stack).length:Nat):Int)>(0:Int)))) else (some false))))))).bind fun (p_1:Bool) =>
  (bif p_1 then some (1:Int) else
  (pB F r_1.1 e_1).bind fun r_2 =>
  (bif (r_2 != (0:Int)) then some r_2 else
  (bif (r_1.1.n&&(decide (e_1.N<r_1.1.least)||decide (e_1.N>r_1.1.most))) then some (2:Int) else
  (bif ((e_1.Kind==(9:Int))&&((e_1.N != (2:Int))&&(e_1.M != (0:Int)))) then some (1:Int) else
  (bif (r_1.1.m&&(bif decide (e_1.M<r_1.1.mLeast) then ((e_1.Kind != (9:Int))||(e_1.N==(2:Int))) else (decide (e_1.M>r_1.1.mMost)&&((e_1.Kind != (9:Int))||(e_1.N==(2:Int)))))) then some (2:Int) else
  some (0:Int)))))))
def jQ (F:Nat) (names_1:List (List Int)) (stacks_1:List (zI)) (b_1:List (Int)):Option (zE×Int×Int) :=
  (uW F names_1 stacks_1).bind fun r_1 =>
  (bif (r_1 != (0:Int)) then some ((⟨(0:Int),(0:Int),([]:List Int),(0:Int),(0:Int),[]⟩:zE),(0:Int),(1:Int)) else
  (y6 F (⟨b_1,(0:Int),(0:Int)⟩:yB)).bind fun r_2 =>
  (y6 F r_2.2).bind fun r_3 =>
  (((bif ((r_3.2.fault==(0:Int))&&(decide (r_2.1<(1:Int))||decide (r_2.1>(12:Int)))) then some (10:Int) else
  some r_3.2.fault):Option Int)).bind fun (o_1:Int) =>
  (pA r_2.1).bind fun r_4 =>
  (((bif r_4.1 then (y6 F (⟨r_3.2.b,r_3.2.used,o_1⟩:yB)).bind fun r_5 =>
  some (r_5.1,r_5.2.b,r_5.2.used,r_5.2.fault) else
  some ((0:Int),r_3.2.b,r_3.2.used,o_1)):Option (Int×(List Int)×Int×Int))).bind fun (o_2:(Int×(List Int)×Int×Int)) =>
  (((bif r_4.2.1 then (y6 F (⟨o_2.2.1,o_2.2.2.1,o_2.2.2.2⟩:yB)).bind fun r_6 =>
  some (r_6.2.b,r_6.2.used,r_6.2.fault,r_6.1) else
  some (o_2.2.1,o_2.2.2.1,o_2.2.2.2,(0:Int))):Option ((List Int)×Int×Int×Int))).bind fun (o_3:((List Int)×Int×Int×Int)) =>
  (((bif r_4.2.2.1 then (y6 F (⟨o_3.1,o_3.2.1,o_3.2.2.1⟩:yB)).bind fun r_7 =>
  some (r_7.2.b,r_7.2.used,r_7.2.fault,r_7.1) else
  some (o_3.1,o_3.2.1,o_3.2.2.1,(0:Int))):Option ((List Int)×Int×Int×Int))).bind fun (o_4:((List Int)×Int×Int×Int)) =>
  (((bif r_4.2.2.2 then (y6 F (⟨o_4.1,o_4.2.1,o_4.2.2.1⟩:yB)).bind fun r_8 =>
  some (r_8.1,r_8.2.b,r_8.2.used,r_8.2.fault) else
  some ((-1:Int),o_4.1,o_4.2.1,o_4.2.2.1)):Option (Int×(List Int)×Int×Int))).bind fun (o_5:(Int×(List Int)×Int×Int)) =>
  (((bif (o_5.2.2.2 != (0:Int)) then some (.inr ((⟨(0:Int),(0:Int),([]:List Int),(0:Int),(0:Int),[]⟩:zE),(0:Int),o_5.2.2.2)) else
  (bif (r_4.1&&(decide (o_2.1<(0:Int))||decide (o_2.1≥(((names_1).length:Nat):Int)))) then some (.inr ((⟨(0:Int),(0:Int),([]:List Int),(0:Int),(0:Int),[]⟩:zE),(0:Int),(2:Int))) else
  (bif (decide (o_5.1<(-1:Int))||decide (o_5.1≥(((stacks_1).length:Nat):Int))) then some (.inr ((⟨(0:Int),(0:Int),([]:List Int),(0:Int),(0:Int),[]⟩:zE),(0:Int),(2:Int))) else
  some (.inl ())))):Option (Unit⊕(zE×Int×Int)))).bind fun (o_6:Unit⊕(zE×Int×Int)) =>
  (match o_6 with
  | (.inl q_1) =>
  (((bif r_4.1 then (yY names_1 o_2.1).bind fun x_1 =>
  some x_1 else
  some ([]:List Int)):Option (List Int))).bind fun (o_7:(List Int)) =>
  (q9 F names_1 stacks_1 o_5.1).bind fun r_9 =>
  (tS F (⟨r_3.1,r_2.1,o_7,o_3.2.2.2,o_4.2.2.2,r_9.1⟩:zE)).bind fun r_10 =>
  (bif (r_10 != (0:Int)) then some ((⟨(0:Int),(0:Int),([]:List Int),(0:Int),(0:Int),[]⟩:zE),(0:Int),(10:Int)) else
  some ((⟨r_3.1,r_2.1,o_7,o_3.2.2.2,o_4.2.2.2,r_9.1⟩:zE),o_5.2.2.1,(0:Int)))
  | (.inr q_2) =>
  some q_2))
def vC (F:Nat) (p_1:zA) (r_1:(List (List (Int)))×zB) (rec:Int→(List zE)→Option ((List zE)⊕((List (zE))×Bool))) (v_1:Int) (row_1:List zE):Option ((List zE)⊕((List (zE))×Bool)) :=
  (bif decide (v_1<(((r_1.1).length:Nat):Int)) then (yY r_1.1 v_1).bind fun x_1 =>
  (jQ F p_1.Names p_1.Stacks x_1).bind fun r_2 =>
  (bif ((r_2.2.2 != (0:Int))||(r_2.2.1 != (((x_1).length:Nat):Int))) then some (.inr ([],false)) else
  (need (((row_1).length+(([r_2.1]:List zE)).length) * 72≤140737488355328)).bind fun _ =>
  rec (zH (v_1+(1:Int))) (row_1++([r_2.1]:List zE))) else
  some (.inl row_1))
def uV (F:Nat) (p_1:zA) (r_1:(List (List (Int)))×zB):Nat→Int→(List zE)→Option ((List zE)⊕((List (zE))×Bool))
  | 0,_,_=>none
  | n+1,v_1,row_1=>vC F p_1 r_1 (uV F p_1 r_1 n) v_1 row_1
def qL (F:Nat) (p_1:zA):Option ((List (zE))×Bool) :=
  (pP F p_1.Ring).bind fun r_1 =>
  (uV F p_1 r_1 F (0:Int) []).bind fun (o_1:(List zE)⊕((List (zE))×Bool)) =>
  (match o_1 with
  | (.inl q_1) =>
  some (q_1,true)
  | (.inr q_2) =>
  some q_2)
def w7 (F:Nat) (r_4:(List (zE))×Bool) (rec:Bool→Int→Int→Option (Bool×Int)) (ok_1:Bool) (last_1:Int) (v_1:Int):Option (Bool×Int) :=
  (bif decide (v_1<(((r_4.1).length:Nat):Int)) then (yY r_4.1 v_1).bind fun x_1 =>
  rec (ok_1&&decide (x_1.At≥last_1)) x_1.At (zH (v_1+(1:Int))) else
  some (ok_1,last_1))
def vM (F:Nat) (r_4:(List (zE))×Bool):Nat→Bool→Int→Int→Option (Bool×Int)
  | 0,_,_,_=>none
  | n+1,ok_1,last_1,v_1=>w7 F r_4 (vM F r_4 n) ok_1 last_1 v_1
def uM (F:Nat) (p_1:zA):Option ((List (zE))×Int) :=
  (tD F p_1.Thread).bind fun r_1 =>
  (bif (r_1 != (0:Int)) then some ([],r_1) else
  (uW F p_1.Names p_1.Stacks).bind fun r_2 =>
  (bif (r_2 != (0:Int)) then some ([],r_2) else
  (pY F p_1.Ring).bind fun r_3 =>
  (bif (r_3 != (0:Int)) then some ([],r_3) else
  (bif (decide (p_1.Sent<(0:Int))||(decide (p_1.Sent>p_1.Ring.First)||(decide (p_1.Last<(0:Int))||decide (p_1.Last>(1000000000000:Int))))) then some ([],(2:Int)) else
  (qL F p_1).bind fun r_4 =>
  (vM F r_4 F r_4.2 (0:Int) (0:Int)).bind fun (o_1:(Bool×Int)) =>
  (bif (!o_1.1||decide (o_1.2>p_1.Last)) then some ([],(10:Int)) else
  some (r_4.1,(0:Int)))))))
def tV (F:Nat) (p_1:zA):Option Int :=
  (uM F p_1).bind fun r_1 =>
  some r_1.2
def kB (n_1:Int):Option Int :=
  some (pK .u64 (qM .u64 (vT n_1) (1:Int)) (vT (j3 .i64 n_1 (63:Int))))
def wQ (F:Nat) (rec:Int→Int→(List Int)→Option (Int×(List Int))) (size_1:Int) (u_1:Int) (row_1:List Int):Option (Int×(List Int)) :=
  (need ((0:Int)≤size_1∧size_1<((10:Nat):Int))).bind fun _=>((row_1)[(size_1).toNat]?).bind fun x_1 =>
  (bif decide (u_1<(128:Int)) then some (zH (size_1+(1:Int)),(row_1).set ((size_1).toNat) (jJ (wO .u64 u_1 (127:Int)))) else
  (need ((0:Int)≤(zH ((zH (size_1+(1:Int))) - (1:Int)))∧(zH ((zH (size_1+(1:Int))) - (1:Int)))<((10:Nat):Int))).bind fun _=>(((row_1).set ((size_1).toNat) (jJ (wO .u64 u_1 (127:Int))))[(zH ((zH (size_1+(1:Int))) - (1:Int))).toNat]?).bind fun x_2=>(need ((0:Int)≤(zH ((zH (size_1+(1:Int))) - (1:Int)))∧(zH ((zH (size_1+(1:Int))) - (1:Int)))<((10:Nat):Int))).bind fun _=>(((row_1).set ((size_1).toNat) (jJ (wO .u64 u_1 (127:Int))))[(zH ((zH (size_1+(1:Int))) - (1:Int))).toNat]?).bind fun x_3 =>
  rec (zH (size_1+(1:Int))) (j3 .u64 u_1 (7:Int)) (((row_1).set ((size_1).toNat) (jJ (wO .u64 u_1 (127:Int)))).set ((zH ((zH (size_1+(1:Int))) - (1:Int))).toNat) (ior .u8 x_2 (128:Int))))
def vI (F:Nat):Nat→Int→Int→(List Int)→Option (Int×(List Int))
  | 0,_,_,_=>none
  | n+1,size_1,u_1,row_1=>wQ F (vI F n) size_1 u_1 row_1
def y5 (F:Nat) (b_1:List (Int)) (n_1:Int):Option (List (Int)) :=
  (kB n_1).bind fun r_1 =>
  (vI F F (0:Int) r_1 (List.replicate 10 (0:Int))).bind fun (o_1:(Int×(List Int))) =>
  (need ((0:Int)≤o_1.1∧o_1.1≤((10:Nat):Int)∧10≤(o_1.2).length)).bind fun _=>(need (0≤((o_1.1).toNat)∧((o_1.1).toNat)≤(o_1.2).length)).bind fun _=>(need (((sub b_1 (0:Int) (((b_1).length:Nat):Int)).length+(((o_1.2).take ((o_1.1).toNat)).drop 0).length) * 1≤140737488355328)).bind fun _=>(need (0<(((o_1.2).take ((o_1.1).toNat)).drop 0).length∨(sub b_1 (0:Int) (((b_1).length:Nat):Int)).length=0)).bind fun _ =>
  some ((sub b_1 (0:Int) (((b_1).length:Nat):Int))++(((o_1.2).take ((o_1.1).toNat)).drop 0))
def yQ (F:Nat) (s_1:List (List Int)) (a_1:List Int) (rec:Int→Option (Unit⊕Int)) (v_1:Int):Option (Unit⊕Int) :=
  (bif decide (v_1<(((s_1).length:Nat):Int)) then (yY s_1 v_1).bind fun x_1 =>
  (bif (a_1==x_1) then some (.inr v_1) else
  rec (zH (v_1+(1:Int)))) else
  some (.inl ()))
def x6 (F:Nat) (s_1:List (List Int)) (a_1:List Int):Nat→Int→Option (Unit⊕Int)
  | 0,_=>none
  | n+1,v_1=>yQ F s_1 a_1 (x6 F s_1 a_1 n) v_1
def wW (F:Nat) (s_1:List (List Int)) (a_1:List Int):Option Int :=
  (x6 F s_1 a_1 F (0:Int)).bind fun (o_1:Unit⊕Int) =>
  (match o_1 with
  | (.inl q_1) =>
  some (-1:Int)
  | (.inr q_2) =>
  some q_2)
def vU (s_1:List (List Int)):Option (List (List Int)) :=
  (need (((([]:List (List Int))).length+(s_1).length) * 16≤140737488355328)).bind fun _ =>
  some ([]++s_1)
def kX (F:Nat) (names_1:List (List Int)) (s_1:List Int):Option (Int×(List (List Int))×Int) :=
  (uQ F s_1).bind fun r_1 =>
  (bif (r_1 != (0:Int)) then some ((0:Int),names_1,r_1) else
  (wW F names_1 s_1).bind fun r_2 =>
  (bif decide (r_2≥(0:Int)) then some (r_2,names_1,(0:Int)) else
  (bif decide ((((names_1).length:Nat):Int)≥(1000:Int)) then some ((0:Int),names_1,(6:Int)) else
  (vU names_1).bind fun r_3=>(need (((r_3).length+(([s_1]:List (List Int))).length) * 16≤140737488355328)).bind fun _ =>
  some ((((names_1).length:Nat):Int),(r_3++([s_1]:List (List Int))),(0:Int)))))
def v7 (s_1:List (zI)):Option (List (zI)) :=
  (need (((([]:List zI)).length+(s_1).length) * 16≤140737488355328)).bind fun _ =>
  some ([]++s_1)
def yV (F:Nat) (s_1:List (zI)) (a_1:zI) (rec:Int→Option (Unit⊕Int)) (v_1:Int):Option (Unit⊕Int) :=
  (bif decide (v_1<(((s_1).length:Nat):Int)) then (yY s_1 v_1).bind fun x_1 =>
  (bif (decide (a_1=x_1)) then some (.inr v_1) else
  rec (zH (v_1+(1:Int)))) else
  some (.inl ()))
def wM (F:Nat) (s_1:List (zI)) (a_1:zI):Nat→Int→Option (Unit⊕Int)
  | 0,_=>none
  | n+1,v_1=>yV F s_1 a_1 (wM F s_1 a_1 n) v_1
def w6 (F:Nat) (s_1:List (zI)) (a_1:zI):Option Int :=
  (wM F s_1 a_1 F (0:Int)).bind fun (o_1:Unit⊕Int) =>
  (match o_1 with
  | (.inl q_1) =>
  some (-1:Int)
  | (.inr q_2) =>
  some q_2)
def vD (F:Nat) (names_1:List (List Int)) (stacks_1:List (zI)) (l_1:List (List Int)) (rec:Int→(List (List Int))→Int→(List zI)→Option ((Int×(List (List Int))×(List zI))⊕(Int×(List (List Int))×(List (zI))×Int))) (at__1:Int) (n_1:List (List Int)) (v_1:Int) (row_1:List zI):Option ((Int×(List (List Int))×(List zI))⊕(Int×(List (List Int))×(List (zI))×Int)) :=
  (bif decide (v_1<(((l_1).length:Nat):Int)) then (yY l_1 v_1).bind fun x_1 =>
  (kX F n_1 x_1).bind fun r_3 =>
  (bif (r_3.2.2 != (0:Int)) then some (.inr ((0:Int),names_1,stacks_1,r_3.2.2)) else
  (w6 F row_1 (⟨at__1,r_3.1⟩:zI)).bind fun r_4 =>
  (bif decide (r_4≥(0:Int)) then rec r_4 r_3.2.1 (zH (v_1+(1:Int))) row_1 else
  (bif decide ((((row_1).length:Nat):Int)≥(1000:Int)) then some (.inr ((0:Int),names_1,stacks_1,(6:Int))) else
  (need (((row_1).length+(([(⟨at__1,r_3.1⟩:zI)]:List zI)).length) * 16≤140737488355328)).bind fun _ =>
  rec (((row_1).length:Nat):Int) r_3.2.1 (zH (v_1+(1:Int))) (row_1++([(⟨at__1,r_3.1⟩:zI)]:List zI))))) else
  some (.inl (at__1,n_1,row_1)))
def vY (F:Nat) (names_1:List (List Int)) (stacks_1:List (zI)) (l_1:List (List Int)):Nat→Int→(List (List Int))→Int→(List zI)→Option ((Int×(List (List Int))×(List zI))⊕(Int×(List (List Int))×(List (zI))×Int))
  | 0,_,_,_,_=>none
  | n+1,at__1,n_1,v_1,row_1=>vD F names_1 stacks_1 l_1 (vY F names_1 stacks_1 l_1 n) at__1 n_1 v_1 row_1
def tB (F:Nat) (names_1:List (List Int)) (stacks_1:List (zI)) (l_1:List (List Int)):Option (Int×(List (List Int))×(List (zI))×Int) :=
  (qA F l_1).bind fun r_1 =>
  (bif (r_1 != (0:Int)) then some ((0:Int),names_1,stacks_1,r_1) else
  (v7 stacks_1).bind fun r_2 =>
  (vY F names_1 stacks_1 l_1 F (-1:Int) names_1 (0:Int) r_2).bind fun (o_1:(Int×(List (List Int))×(List zI))⊕(Int×(List (List Int))×(List (zI))×Int)) =>
  (match o_1 with
  | (.inl q_1) =>
  some (q_1.1,q_1.2.1,q_1.2.2,(0:Int))
  | (.inr q_2) =>
  some q_2))
def jU (F:Nat) (names_1:List (List Int)) (stacks_1:List (zI)) (e_1:zE):Option ((List (Int))×(List (List Int))×(List (zI))×Int) :=
  (uW F names_1 stacks_1).bind fun r_1 =>
  (bif (r_1 != (0:Int)) then some ([],[],[],(1:Int)) else
  (tS F e_1).bind fun r_2 =>
  (bif (r_2 != (0:Int)) then some ([],[],[],r_2) else
  (pA e_1.Kind).bind fun r_3 =>
  (y5 F [] e_1.Kind).bind fun r_4=>(y5 F r_4 e_1.At).bind fun r_5 =>
  (((bif r_3.1 then (kX F names_1 e_1.Name).bind fun r_6 =>
  (bif (r_6.2.2 != (0:Int)) then some (.inr ([],[],[],r_6.2.2)) else
  (y5 F r_5 r_6.1).bind fun r_7 =>
  some (.inl (r_6.2.1,r_7))) else
  some (.inl (names_1,r_5))):Option (((List (List Int))×(List Int))⊕((List (Int))×(List (List Int))×(List (zI))×Int)))).bind fun (o_1:((List (List Int))×(List Int))⊕((List (Int))×(List (List Int))×(List (zI))×Int)) =>
  (match o_1 with
  | (.inl q_1) =>
  (((bif r_3.2.1 then (y5 F q_1.2 e_1.N).bind fun r_8 =>
  some r_8 else
  some q_1.2):Option (List Int))).bind fun (o_2:(List Int)) =>
  (((bif r_3.2.2.1 then (y5 F o_2 e_1.M).bind fun r_9 =>
  some r_9 else
  some o_2):Option (List Int))).bind fun (o_3:(List Int)) =>
  (((bif r_3.2.2.2 then (tB F q_1.1 stacks_1 e_1.Stack).bind fun r_10 =>
  (bif (r_10.2.2.2 != (0:Int)) then some (.inr ([],[],[],r_10.2.2.2)) else
  (y5 F o_3 r_10.1).bind fun r_11 =>
  some (.inl (r_10.2.1,r_10.2.2.1,r_11))) else
  some (.inl (q_1.1,stacks_1,o_3))):Option (((List (List Int))×(List zI)×(List Int))⊕((List (Int))×(List (List Int))×(List (zI))×Int)))).bind fun (o_4:((List (List Int))×(List zI)×(List Int))⊕((List (Int))×(List (List Int))×(List (zI))×Int)) =>
  (match o_4 with
  | (.inl q_3) =>
  some (q_3.2.2,q_3.1,q_3.2.1,(0:Int))
  | (.inr q_4) =>
  some q_4)
  | (.inr q_2) =>
  some q_2)))
def vO (s_1:List (Int)):Option (List (Int)) :=
  (need (((([]:List Int)).length+(s_1).length) * 1≤140737488355328)).bind fun _ =>
  some ([]++s_1)
def vW (F:Nat) (b_1:List (Int)) (r_2:(List (List (Int)))×Int) (r_3:(List (Int))) (rec:Int→Int→Int→Option (Int×Int)) (room_1:Int) (lost_1:Int) (c_1:Int):Option (Int×Int) :=
  (bif decide (((((r_3++b_1)).length:Nat):Int)>room_1) then (yY r_2.1 lost_1).bind fun x_1=>(y5 F [] (((x_1).length:Nat):Int)).bind fun r_4=>(yY r_2.1 lost_1).bind fun x_2 =>
  rec (zH (room_1+(zH ((((r_4).length:Nat):Int)+(((x_2).length:Nat):Int))))) (zH (lost_1+(1:Int))) (zH (c_1+(zH ((((r_4).length:Nat):Int)+(((x_2).length:Nat):Int))))) else
  some (lost_1,c_1))
def j2 (F:Nat) (b_1:List (Int)) (r_2:(List (List (Int)))×Int) (r_3:(List (Int))):Nat→Int→Int→Int→Option (Int×Int)
  | 0,_,_,_=>none
  | n+1,room_1,lost_1,c_1=>vW F b_1 r_2 r_3 (j2 F b_1 r_2 r_3 n) room_1 lost_1 c_1
def zAZ (F:Nat) (r_1:zB) (b_1:List (Int)):Option (zB×Int×Int) :=
  (kD F r_1).bind fun r_2 =>
  (bif (r_2.2 != (0:Int)) then some (r_1,(0:Int),r_2.2) else
  (y5 F [] (((b_1).length:Nat):Int)).bind fun r_3=>(need (((r_3).length+(b_1).length) * 1≤140737488355328)).bind fun _ =>
  (bif (decide ((((b_1).length:Nat):Int)>(2000:Int))||decide (((((r_3++b_1)).length:Nat):Int)>(((r_1.Data).length:Nat):Int))) then some (r_1,(0:Int),(7:Int)) else
  (bif ((r_1.Policy==(2:Int))&&decide (((((r_3++b_1)).length:Nat):Int)>(zH ((((r_1.Data).length:Nat):Int) - (zH (r_1.End - r_1.Start)))))) then some (r_1,(0:Int),(6:Int)) else
  (bif (decide ((zH (r_1.End+((((r_3++b_1)).length:Nat):Int)))>(1000000000000000:Int))||decide (r_1.Next≥(1000000000000000:Int))) then some (r_1,(0:Int),(2:Int)) else
  (j2 F b_1 r_2 r_3 F (zH ((((r_1.Data).length:Nat):Int) - (zH (r_1.End - r_1.Start)))) (0:Int) r_1.Start).bind fun (o_1:(Int×Int)) =>
  (vO r_1.Data).bind fun r_5 =>
  (need ((((r_5).length:Nat):Int)≠(0:Int))).bind fun _=>(need ((0:Int)≤(z0 r_1.End (((r_5).length:Nat):Int))∧(z0 r_1.End (((r_5).length:Nat):Int))≤(((r_5).length:Nat):Int))).bind fun _=>(need (((z0 r_1.End (((r_5).length:Nat):Int)).toNat)≤((r_5).length)∧((r_5).length)≤(r_5).length)).bind fun _ =>
  (need ((((min ((r_3++b_1)).length ((r_5).length - (z0 r_1.End (((r_5).length:Nat):Int)).toNat)):Nat):Int)≤((((r_3++b_1)).length:Nat):Int))).bind fun _=>(need ((min ((r_3++b_1)).length ((r_5).length - (z0 r_1.End (((r_5).length:Nat):Int)).toNat))≤(((r_3++b_1)).length)∧(((r_3++b_1)).length)≤((r_3++b_1)).length)).bind fun _=>(need (0≤((r_5).length)∧((r_5).length)≤((cpy r_5 ((z0 r_1.End (((r_5).length:Nat):Int)).toNat) ((r_5).length) (r_3++b_1))).length)).bind fun _ =>
  some ((⟨r_1.Policy,(cpy (cpy r_5 ((z0 r_1.End (((r_5).length:Nat):Int)).toNat) ((r_5).length) (r_3++b_1)) 0 ((r_5).length) ((((r_3++b_1)).take (((r_3++b_1)).length)).drop (min ((r_3++b_1)).length ((r_5).length - (z0 r_1.End (((r_5).length:Nat):Int)).toNat)))),o_1.2,zH (r_1.End+((((r_3++b_1)).length:Nat):Int)),zH (r_1.First+o_1.1),zH (r_1.Next+(1:Int))⟩:zB),o_1.1,(0:Int))))))
def vA (F:Nat) (p_1:zA) (e_1:zE):Option (zA×Int) :=
  (tV F p_1).bind fun r_1 =>
  (bif (r_1 != (0:Int)) then some ((⟨(⟨(0:Int),([]:List Int),(0:Int)⟩:zC),[],[],(⟨(0:Int),[],(0:Int),(0:Int),(0:Int),(0:Int)⟩:zB),(0:Int),(0:Int)⟩:zA),r_1) else
  (tS F e_1).bind fun r_2 =>
  (bif (r_2 != (0:Int)) then some ((⟨(⟨(0:Int),([]:List Int),(0:Int)⟩:zC),[],[],(⟨(0:Int),[],(0:Int),(0:Int),(0:Int),(0:Int)⟩:zB),(0:Int),(0:Int)⟩:zA),r_2) else
  (bif decide (e_1.At<p_1.Last) then some ((⟨(⟨(0:Int),([]:List Int),(0:Int)⟩:zC),[],[],(⟨(0:Int),[],(0:Int),(0:Int),(0:Int),(0:Int)⟩:zB),(0:Int),(0:Int)⟩:zA),(11:Int)) else
  (jU F p_1.Names p_1.Stacks e_1).bind fun r_3 =>
  (bif (r_3.2.2.2 != (0:Int)) then some ((⟨(⟨(0:Int),([]:List Int),(0:Int)⟩:zC),[],[],(⟨(0:Int),[],(0:Int),(0:Int),(0:Int),(0:Int)⟩:zB),(0:Int),(0:Int)⟩:zA),r_3.2.2.2) else
  (zAZ F p_1.Ring r_3.1).bind fun r_4 =>
  (bif (r_4.2.2 != (0:Int)) then some ((⟨(⟨(0:Int),([]:List Int),(0:Int)⟩:zC),[],[],(⟨(0:Int),[],(0:Int),(0:Int),(0:Int),(0:Int)⟩:zB),(0:Int),(0:Int)⟩:zA),r_4.2.2) else
  some ((⟨p_1.Thread,r_3.2.1,r_3.2.2.1,r_4.1,e_1.At,p_1.Sent⟩:zA),(0:Int)))))))
structure zW where
  Thread:Int
  Serial:Int
  Lost:Int
  Events:List (zE)
  deriving DecidableEq,Inhabited
def uJ (s:zW):List AV:=[.int .i64 s.Thread,.int .i64 s.Serial,.int .i64 s.Lost,.sl false 6 (List.map zF s.Events)]
def zJ (s:zW):AV:=.agg (uJ s)
def xY (F:Nat) (p_1:zA) (rec:(List zE)→Int→Int→(List zW)→Option (List zW)) (l_1:List zE) (serial_1:Int) (lost_1:Int) (row_1:List zW):Option (List zW) :=
  (bif decide ((((l_1).length:Nat):Int)>(0:Int)) then (need ((0:Int)≤(xL (((l_1).length:Nat):Int) (1000:Int))∧(xL (((l_1).length:Nat):Int) (1000:Int))≤(((l_1).length:Nat):Int))).bind fun _=>(need (((row_1).length+(([(⟨p_1.Thread.Id,serial_1,lost_1,sub l_1 (0:Int) (xL (((l_1).length:Nat):Int) (1000:Int))⟩:zW)]:List zW)).length) * 48≤140737488355328)).bind fun _ =>
  (need ((0:Int)≤(xL (((l_1).length:Nat):Int) (1000:Int))∧(xL (((l_1).length:Nat):Int) (1000:Int))≤(((l_1).length:Nat):Int))).bind fun _ =>
  rec (sub l_1 (xL (((l_1).length:Nat):Int) (1000:Int)) (((l_1).length:Nat):Int)) (zH (serial_1+(xL (((l_1).length:Nat):Int) (1000:Int)))) (0:Int) (row_1++([(⟨p_1.Thread.Id,serial_1,lost_1,sub l_1 (0:Int) (xL (((l_1).length:Nat):Int) (1000:Int))⟩:zW)]:List zW)) else
  some row_1)
def vG (F:Nat) (p_1:zA):Nat→(List zE)→Int→Int→(List zW)→Option (List zW)
  | 0,_,_,_,_=>none
  | n+1,l_1,serial_1,lost_1,row_1=>xY F p_1 (vG F p_1 n) l_1 serial_1 lost_1 row_1
def vZ (F:Nat) (p_1:zA):Option ((List (zW))×zA) :=
  (uM F p_1).bind fun r_1 =>
  (bif (r_1.2 != (0:Int)) then some ([],p_1) else
  (vG F p_1 F r_1.1 p_1.Ring.First (zH (p_1.Ring.First - p_1.Sent)) []).bind fun (o_1:(List zW)) =>
  (pP F p_1.Ring).bind fun r_2 =>
  some (o_1,(⟨p_1.Thread,p_1.Names,p_1.Stacks,r_2.2,p_1.Last,r_2.2.Next⟩:zA)))
def tH (F:Nat) (p_1:zA):Option Int :=
  (tV F p_1).bind fun r_1 =>
  (bif (r_1 != (0:Int)) then some (0:Int) else
  some (zH (p_1.Ring.First - p_1.Sent)))
def k8 (F:Nat) (rec:Int→Int→(List Int)→Int→(List (List Int))→(List zI)→Int→(List Int)→Int→Int→Int→Int→Int→Int→Int→(List Int)→Int→(List (List Int))→(List zI)→Int→(List Int)→Int→Int→Int→Int→Int→Int→Option ((Int×(List Int)×Int×(List (List Int))×(List zI)×Int×(List Int)×Int×Int×Int×Int×Int×Int×Int×(List Int)×Int×(List (List Int))×(List zI)×Int×(List Int)×Int×Int×Int×Int×Int×Int)⊕Bool)) (at__1:Int) (c_1:Int) (c_2:List Int) (c_3:Int) (c_4:List (List Int)) (c_5:List zI) (c_6:Int) (c_7:List Int) (c_8:Int) (c_9:Int) (c_10:Int) (c_11:Int) (c_12:Int) (c_13:Int) (c_14:Int) (c_15:List Int) (c_16:Int) (c_17:List (List Int)) (c_18:List zI) (c_19:Int) (c_20:List Int) (c_21:Int) (c_22:Int) (c_23:Int) (c_24:Int) (c_25:Int) (c_26:Int):Option ((Int×(List Int)×Int×(List (List Int))×(List zI)×Int×(List Int)×Int×Int×Int×Int×Int×Int×Int×(List Int)×Int×(List (List Int))×(List zI)×Int×(List Int)×Int×Int×Int×Int×Int×Int)⊕Bool) :=
  (bif decide (at__1≤(4:Int)) then (nT at__1).bind fun r_3=>(vA F (⟨(⟨c_1,c_2,c_3⟩:zC),c_4,c_5,(⟨c_6,c_7,c_8,c_9,c_10,c_11⟩:zB),c_12,c_13⟩:zA) r_3).bind fun r_4 =>
  (nT at__1).bind fun r_5=>(vA F (⟨(⟨c_14,c_15,c_16⟩:zC),c_17,c_18,(⟨c_19,c_20,c_21,c_22,c_23,c_24⟩:zB),c_25,c_26⟩:zA) r_5).bind fun r_6 =>
  (bif ((r_4.2 != (0:Int))||(r_6.2 != (0:Int))) then some (.inr false) else
  rec (zH (at__1+(1:Int))) r_4.1.Thread.Id r_4.1.Thread.Name r_4.1.Thread.Domain r_4.1.Names r_4.1.Stacks r_4.1.Ring.Policy r_4.1.Ring.Data r_4.1.Ring.Start r_4.1.Ring.End r_4.1.Ring.First r_4.1.Ring.Next r_4.1.Last r_4.1.Sent r_6.1.Thread.Id r_6.1.Thread.Name r_6.1.Thread.Domain r_6.1.Names r_6.1.Stacks r_6.1.Ring.Policy r_6.1.Ring.Data r_6.1.Ring.Start r_6.1.Ring.End r_6.1.Ring.First r_6.1.Ring.Next r_6.1.Last r_6.1.Sent) else
  some (.inl (c_1,c_2,c_3,c_4,c_5,c_6,c_7,c_8,c_9,c_10,c_11,c_12,c_13,c_14,c_15,c_16,c_17,c_18,c_19,c_20,c_21,c_22,c_23,c_24,c_25,c_26)))
def pT (F:Nat):Nat→Int→Int→(List Int)→Int→(List (List Int))→(List zI)→Int→(List Int)→Int→Int→Int→Int→Int→Int→Int→(List Int)→Int→(List (List Int))→(List zI)→Int→(List Int)→Int→Int→Int→Int→Int→Int→Option ((Int×(List Int)×Int×(List (List Int))×(List zI)×Int×(List Int)×Int×Int×Int×Int×Int×Int×Int×(List Int)×Int×(List (List Int))×(List zI)×Int×(List Int)×Int×Int×Int×Int×Int×Int)⊕Bool)
  | 0,_,_,_,_,_,_,_,_,_,_,_,_,_,_,_,_,_,_,_,_,_,_,_,_,_,_,_=>none
  | n+1,at__1,c_1,c_2,c_3,c_4,c_5,c_6,c_7,c_8,c_9,c_10,c_11,c_12,c_13,c_14,c_15,c_16,c_17,c_18,c_19,c_20,c_21,c_22,c_23,c_24,c_25,c_26=>k8 F (pT F n) at__1 c_1 c_2 c_3 c_4 c_5 c_6 c_7 c_8 c_9 c_10 c_11 c_12 c_13 c_14 c_15 c_16 c_17 c_18 c_19 c_20 c_21 c_22 c_23 c_24 c_25 c_26
def zAm (F:Nat):Option Bool :=
  (uS F (⟨(3:Int),([109,97,105,110]:List Int),(0:Int)⟩:zC) (16:Int) (1:Int)).bind fun r_1 =>
  (uS F (⟨(3:Int),([109,97,105,110]:List Int),(0:Int)⟩:zC) (16:Int) (2:Int)).bind fun r_2 =>
  (bif ((r_1.2 != (0:Int))||(r_2.2 != (0:Int))) then some false else
  (pT F F (1:Int) r_1.1.Thread.Id r_1.1.Thread.Name r_1.1.Thread.Domain r_1.1.Names r_1.1.Stacks r_1.1.Ring.Policy r_1.1.Ring.Data r_1.1.Ring.Start r_1.1.Ring.End r_1.1.Ring.First r_1.1.Ring.Next r_1.1.Last r_1.1.Sent r_2.1.Thread.Id r_2.1.Thread.Name r_2.1.Thread.Domain r_2.1.Names r_2.1.Stacks r_2.1.Ring.Policy r_2.1.Ring.Data r_2.1.Ring.Start r_2.1.Ring.End r_2.1.Ring.First r_2.1.Ring.Next r_2.1.Last r_2.1.Sent).bind fun (o_1:(Int×(List Int)×Int×(List (List Int))×(List zI)×Int×(List Int)×Int×Int×Int×Int×Int×Int×Int×(List Int)×Int×(List (List Int))×(List zI)×Int×(List Int)×Int×Int×Int×Int×Int×Int)⊕Bool) =>
  (match o_1 with
  | (.inl q_1) =>
  (nT (5:Int)).bind fun r_7=>(vA F (⟨(⟨q_1.2.2.2.2.2.2.2.2.2.2.2.2.2.1,q_1.2.2.2.2.2.2.2.2.2.2.2.2.2.2.1,q_1.2.2.2.2.2.2.2.2.2.2.2.2.2.2.2.1⟩:zC),q_1.2.2.2.2.2.2.2.2.2.2.2.2.2.2.2.2.1,q_1.2.2.2.2.2.2.2.2.2.2.2.2.2.2.2.2.2.1,(⟨q_1.2.2.2.2.2.2.2.2.2.2.2.2.2.2.2.2.2.2.1,q_1.2.2.2.2.2.2.2.2.2.2.2.2.2.2.2.2.2.2.2.1,q_1.2.2.2.2.2.2.2.2.2.2.2.2.2.2.2.2.2.2.2.2.1,q_1.2.2.2.2.2.2.2.2.2.2.2.2.2.2.2.2.2.2.2.2.2.1,q_1.2.2.2.2.2.2.2.2.2.2.2.2.2.2.2.2.2.2.2.2.2.2.1,q_1.2.2.2.2.2.2.2.2.2.2.2.2.2.2.2.2.2.2.2.2.2.2.2.1⟩:zB),q_1.2.2.2.2.2.2.2.2.2.2.2.2.2.2.2.2.2.2.2.2.2.2.2.2.1,q_1.2.2.2.2.2.2.2.2.2.2.2.2.2.2.2.2.2.2.2.2.2.2.2.2.2⟩:zA) r_7).bind fun r_8 =>
  (nT (5:Int)).bind fun r_9=>(vA F (⟨(⟨q_1.1,q_1.2.1,q_1.2.2.1⟩:zC),q_1.2.2.2.1,q_1.2.2.2.2.1,(⟨q_1.2.2.2.2.2.1,q_1.2.2.2.2.2.2.1,q_1.2.2.2.2.2.2.2.1,q_1.2.2.2.2.2.2.2.2.1,q_1.2.2.2.2.2.2.2.2.2.1,q_1.2.2.2.2.2.2.2.2.2.2.1⟩:zB),q_1.2.2.2.2.2.2.2.2.2.2.2.1,q_1.2.2.2.2.2.2.2.2.2.2.2.2.1⟩:zA) r_9).bind fun r_10 =>
  (vZ F r_10.1).bind fun r_11 =>
  (vZ F (⟨(⟨q_1.2.2.2.2.2.2.2.2.2.2.2.2.2.1,q_1.2.2.2.2.2.2.2.2.2.2.2.2.2.2.1,q_1.2.2.2.2.2.2.2.2.2.2.2.2.2.2.2.1⟩:zC),q_1.2.2.2.2.2.2.2.2.2.2.2.2.2.2.2.2.1,q_1.2.2.2.2.2.2.2.2.2.2.2.2.2.2.2.2.2.1,(⟨q_1.2.2.2.2.2.2.2.2.2.2.2.2.2.2.2.2.2.2.1,q_1.2.2.2.2.2.2.2.2.2.2.2.2.2.2.2.2.2.2.2.1,q_1.2.2.2.2.2.2.2.2.2.2.2.2.2.2.2.2.2.2.2.2.1,q_1.2.2.2.2.2.2.2.2.2.2.2.2.2.2.2.2.2.2.2.2.2.1,q_1.2.2.2.2.2.2.2.2.2.2.2.2.2.2.2.2.2.2.2.2.2.2.1,q_1.2.2.2.2.2.2.2.2.2.2.2.2.2.2.2.2.2.2.2.2.2.2.2.1⟩:zB),q_1.2.2.2.2.2.2.2.2.2.2.2.2.2.2.2.2.2.2.2.2.2.2.2.2.1,q_1.2.2.2.2.2.2.2.2.2.2.2.2.2.2.2.2.2.2.2.2.2.2.2.2.2⟩:zA)).bind fun r_12 =>
  ((bif (r_10.2==(0:Int)) then (bif (r_8.2==(6:Int)) then ((tH F r_10.1).bind fun r_13=>bif (r_13==(1:Int)) then (bif ((((r_11.1).length:Nat):Int)==(1:Int)) then ((yY r_11.1 (0:Int)).bind fun x_1=>bif (x_1.Thread==(3:Int)) then ((yY r_11.1 (0:Int)).bind fun x_2=>bif (x_2.Serial==(1:Int)) then ((yY r_11.1 (0:Int)).bind fun x_3=>bif (x_3.Lost==(1:Int)) then ((yY r_11.1 (0:Int)).bind fun x_4=>bif ((((x_4.Events).length:Nat):Int)==(4:Int)) then (bif ((((r_12.1).length:Nat):Int)==(1:Int)) then ((yY r_12.1 (0:Int)).bind fun x_5=>bif (x_5.Serial==(0:Int)) then ((yY r_12.1 (0:Int)).bind fun x_6=>some ((((x_6.Events).length:Nat):Int)==(4:Int))) else (some false)) else (some false)) else (some false)) else (some false)) else (some false)) else (some false)) else (some false)) else (some false)) else (some false)) else (some false))).bind fun (p_1:Bool) =>
  some p_1
  | (.inr q_2) =>
  some q_2))
structure yG where
  Drain:Bool
  E:zE
  deriving DecidableEq,Inhabited
def zBF (s:yG):List AV:=[.bool s.Drain,.int .i64 s.E.At,.int .i64 s.E.Kind,.str s.E.Name,.int .i64 s.E.N,.int .i64 s.E.M,.sl false 1 (List.map AV.str s.E.Stack)]
def zN (s:yG):AV:=.agg (zBF s)
def vE (F:Nat) (e_1:zE) (rec:Int→Option (Unit⊕Bool)) (i_1:Int):Option (Unit⊕Bool) :=
  (bif decide (i_1<(((e_1.Stack).length:Nat):Int)) then (yY e_1.Stack i_1).bind fun x_1 =>
  (bif decide ((((x_1).length:Nat):Int)>(200:Int)) then some (.inr false) else
  rec (zH (i_1+(1:Int)))) else
  some (.inl ()))
def t5 (F:Nat) (e_1:zE):Nat→Int→Option (Unit⊕Bool)
  | 0,_=>none
  | n+1,i_1=>vE F e_1 (t5 F e_1 n) i_1
def zAn (F:Nat) (e_1:zE):Option Bool :=
  (bif (decide ((((e_1.Name).length:Nat):Int)>(200:Int))||decide ((((e_1.Stack).length:Nat):Int)>(60:Int))) then some false else
  (t5 F e_1 F (0:Int)).bind fun (o_1:Unit⊕Bool) =>
  (match o_1 with
  | (.inl q_1) =>
  some true
  | (.inr q_2) =>
  some q_2))
def qH (F:Nat) (ops_1:List (yG)) (rec:Int→Option (Unit⊕Bool)) (i_1:Int):Option (Unit⊕Bool) :=
  (bif decide (i_1<(((ops_1).length:Nat):Int)) then (yY ops_1 i_1).bind fun x_1=>(zAn F x_1.E).bind fun r_1 =>
  (bif !r_1 then some (.inr false) else
  rec (zH (i_1+(1:Int)))) else
  some (.inl ()))
def kN (F:Nat) (ops_1:List (yG)):Nat→Int→Option (Unit⊕Bool)
  | 0,_=>none
  | n+1,i_1=>qH F ops_1 (kN F ops_1 n) i_1
def zAO (F:Nat) (ops_1:List (yG)):Option Bool :=
  (bif decide ((((ops_1).length:Nat):Int)>(40:Int)) then some false else
  (kN F ops_1 F (0:Int)).bind fun (o_1:Unit⊕Bool) =>
  (match o_1 with
  | (.inl q_1) =>
  some true
  | (.inr q_2) =>
  some q_2))
def vH (F:Nat) (a_1:List (List Int)) (b_1:List (List Int)) (rec:Int→Option (Unit⊕Bool)) (i_1:Int):Option (Unit⊕Bool) :=
  (bif decide (i_1<(((a_1).length:Nat):Int)) then (yY a_1 i_1).bind fun x_1=>(yY b_1 i_1).bind fun x_2 =>
  (bif !(x_1==x_2) then some (.inr false) else
  rec (zH (i_1+(1:Int)))) else
  some (.inl ()))
def j9 (F:Nat) (a_1:List (List Int)) (b_1:List (List Int)):Nat→Int→Option (Unit⊕Bool)
  | 0,_=>none
  | n+1,i_1=>vH F a_1 b_1 (j9 F a_1 b_1 n) i_1
def zAj (F:Nat) (a_1:List (List Int)) (b_1:List (List Int)):Option Bool :=
  (bif ((((a_1).length:Nat):Int) != (((b_1).length:Nat):Int)) then some false else
  (j9 F a_1 b_1 F (0:Int)).bind fun (o_1:Unit⊕Bool) =>
  (match o_1 with
  | (.inl q_1) =>
  some true
  | (.inr q_2) =>
  some q_2))
def zA7 (F:Nat) (a_1:zE) (b_1:zE):Option Bool :=
  ((bif (a_1.At==b_1.At) then (bif (a_1.Kind==b_1.Kind) then (bif (a_1.Name==b_1.Name) then (bif (a_1.N==b_1.N) then (bif (a_1.M==b_1.M) then ((zAj F a_1.Stack b_1.Stack).bind fun r_1=>some r_1) else (some false)) else (some false)) else (some false)) else (some false)) else (some false))).bind fun (p_1:Bool) =>
  some p_1
def w3 (F:Nat) (a_1:List (zE)) (b_1:List (zE)) (rec:Int→Option (Unit⊕Bool)) (i_1:Int):Option (Unit⊕Bool) :=
  (bif decide (i_1<(((a_1).length:Nat):Int)) then (yY a_1 i_1).bind fun x_1=>(yY b_1 i_1).bind fun x_2=>(zA7 F x_1 x_2).bind fun r_1 =>
  (bif !r_1 then some (.inr false) else
  rec (zH (i_1+(1:Int)))) else
  some (.inl ()))
def jE (F:Nat) (a_1:List (zE)) (b_1:List (zE)):Nat→Int→Option (Unit⊕Bool)
  | 0,_=>none
  | n+1,i_1=>w3 F a_1 b_1 (jE F a_1 b_1 n) i_1
def pD (F:Nat) (a_1:List (zE)) (b_1:List (zE)):Option Bool :=
  (bif ((((a_1).length:Nat):Int) != (((b_1).length:Nat):Int)) then some false else
  (jE F a_1 b_1 F (0:Int)).bind fun (o_1:Unit⊕Bool) =>
  (match o_1 with
  | (.inl q_1) =>
  some true
  | (.inr q_2) =>
  some q_2))
def xE (F:Nat) (l_1:List (zW)) (written_1:List (zE)) (rec:Int→Int→Option (Int⊕(Int×Bool))) (next_2:Int) (i_1:Int):Option (Int⊕(Int×Bool)) :=
  (bif decide (i_1<(((l_1).length:Nat):Int)) then (yY l_1 i_1).bind fun x_1 =>
  ((bif decide (x_1.Lost<(0:Int)) then (some true) else (bif (x_1.Serial != (zH (next_2+x_1.Lost))) then (some true) else (bif decide ((zH (x_1.Serial+(((x_1.Events).length:Nat):Int)))>(((written_1).length:Nat):Int)) then (some true) else (bif ((((x_1.Events).length:Nat):Int)==(0:Int)) then (some true) else ((need ((0:Int)≤x_1.Serial∧x_1.Serial≤(zH (x_1.Serial+(((x_1.Events).length:Nat):Int)))∧(zH (x_1.Serial+(((x_1.Events).length:Nat):Int)))≤(((written_1).length:Nat):Int))).bind fun _=>(pD F x_1.Events (sub written_1 x_1.Serial (zH (x_1.Serial+(((x_1.Events).length:Nat):Int))))).bind fun r_1=>some (!r_1))))))).bind fun (p_1:Bool) =>
  (bif p_1 then some (.inr ((0:Int),false)) else
  rec (zH (x_1.Serial+(((x_1.Events).length:Nat):Int))) (zH (i_1+(1:Int)))) else
  some (.inl next_2))
def uL (F:Nat) (l_1:List (zW)) (written_1:List (zE)):Nat→Int→Int→Option (Int⊕(Int×Bool))
  | 0,_,_=>none
  | n+1,next_2,i_1=>xE F l_1 written_1 (uL F l_1 written_1 n) next_2 i_1
def qC (F:Nat) (l_1:List (zW)) (written_1:List (zE)) (next_1:Int):Option (Int×Bool) :=
  (uL F l_1 written_1 F next_1 (0:Int)).bind fun (o_1:Int⊕(Int×Bool)) =>
  (match o_1 with
  | (.inl q_1) =>
  some (q_1,true)
  | (.inr q_2) =>
  some q_2)
def wE (F:Nat) (stall_1:Bool) (ops_1:List (yG)) (rec:Int→Bool→Int→Int→(List Int)→Int→(List (List Int))→(List zI)→Int→(List Int)→Int→Int→Int→Int→Int→Int→(List zE)→Option (Int×Bool×Int×(List Int)×Int×(List (List Int))×(List zI)×Int×(List Int)×Int×Int×Int×Int×Int×Int×(List zE))) (next_1:Int) (ok_1:Bool) (i_1:Int) (c_1:Int) (c_2:List Int) (c_3:Int) (c_4:List (List Int)) (c_5:List zI) (c_6:Int) (c_7:List Int) (c_8:Int) (c_9:Int) (c_10:Int) (c_11:Int) (c_12:Int) (c_13:Int) (row_1:List zE):Option (Int×Bool×Int×(List Int)×Int×(List (List Int))×(List zI)×Int×(List Int)×Int×Int×Int×Int×Int×Int×(List zE)) :=
  (bif (decide (i_1<(((ops_1).length:Nat):Int))&&ok_1) then (((yY ops_1 i_1).bind fun x_1 =>
  (bif !x_1.Drain then (yY ops_1 i_1).bind fun x_2=>(vA F (⟨(⟨c_1,c_2,c_3⟩:zC),c_4,c_5,(⟨c_6,c_7,c_8,c_9,c_10,c_11⟩:zB),c_12,c_13⟩:zA) x_2.E).bind fun r_5 =>
  (((bif (r_5.2==(0:Int)) then (yY ops_1 i_1).bind fun x_3=>(need (((row_1).length+(([x_3.E]:List zE)).length) * 72≤140737488355328)).bind fun _ =>
  some (r_5.1.Thread.Id,r_5.1.Thread.Name,r_5.1.Thread.Domain,r_5.1.Names,r_5.1.Stacks,r_5.1.Ring.Policy,r_5.1.Ring.Data,r_5.1.Ring.Start,r_5.1.Ring.End,r_5.1.Ring.First,r_5.1.Ring.Next,r_5.1.Last,r_5.1.Sent,(row_1++([x_3.E]:List zE))) else
  some (c_1,c_2,c_3,c_4,c_5,c_6,c_7,c_8,c_9,c_10,c_11,c_12,c_13,row_1)):Option (Int×(List Int)×Int×(List (List Int))×(List zI)×Int×(List Int)×Int×Int×Int×Int×Int×Int×(List zE)))).bind fun (o_4:(Int×(List Int)×Int×(List (List Int))×(List zI)×Int×(List Int)×Int×Int×Int×Int×Int×Int×(List zE))) =>
  ((bif !stall_1 then (some true) else ((tH F (⟨(⟨o_4.1,o_4.2.1,o_4.2.2.1⟩:zC),o_4.2.2.2.1,o_4.2.2.2.2.1,(⟨o_4.2.2.2.2.2.1,o_4.2.2.2.2.2.2.1,o_4.2.2.2.2.2.2.2.1,o_4.2.2.2.2.2.2.2.2.1,o_4.2.2.2.2.2.2.2.2.2.1,o_4.2.2.2.2.2.2.2.2.2.2.1⟩:zB),o_4.2.2.2.2.2.2.2.2.2.2.2.1,o_4.2.2.2.2.2.2.2.2.2.2.2.2.1⟩:zA)).bind fun r_6=>some (r_6==(0:Int))))).bind fun (p_2:Bool) =>
  some (next_1,p_2,o_4.1,o_4.2.1,o_4.2.2.1,o_4.2.2.2.1,o_4.2.2.2.2.1,o_4.2.2.2.2.2.1,o_4.2.2.2.2.2.2.1,o_4.2.2.2.2.2.2.2.1,o_4.2.2.2.2.2.2.2.2.1,o_4.2.2.2.2.2.2.2.2.2.1,o_4.2.2.2.2.2.2.2.2.2.2.1,o_4.2.2.2.2.2.2.2.2.2.2.2.1,o_4.2.2.2.2.2.2.2.2.2.2.2.2.1,o_4.2.2.2.2.2.2.2.2.2.2.2.2.2) else
  (vZ F (⟨(⟨c_1,c_2,c_3⟩:zC),c_4,c_5,(⟨c_6,c_7,c_8,c_9,c_10,c_11⟩:zB),c_12,c_13⟩:zA)).bind fun r_7 =>
  (qC F r_7.1 row_1 next_1).bind fun r_8 =>
  some (r_8.1,r_8.2,r_7.2.Thread.Id,r_7.2.Thread.Name,r_7.2.Thread.Domain,r_7.2.Names,r_7.2.Stacks,r_7.2.Ring.Policy,r_7.2.Ring.Data,r_7.2.Ring.Start,r_7.2.Ring.End,r_7.2.Ring.First,r_7.2.Ring.Next,r_7.2.Last,r_7.2.Sent,row_1)):Option (Int×Bool×Int×(List Int)×Int×(List (List Int))×(List zI)×Int×(List Int)×Int×Int×Int×Int×Int×Int×(List zE)))).bind fun (o_3:(Int×Bool×Int×(List Int)×Int×(List (List Int))×(List zI)×Int×(List Int)×Int×Int×Int×Int×Int×Int×(List zE))) =>
  rec o_3.1 o_3.2.1 (zH (i_1+(1:Int))) o_3.2.2.1 o_3.2.2.2.1 o_3.2.2.2.2.1 o_3.2.2.2.2.2.1 o_3.2.2.2.2.2.2.1 o_3.2.2.2.2.2.2.2.1 o_3.2.2.2.2.2.2.2.2.1 o_3.2.2.2.2.2.2.2.2.2.1 o_3.2.2.2.2.2.2.2.2.2.2.1 o_3.2.2.2.2.2.2.2.2.2.2.2.1 o_3.2.2.2.2.2.2.2.2.2.2.2.2.1 o_3.2.2.2.2.2.2.2.2.2.2.2.2.2.1 o_3.2.2.2.2.2.2.2.2.2.2.2.2.2.2.1 o_3.2.2.2.2.2.2.2.2.2.2.2.2.2.2.2 else
  some (next_1,ok_1,c_1,c_2,c_3,c_4,c_5,c_6,c_7,c_8,c_9,c_10,c_11,c_12,c_13,row_1))
def wN (F:Nat) (stall_1:Bool) (ops_1:List (yG)):Nat→Int→Bool→Int→Int→(List Int)→Int→(List (List Int))→(List zI)→Int→(List Int)→Int→Int→Int→Int→Int→Int→(List zE)→Option (Int×Bool×Int×(List Int)×Int×(List (List Int))×(List zI)×Int×(List Int)×Int×Int×Int×Int×Int×Int×(List zE))
  | 0,_,_,_,_,_,_,_,_,_,_,_,_,_,_,_,_,_=>none
  | n+1,next_1,ok_1,i_1,c_1,c_2,c_3,c_4,c_5,c_6,c_7,c_8,c_9,c_10,c_11,c_12,c_13,row_1=>wE F stall_1 ops_1 (wN F stall_1 ops_1 n) next_1 ok_1 i_1 c_1 c_2 c_3 c_4 c_5 c_6 c_7 c_8 c_9 c_10 c_11 c_12 c_13 row_1
def wR (F:Nat) (size_1:Int) (stall_1:Bool) (ops_1:List (yG)):Option Bool :=
  (((zAm F).bind fun r_1=>bif !r_1 then (some true) else ((zAO F ops_1).bind fun r_2=>some (!r_2)))).bind fun (p_1:Bool) =>
  (bif p_1 then (zAm F).bind fun r_3 =>
  some r_3 else
  (((bif stall_1 then some (2:Int) else
  some (1:Int)):Option Int)).bind fun (o_1:Int) =>
  (uS F (⟨(1:Int),([116]:List Int),(0:Int)⟩:zC) (p7 (16:Int) (xL size_1 (300:Int))) o_1).bind fun r_4 =>
  (bif (r_4.2 != (0:Int)) then some false else
  (wN F stall_1 ops_1 F (0:Int) true (0:Int) r_4.1.Thread.Id r_4.1.Thread.Name r_4.1.Thread.Domain r_4.1.Names r_4.1.Stacks r_4.1.Ring.Policy r_4.1.Ring.Data r_4.1.Ring.Start r_4.1.Ring.End r_4.1.Ring.First r_4.1.Ring.Next r_4.1.Last r_4.1.Sent []).bind fun (o_2:(Int×Bool×Int×(List Int)×Int×(List (List Int))×(List zI)×Int×(List Int)×Int×Int×Int×Int×Int×Int×(List zE))) =>
  (bif !o_2.2.1 then some false else
  (vZ F (⟨(⟨o_2.2.2.1,o_2.2.2.2.1,o_2.2.2.2.2.1⟩:zC),o_2.2.2.2.2.2.1,o_2.2.2.2.2.2.2.1,(⟨o_2.2.2.2.2.2.2.2.1,o_2.2.2.2.2.2.2.2.2.1,o_2.2.2.2.2.2.2.2.2.2.1,o_2.2.2.2.2.2.2.2.2.2.2.1,o_2.2.2.2.2.2.2.2.2.2.2.2.1,o_2.2.2.2.2.2.2.2.2.2.2.2.2.1⟩:zB),o_2.2.2.2.2.2.2.2.2.2.2.2.2.2.1,o_2.2.2.2.2.2.2.2.2.2.2.2.2.2.2.1⟩:zA)).bind fun r_9 =>
  (qC F r_9.1 o_2.2.2.2.2.2.2.2.2.2.2.2.2.2.2.2 o_2.1).bind fun r_10 =>
  some (r_10.2&&(r_10.1==(((o_2.2.2.2.2.2.2.2.2.2.2.2.2.2.2.2).length:Nat):Int))))))
end Go.Ab
