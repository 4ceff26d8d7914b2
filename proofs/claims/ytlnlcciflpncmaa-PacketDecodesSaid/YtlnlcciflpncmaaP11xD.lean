/- Printed: the typed Lean functions of the Go functions, or the proofs that the Go functions meet them. No conditions but those that the theorems name. -/
import Derived.Test.YtlnlcciflpncmaaA37
import Derived.Test.YtlnlcciflpncmaaA41
namespace Go.Ab
open Go
set_option linter.unusedVariables false
structure zA where
  At:Int
  Kind:Int
  Name:List Int
  N:Int
  M:Int
  Stack:List (List Int)
  deriving DecidableEq,Inhabited
def zJ (s:zA):List AV:=[.int .i64 s.At,.int .i64 s.Kind,.str s.Name,.int .i64 s.N,.int .i64 s.M,.sl false 1 (List.map AV.str s.Stack)]
def zB (s:zA):AV:=.agg (zJ s)
structure zF where
  Thread:Int
  Serial:Int
  Lost:Int
  Events:List (zA)
  deriving DecidableEq,Inhabited
def zH (s:zF):List AV:=[.int .i64 s.Thread,.int .i64 s.Serial,.int .i64 s.Lost,.sl false 6 (List.map zB s.Events)]
def zI (s:zF):AV:=.agg (zH s)
structure zR where
  word:List Int
  name:Bool
  n:Bool
  m:Bool
  stack:Bool
  least:Int
  most:Int
  mLeast:Int
  mMost:Int
  deriving DecidableEq,Inhabited
def zZ (s:zR):List AV:=[.str s.word,.bool s.name,.bool s.n,.bool s.m,.bool s.stack,.int .i64 s.least,.int .i64 s.most,.int .i64 s.mLeast,.int .i64 s.mMost]
def yX (s:zR):AV:=.agg (zZ s)
def p9:Option (List (zR)) :=
  some ([(⟨([]:List Int),false,false,false,false,(0:Int),(0:Int),(0:Int),(0:Int)⟩:zR),(⟨([98,101,103,105,110]:List Int),true,false,false,false,(0:Int),(0:Int),(0:Int),(0:Int)⟩:zR),(⟨([101,110,100]:List Int),false,false,false,false,(0:Int),(0:Int),(0:Int),(0:Int)⟩:zR),(⟨([109,97,114,107]:List Int),true,false,false,false,(0:Int),(0:Int),(0:Int),(0:Int)⟩:zR),(⟨([99,111,117,110,116]:List Int),true,true,false,false,(-1000000000000000:Int),(1000000000000000:Int),(0:Int),(0:Int)⟩:zR),(⟨([115,97,109,112,108,101]:List Int),false,true,false,true,(1:Int),(1000000000000:Int),(0:Int),(0:Int)⟩:zR),(⟨([115,101,110,100]:List Int),false,true,false,false,(0:Int),(1000000000000000:Int),(0:Int),(0:Int)⟩:zR),(⟨([114,101,99,118]:List Int),false,true,false,false,(0:Int),(1000000000000000:Int),(0:Int),(0:Int)⟩:zR),(⟨([114,117,110]:List Int),false,true,false,false,(0:Int),(63:Int),(0:Int),(0:Int)⟩:zR),(⟨([115,116,111,112]:List Int),false,true,true,false,(0:Int),(3:Int),(0:Int),(1000000000000000:Int)⟩:zR),(⟨([119,97,107,101]:List Int),false,true,false,false,(0:Int),(1000000000000000:Int),(0:Int),(0:Int)⟩:zR),(⟨([97,108,108,111,99]:List Int),false,true,true,true,(0:Int),(1000000000000000:Int),(1:Int),(1000000000000:Int)⟩:zR),(⟨([102,114,101,101]:List Int),false,true,false,false,(0:Int),(1000000000000000:Int),(0:Int),(0:Int)⟩:zR)]:List zR)
def nS (k_1:Int):Option (zR×Bool) :=
  (p9 ).bind fun r_1 =>
  (bif (decide (k_1<(1:Int))||decide (k_1≥(((r_1).length:Nat):Int))) then some ((⟨([]:List Int),false,false,false,false,(0:Int),(0:Int),(0:Int),(0:Int)⟩:zR),false) else
  (yC r_1 k_1).bind fun x_1 =>
  some (x_1,true))
def qV (s_1:List Int) (c_1:Int):Option Int :=
  some (uF s_1 c_1)
def xZ (s_1:List Int) (c_1:Int):Option Int :=
  (qV s_1 c_1).bind fun r_1 =>
  some r_1
def pT (c_1:Int):Option Bool :=
  ((bif decide (c_1≥(97:Int)) then (bif decide (c_1≤(122:Int)) then (some true) else (bif decide (c_1≥(65:Int)) then (bif decide (c_1≤(90:Int)) then (some true) else (bif decide (c_1≥(48:Int)) then (bif decide (c_1≤(57:Int)) then (some true) else ((xZ ([95,46,58,47,60,62,36,42,126,45]:List Int) c_1).bind fun r_1=>some (decide (r_1≥(0:Int))))) else ((xZ ([95,46,58,47,60,62,36,42,126,45]:List Int) c_1).bind fun r_1=>some (decide (r_1≥(0:Int)))))) else (bif decide (c_1≥(48:Int)) then (bif decide (c_1≤(57:Int)) then (some true) else ((xZ ([95,46,58,47,60,62,36,42,126,45]:List Int) c_1).bind fun r_1=>some (decide (r_1≥(0:Int))))) else ((xZ ([95,46,58,47,60,62,36,42,126,45]:List Int) c_1).bind fun r_1=>some (decide (r_1≥(0:Int))))))) else (bif decide (c_1≥(65:Int)) then (bif decide (c_1≤(90:Int)) then (some true) else (bif decide (c_1≥(48:Int)) then (bif decide (c_1≤(57:Int)) then (some true) else ((xZ ([95,46,58,47,60,62,36,42,126,45]:List Int) c_1).bind fun r_1=>some (decide (r_1≥(0:Int))))) else ((xZ ([95,46,58,47,60,62,36,42,126,45]:List Int) c_1).bind fun r_1=>some (decide (r_1≥(0:Int)))))) else (bif decide (c_1≥(48:Int)) then (bif decide (c_1≤(57:Int)) then (some true) else ((xZ ([95,46,58,47,60,62,36,42,126,45]:List Int) c_1).bind fun r_1=>some (decide (r_1≥(0:Int))))) else ((xZ ([95,46,58,47,60,62,36,42,126,45]:List Int) c_1).bind fun r_1=>some (decide (r_1≥(0:Int)))))))).bind fun (p_1:Bool) =>
  some p_1
def t6 (F:Nat) (s_1:List Int) (rec:Int→Option (Unit⊕Int)) (v_1:Int):Option (Unit⊕Int) :=
  (bif decide (v_1<(((s_1).length:Nat):Int)) then (yC s_1 v_1).bind fun c_1=>(pT c_1).bind fun r_1 =>
  (bif !r_1 then some (.inr (3:Int)) else
  rec (zK (v_1+(1:Int)))) else
  some (.inl ()))
def kZ (F:Nat) (s_1:List Int):Nat→Int→Option (Unit⊕Int)
  | 0,_=>none
  | n+1,v_1=>t6 F s_1 (kZ F s_1 n) v_1
def jK (F:Nat) (s_1:List Int):Option Int :=
  (bif ((s_1==([]:List Int))||decide ((((s_1).length:Nat):Int)>(40:Int))) then some (3:Int) else
  (kZ F s_1 F (0:Int)).bind fun (o_1:Unit⊕Int) =>
  (match o_1 with
  | (.inl q_1) =>
  some (0:Int)
  | (.inr q_2) =>
  some q_2))
def tE (F:Nat) (l_1:List (List Int)) (rec:Int→Option (Unit⊕Int)) (v_1:Int):Option (Unit⊕Int) :=
  (bif decide (v_1<(((l_1).length:Nat):Int)) then (yC l_1 v_1).bind fun x_1 =>
  (jK F x_1).bind fun r_1 =>
  (bif (r_1 != (0:Int)) then some (.inr r_1) else
  rec (zK (v_1+(1:Int)))) else
  some (.inl ()))
def jQ (F:Nat) (l_1:List (List Int)):Nat→Int→Option (Unit⊕Int)
  | 0,_=>none
  | n+1,v_1=>tE F l_1 (jQ F l_1 n) v_1
def j8 (F:Nat) (l_1:List (List Int)):Option Int :=
  (bif decide ((((l_1).length:Nat):Int)>(32:Int)) then some (7:Int) else
  (jQ F l_1 F (0:Int)).bind fun (o_1:Unit⊕Int) =>
  (match o_1 with
  | (.inl q_1) =>
  some (0:Int)
  | (.inr q_2) =>
  some q_2))
def zAv (F:Nat) (f_1:zR) (e_1:zA):Option Int :=
  (bif f_1.name then (jK F e_1.Name).bind fun r_1 =>
  some r_1 else
  (j8 F e_1.Stack).bind fun r_2 =>
  some r_2)
def jL (F:Nat) (e_1:zA):Option Int :=
  (bif (decide (e_1.At<(0:Int))||decide (e_1.At>(1000000000000:Int))) then some (2:Int) else
  (nS e_1.Kind).bind fun r_1 =>
  ((bif !r_1.2 then (some true) else (bif !r_1.1.name then (bif !(e_1.Name==([]:List Int)) then (some true) else (bif !r_1.1.n then (bif (e_1.N != (0:Int)) then (some true) else (bif !r_1.1.m then (bif (e_1.M != (0:Int)) then (some true) else (bif !r_1.1.stack then (some (decide ((((e_1.Stack).length:Nat):Int)>(0:Int)))) else (some false))) else (bif !r_1.1.stack then (some (decide ((((e_1.Stack).length:Nat):Int)>(0:Int)))) else (some false)))) else (bif !r_1.1.m then (bif (e_1.M != (0:Int)) then (some true) else (bif !r_1.1.stack then (some (decide ((((e_1.Stack).length:Nat):Int)>(0:Int)))) else (some false))) else (bif !r_1.1.stack then (some (decide ((((e_1.Stack).length:Nat):Int)>(0:Int)))) else (some false))))) else (bif !r_1.1.n then (bif (e_1.N != (0:Int)) then (some true) else (bif !r_1.1.m then (bif (e_1.M != (0:Int)) then (some true) else (bif !r_1.1.stack then (some (decide ((((e_1.Stack).length:Nat):Int)>(0:Int)))) else (some false))) else (bif !r_1.1.stack then (some (decide ((((e_1.Stack).length:Nat):Int)>(0:Int)))) else (some false)))) else (bif !r_1.1.m then (bif (e_1.M != (0:Int)) then (some true) else (bif !r_1.1.stack then (some (decide ((((e_1.Stack).length:Nat):Int)>(0:Int)))) else (some false))) else (bif !r_1.1.stack then (some (decide ((((e_1.Stack).length:Nat):Int)>(0:Int)))) else (some false))))))).bind fun (p_1:Bool) =>
  (bif p_1 then some (1:Int) else
  (zAv F r_1.1 e_1).bind fun r_2 =>
  (bif (r_2 != (0:Int)) then some r_2 else
  (bif (r_1.1.n&&(decide (e_1.N<r_1.1.least)||decide (e_1.N>r_1.1.most))) then some (2:Int) else
  (bif ((e_1.Kind==(9:Int))&&((e_1.N != (2:Int))&&(e_1.M != (0:Int)))) then some (1:Int) else
  (bif (r_1.1.m&&(bif decide (e_1.M<r_1.1.mLeast) then ((e_1.Kind != (9:Int))||(e_1.N==(2:Int))) else (decide (e_1.M>r_1.1.mMost)&&((e_1.Kind != (9:Int))||(e_1.N==(2:Int)))))) then some (2:Int) else
  some (0:Int)))))))
def uZ (F:Nat) (l_1:List (zA)) (rec:Int→Option (Unit⊕Int)) (v_1:Int):Option (Unit⊕Int) :=
  (bif decide (v_1<(((l_1).length:Nat):Int)) then (yC l_1 v_1).bind fun x_1 =>
  (jL F x_1).bind fun r_1 =>
  (bif (r_1 != (0:Int)) then some (.inr r_1) else
  ((bif decide (v_1>(0:Int)) then ((yC l_1 (zK (v_1 - (1:Int)))).bind fun x_2=>some (decide (x_1.At<x_2.At))) else (some false))).bind fun (p_1:Bool) =>
  (bif p_1 then some (.inr (11:Int)) else
  rec (zK (v_1+(1:Int))))) else
  some (.inl ()))
def tU (F:Nat) (l_1:List (zA)):Nat→Int→Option (Unit⊕Int)
  | 0,_=>none
  | n+1,v_1=>uZ F l_1 (tU F l_1 n) v_1
def k9 (F:Nat) (l_1:List (zA)):Option Int :=
  (tU F l_1 F (0:Int)).bind fun (o_1:Unit⊕Int) =>
  (match o_1 with
  | (.inl q_1) =>
  some (0:Int)
  | (.inr q_2) =>
  some q_2)
def x4 (F:Nat) (p_1:zF) (rec:Int→Option (Unit⊕Int)) (v_1:Int):Option (Unit⊕Int) :=
  (bif decide (v_1<((3:Nat):Int)) then (yC ([p_1.Thread,p_1.Serial,p_1.Lost]:List Int) v_1).bind fun x_1 =>
  (bif (decide (x_1<(0:Int))||decide (x_1>(1000000000000000:Int))) then some (.inr (2:Int)) else
  rec (zK (v_1+(1:Int)))) else
  some (.inl ()))
def kD (F:Nat) (p_1:zF):Nat→Int→Option (Unit⊕Int)
  | 0,_=>none
  | n+1,v_1=>x4 F p_1 (kD F p_1 n) v_1
def vY (F:Nat) (p_1:zF):Option Int :=
  (kD F p_1 F (0:Int)).bind fun (o_1:Unit⊕Int) =>
  (match o_1 with
  | (.inl q_1) =>
  (((bif decide (p_1.Lost>p_1.Serial) then some (decide (p_1.Lost>p_1.Serial)) else
  some (decide ((zK (p_1.Serial+(((p_1.Events).length:Nat):Int)))>(1000000000000000:Int)))):Option Bool)).bind fun (o_2:Bool) =>
  (bif o_2 then some (2:Int) else
  (bif ((((p_1.Events).length:Nat):Int)==(0:Int)) then some (8:Int) else
  (bif decide ((((p_1.Events).length:Nat):Int)>(1000:Int)) then some (7:Int) else
  (k9 F p_1.Events).bind fun r_1 =>
  some r_1)))
  | (.inr q_2) =>
  some q_2)
structure zE where
  c0:Int
  c1:Int
  deriving DecidableEq,Inhabited
def zGd (s:zE):List AV:=[.int .i64 s.c0,.int .i64 s.c1]
def zC (s:zE):AV:=.agg (zGd s)
def x6 (F:Nat) (names_1:List (List Int)) (rec:Int→(List ((List Int)×Bool))→Option (Unit⊕Int)) (v_1:Int) (row_1:List ((List Int)×Bool)):Option (Unit⊕Int) :=
  (bif decide (v_1<(((names_1).length:Nat):Int)) then (yC names_1 v_1).bind fun x_1 =>
  (jK F x_1).bind fun r_1 =>
  (bif (r_1 != (0:Int)) then some (.inr r_1) else
  (bif ((tJ row_1 x_1).getD false) then some (.inr (4:Int)) else
  (need ((row_1).length<140737488355328)).bind fun _ =>
  rec (zK (v_1+(1:Int))) (t3 row_1 x_1 true))) else
  some (.inl ()))
def uD (F:Nat) (names_1:List (List Int)):Nat→Int→(List ((List Int)×Bool))→Option (Unit⊕Int)
  | 0,_,_=>none
  | n+1,v_1,row_1=>x6 F names_1 (uD F names_1 n) v_1 row_1
def jD (F:Nat) (names_1:List (List Int)):Option Int :=
  (uD F names_1 F (0:Int) []).bind fun (o_1:Unit⊕Int) =>
  (match o_1 with
  | (.inl q_1) =>
  some (0:Int)
  | (.inr q_2) =>
  some q_2)
def tQ (F:Nat) (names_1:List (List Int)) (stacks_1:List (zE)) (rec:Int→(List (zE×Bool))→(List Int)→Option (Unit⊕Int)) (v_1:Int) (row_1:List (zE×Bool)) (row_2:List Int):Option (Unit⊕Int) :=
  (bif decide (v_1<(((stacks_1).length:Nat):Int)) then (yC stacks_1 v_1).bind fun x_1 =>
  (bif (decide (x_1.c0<(-1:Int))||(decide (x_1.c0≥v_1)||(decide (x_1.c1<(0:Int))||decide (x_1.c1≥(((names_1).length:Nat):Int))))) then some (.inr (2:Int)) else
  (bif ((tJ row_1 x_1).getD false) then some (.inr (4:Int)) else
  (need ((row_1).length<140737488355328)).bind fun _ =>
  (yC row_2 v_1).bind fun x_2 =>
  (((bif (x_1.c0 != (-1:Int)) then (yC ((row_2).set ((v_1).toNat) (1:Int)) v_1).bind fun x_3=>(yC ((row_2).set ((v_1).toNat) (1:Int)) x_1.c0).bind fun x_4=>(yC ((row_2).set ((v_1).toNat) (1:Int)) v_1).bind fun x_5 =>
  some (((row_2).set ((v_1).toNat) (1:Int)).set ((v_1).toNat) (zK (x_3+x_4))) else
  some ((row_2).set ((v_1).toNat) (1:Int))):Option (List Int))).bind fun (o_2:(List Int)) =>
  (yC o_2 v_1).bind fun x_6 =>
  (bif decide (x_6>(32:Int)) then some (.inr (7:Int)) else
  rec (zK (v_1+(1:Int))) (t3 row_1 x_1 true) o_2))) else
  some (.inl ()))
def qW (F:Nat) (names_1:List (List Int)) (stacks_1:List (zE)):Nat→Int→(List (zE×Bool))→(List Int)→Option (Unit⊕Int)
  | 0,_,_,_=>none
  | n+1,v_1,row_1,row_2=>tQ F names_1 stacks_1 (qW F names_1 stacks_1 n) v_1 row_1 row_2
def tN (F:Nat) (names_1:List (List Int)) (stacks_1:List (zE)):Option Int :=
  (bif (decide ((((names_1).length:Nat):Int)>(1000:Int))||decide ((((stacks_1).length:Nat):Int)>(1000:Int))) then some (7:Int) else
  (jD F names_1).bind fun r_1 =>
  (bif (r_1 != (0:Int)) then some r_1 else
  (need (((stacks_1).length) * 8≤281474976710656)).bind fun _ =>
  (qW F names_1 stacks_1 F (0:Int) [] (List.replicate ((stacks_1).length) (0:Int))).bind fun (o_1:Unit⊕Int) =>
  (match o_1 with
  | (.inl q_1) =>
  some (0:Int)
  | (.inr q_2) =>
  some q_2)))
def zAA (k_1:Int):Option (Bool×Bool×Bool×Bool) :=
  some (((k_1==(1:Int))||((k_1==(3:Int))||(k_1==(4:Int)))),decide (k_1≥(4:Int)),((k_1==(9:Int))||(k_1==(11:Int))),((k_1==(5:Int))||(k_1==(11:Int))))
def nP (n_1:Int):Option Int :=
  some (zAL .u64 (kL .u64 (zW n_1) (1:Int)) (zW (nJ .i64 n_1 (63:Int))))
def vF (F:Nat) (rec:Int→Int→(List Int)→Option (Int×(List Int))) (size_1:Int) (u_1:Int) (row_1:List Int):Option (Int×(List Int)) :=
  (need ((0:Int)≤size_1∧size_1<((10:Nat):Int))).bind fun _=>((row_1)[(size_1).toNat]?).bind fun x_1 =>
  (bif decide (u_1<(128:Int)) then some (zK (size_1+(1:Int)),(row_1).set ((size_1).toNat) (y4 (vG .u64 u_1 (127:Int)))) else
  (need ((0:Int)≤(zK ((zK (size_1+(1:Int))) - (1:Int)))∧(zK ((zK (size_1+(1:Int))) - (1:Int)))<((10:Nat):Int))).bind fun _=>(((row_1).set ((size_1).toNat) (y4 (vG .u64 u_1 (127:Int))))[(zK ((zK (size_1+(1:Int))) - (1:Int))).toNat]?).bind fun x_2=>(need ((0:Int)≤(zK ((zK (size_1+(1:Int))) - (1:Int)))∧(zK ((zK (size_1+(1:Int))) - (1:Int)))<((10:Nat):Int))).bind fun _=>(((row_1).set ((size_1).toNat) (y4 (vG .u64 u_1 (127:Int))))[(zK ((zK (size_1+(1:Int))) - (1:Int))).toNat]?).bind fun x_3 =>
  rec (zK (size_1+(1:Int))) (nJ .u64 u_1 (7:Int)) (((row_1).set ((size_1).toNat) (y4 (vG .u64 u_1 (127:Int)))).set ((zK ((zK (size_1+(1:Int))) - (1:Int))).toNat) (ior .u8 x_2 (128:Int))))
def uP (F:Nat):Nat→Int→Int→(List Int)→Option (Int×(List Int))
  | 0,_,_,_=>none
  | n+1,size_1,u_1,row_1=>vF F (uP F n) size_1 u_1 row_1
def xL (F:Nat) (b_1:List (Int)) (n_1:Int):Option (List (Int)) :=
  (nP n_1).bind fun r_1 =>
  (uP F F (0:Int) r_1 (List.replicate 10 (0:Int))).bind fun (o_1:(Int×(List Int))) =>
  (need ((0:Int)≤o_1.1∧o_1.1≤((10:Nat):Int)∧10≤(o_1.2).length)).bind fun _=>(need (0≤((o_1.1).toNat)∧((o_1.1).toNat)≤(o_1.2).length)).bind fun _=>(need (((sub b_1 (0:Int) (((b_1).length:Nat):Int)).length+(((o_1.2).take ((o_1.1).toNat)).drop 0).length) * 1≤140737488355328)).bind fun _=>(need (0<(((o_1.2).take ((o_1.1).toNat)).drop 0).length∨(sub b_1 (0:Int) (((b_1).length:Nat):Int)).length=0)).bind fun _ =>
  some ((sub b_1 (0:Int) (((b_1).length:Nat):Int))++(((o_1.2).take ((o_1.1).toNat)).drop 0))
def yY (F:Nat) (s_1:List (List Int)) (a_1:List Int) (rec:Int→Option (Unit⊕Int)) (v_1:Int):Option (Unit⊕Int) :=
  (bif decide (v_1<(((s_1).length:Nat):Int)) then (yC s_1 v_1).bind fun x_1 =>
  (bif (a_1==x_1) then some (.inr v_1) else
  rec (zK (v_1+(1:Int)))) else
  some (.inl ()))
def wT (F:Nat) (s_1:List (List Int)) (a_1:List Int):Nat→Int→Option (Unit⊕Int)
  | 0,_=>none
  | n+1,v_1=>yY F s_1 a_1 (wT F s_1 a_1 n) v_1
def vJ (F:Nat) (s_1:List (List Int)) (a_1:List Int):Option Int :=
  (wT F s_1 a_1 F (0:Int)).bind fun (o_1:Unit⊕Int) =>
  (match o_1 with
  | (.inl q_1) =>
  some (-1:Int)
  | (.inr q_2) =>
  some q_2)
def u1 (s_1:List (List Int)):Option (List (List Int)) :=
  (need (((([]:List (List Int))).length+(s_1).length) * 16≤140737488355328)).bind fun _ =>
  some ([]++s_1)
def zAa (F:Nat) (names_1:List (List Int)) (s_1:List Int):Option (Int×(List (List Int))×Int) :=
  (jK F s_1).bind fun r_1 =>
  (bif (r_1 != (0:Int)) then some ((0:Int),names_1,r_1) else
  (vJ F names_1 s_1).bind fun r_2 =>
  (bif decide (r_2≥(0:Int)) then some (r_2,names_1,(0:Int)) else
  (bif decide ((((names_1).length:Nat):Int)≥(1000:Int)) then some ((0:Int),names_1,(6:Int)) else
  (u1 names_1).bind fun r_3=>(need (((r_3).length+(([s_1]:List (List Int))).length) * 16≤140737488355328)).bind fun _ =>
  some ((((names_1).length:Nat):Int),(r_3++([s_1]:List (List Int))),(0:Int)))))
def tK (s_1:List (zE)):Option (List (zE)) :=
  (need (((([]:List zE)).length+(s_1).length) * 16≤140737488355328)).bind fun _ =>
  some ([]++s_1)
def y5 (F:Nat) (s_1:List (zE)) (a_1:zE) (rec:Int→Option (Unit⊕Int)) (v_1:Int):Option (Unit⊕Int) :=
  (bif decide (v_1<(((s_1).length:Nat):Int)) then (yC s_1 v_1).bind fun x_1 =>
  (bif (decide (a_1=x_1)) then some (.inr v_1) else
  rec (zK (v_1+(1:Int)))) else
  some (.inl ()))
def w8 (F:Nat) (s_1:List (zE)) (a_1:zE):Nat→Int→Option (Unit⊕Int)
  | 0,_=>none
  | n+1,v_1=>y5 F s_1 a_1 (w8 F s_1 a_1 n) v_1
def v7 (F:Nat) (s_1:List (zE)) (a_1:zE):Option Int :=
  (w8 F s_1 a_1 F (0:Int)).bind fun (o_1:Unit⊕Int) =>
  (match o_1 with
  | (.inl q_1) =>
  some (-1:Int)
  | (.inr q_2) =>
  some q_2)
def uH (F:Nat) (names_1:List (List Int)) (stacks_1:List (zE)) (l_1:List (List Int)) (rec:Int→(List (List Int))→Int→(List zE)→Option ((Int×(List (List Int))×(List zE))⊕(Int×(List (List Int))×(List (zE))×Int))) (at__1:Int) (n_1:List (List Int)) (v_1:Int) (row_1:List zE):Option ((Int×(List (List Int))×(List zE))⊕(Int×(List (List Int))×(List (zE))×Int)) :=
  (bif decide (v_1<(((l_1).length:Nat):Int)) then (yC l_1 v_1).bind fun x_1 =>
  (zAa F n_1 x_1).bind fun r_3 =>
  (bif (r_3.2.2 != (0:Int)) then some (.inr ((0:Int),names_1,stacks_1,r_3.2.2)) else
  (v7 F row_1 (⟨at__1,r_3.1⟩:zE)).bind fun r_4 =>
  (bif decide (r_4≥(0:Int)) then rec r_4 r_3.2.1 (zK (v_1+(1:Int))) row_1 else
  (bif decide ((((row_1).length:Nat):Int)≥(1000:Int)) then some (.inr ((0:Int),names_1,stacks_1,(6:Int))) else
  (need (((row_1).length+(([(⟨at__1,r_3.1⟩:zE)]:List zE)).length) * 16≤140737488355328)).bind fun _ =>
  rec (((row_1).length:Nat):Int) r_3.2.1 (zK (v_1+(1:Int))) (row_1++([(⟨at__1,r_3.1⟩:zE)]:List zE))))) else
  some (.inl (at__1,n_1,row_1)))
def tF (F:Nat) (names_1:List (List Int)) (stacks_1:List (zE)) (l_1:List (List Int)):Nat→Int→(List (List Int))→Int→(List zE)→Option ((Int×(List (List Int))×(List zE))⊕(Int×(List (List Int))×(List (zE))×Int))
  | 0,_,_,_,_=>none
  | n+1,at__1,n_1,v_1,row_1=>uH F names_1 stacks_1 l_1 (tF F names_1 stacks_1 l_1 n) at__1 n_1 v_1 row_1
def qS (F:Nat) (names_1:List (List Int)) (stacks_1:List (zE)) (l_1:List (List Int)):Option (Int×(List (List Int))×(List (zE))×Int) :=
  (j8 F l_1).bind fun r_1 =>
  (bif (r_1 != (0:Int)) then some ((0:Int),names_1,stacks_1,r_1) else
  (tK stacks_1).bind fun r_2 =>
  (tF F names_1 stacks_1 l_1 F (-1:Int) names_1 (0:Int) r_2).bind fun (o_1:(Int×(List (List Int))×(List zE))⊕(Int×(List (List Int))×(List (zE))×Int)) =>
  (match o_1 with
  | (.inl q_1) =>
  some (q_1.1,q_1.2.1,q_1.2.2,(0:Int))
  | (.inr q_2) =>
  some q_2))
def pU (F:Nat) (names_1:List (List Int)) (stacks_1:List (zE)) (e_1:zA):Option ((List (Int))×(List (List Int))×(List (zE))×Int) :=
  (tN F names_1 stacks_1).bind fun r_1 =>
  (bif (r_1 != (0:Int)) then some ([],[],[],(1:Int)) else
  (jL F e_1).bind fun r_2 =>
  (bif (r_2 != (0:Int)) then some ([],[],[],r_2) else
  (zAA e_1.Kind).bind fun r_3 =>
  (xL F [] e_1.Kind).bind fun r_4=>(xL F r_4 e_1.At).bind fun r_5 =>
  (((bif r_3.1 then (zAa F names_1 e_1.Name).bind fun r_6 =>
  (bif (r_6.2.2 != (0:Int)) then some (.inr ([],[],[],r_6.2.2)) else
  (xL F r_5 r_6.1).bind fun r_7 =>
  some (.inl (r_6.2.1,r_7))) else
  some (.inl (names_1,r_5))):Option (((List (List Int))×(List Int))⊕((List (Int))×(List (List Int))×(List (zE))×Int)))).bind fun (o_1:((List (List Int))×(List Int))⊕((List (Int))×(List (List Int))×(List (zE))×Int)) =>
  (match o_1 with
  | (.inl q_1) =>
  (((bif r_3.2.1 then (xL F q_1.2 e_1.N).bind fun r_8 =>
  some r_8 else
  some q_1.2):Option (List Int))).bind fun (o_2:(List Int)) =>
  (((bif r_3.2.2.1 then (xL F o_2 e_1.M).bind fun r_9 =>
  some r_9 else
  some o_2):Option (List Int))).bind fun (o_3:(List Int)) =>
  (((bif r_3.2.2.2 then (qS F q_1.1 stacks_1 e_1.Stack).bind fun r_10 =>
  (bif (r_10.2.2.2 != (0:Int)) then some (.inr ([],[],[],r_10.2.2.2)) else
  (xL F o_3 r_10.1).bind fun r_11 =>
  some (.inl (r_10.2.1,r_10.2.2.1,r_11))) else
  some (.inl (q_1.1,stacks_1,o_3))):Option (((List (List Int))×(List zE)×(List Int))⊕((List (Int))×(List (List Int))×(List (zE))×Int)))).bind fun (o_4:((List (List Int))×(List zE)×(List Int))⊕((List (Int))×(List (List Int))×(List (zE))×Int)) =>
  (match o_4 with
  | (.inl q_3) =>
  some (q_3.2.2,q_3.1,q_3.2.1,(0:Int))
  | (.inr q_4) =>
  some q_4)
  | (.inr q_2) =>
  some q_2)))
def pY (F:Nat) (b_1:List (Int)) (s_1:List Int):Option (List (Int)) :=
  (xL F b_1 (((s_1).length:Nat):Int)).bind fun r_1 =>
  (need ((0:Int)≤(zK ((((r_1).length:Nat):Int)+(((s_1).length:Nat):Int)))∧((zK ((((r_1).length:Nat):Int)+(((s_1).length:Nat):Int))).toNat) * 1≤281474976710656)).bind fun _ =>
  (need (0≤((zK ((((r_1).length:Nat):Int)+(((s_1).length:Nat):Int))).toNat)∧((zK ((((r_1).length:Nat):Int)+(((s_1).length:Nat):Int))).toNat)≤((List.replicate ((zK ((((r_1).length:Nat):Int)+(((s_1).length:Nat):Int))).toNat) (0:Int))).length)).bind fun _ =>
  (need ((((r_1).length:Nat):Int)≤(((zK ((((r_1).length:Nat):Int)+(((s_1).length:Nat):Int))).toNat:Nat):Int))).bind fun _=>(need (((r_1).length)≤((zK ((((r_1).length:Nat):Int)+(((s_1).length:Nat):Int))).toNat)∧((zK ((((r_1).length:Nat):Int)+(((s_1).length:Nat):Int))).toNat)≤((cpy (List.replicate ((zK ((((r_1).length:Nat):Int)+(((s_1).length:Nat):Int))).toNat) (0:Int)) 0 ((zK ((((r_1).length:Nat):Int)+(((s_1).length:Nat):Int))).toNat) r_1)).length)).bind fun _ =>
  some (cpy (cpy (List.replicate ((zK ((((r_1).length:Nat):Int)+(((s_1).length:Nat):Int))).toNat) (0:Int)) 0 ((zK ((((r_1).length:Nat):Int)+(((s_1).length:Nat):Int))).toNat) r_1) ((r_1).length) ((zK ((((r_1).length:Nat):Int)+(((s_1).length:Nat):Int))).toNat) s_1)
def uX (F:Nat) (l_1:List (Int)) (rec:Int→(List Int)→Option (List Int)) (v_1:Int) (row_1:List Int):Option (List Int) :=
  (bif decide (v_1<(((l_1).length:Nat):Int)) then (yC l_1 v_1).bind fun x_1 =>
  (xL F row_1 x_1).bind fun r_1 =>
  rec (zK (v_1+(1:Int))) r_1 else
  some row_1)
def tT (F:Nat) (l_1:List (Int)):Nat→Int→(List Int)→Option (List Int)
  | 0,_,_=>none
  | n+1,v_1,row_1=>uX F l_1 (tT F l_1 n) v_1 row_1
def pD (F:Nat) (l_1:List (Int)):Option (List (Int)) :=
  (tT F l_1 F (0:Int) []).bind fun (o_1:(List Int)) =>
  some o_1
def uY (F:Nat) (l_1:List (Int)) (rec:Int→(List Int)→Option (List Int)) (v_1:Int) (row_1:List Int):Option (List Int) :=
  (bif decide (v_1<(((l_1).length:Nat):Int)) then (yC l_1 v_1).bind fun x_1 =>
  (xL F row_1 x_1).bind fun r_1 =>
  rec (zK (v_1+(1:Int))) r_1 else
  some row_1)
def tW (F:Nat) (l_1:List (Int)):Nat→Int→(List Int)→Option (List Int)
  | 0,_,_=>none
  | n+1,v_1,row_1=>uY F l_1 (tW F l_1 n) v_1 row_1
def t9 (F:Nat) (b_1:List (Int)) (l_1:List (Int)):Option (List (Int)) :=
  (tW F l_1 F (0:Int) b_1).bind fun (o_1:(List Int)) =>
  some o_1
def tD (F:Nat) (p_1:zF) (rec:(List (List Int))→(List zE)→Int→(List Int)→Option (((List (List Int))×(List zE)×(List Int))⊕((List (Int))×Int))) (names_1:List (List Int)) (stacks_1:List zE) (v_1:Int) (row_1:List Int):Option (((List (List Int))×(List zE)×(List Int))⊕((List (Int))×Int)) :=
  (bif decide (v_1<(((p_1.Events).length:Nat):Int)) then (yC p_1.Events v_1).bind fun x_1 =>
  (pU F names_1 stacks_1 x_1).bind fun r_2 =>
  (bif (r_2.2.2.2 != (0:Int)) then some (.inr ([],r_2.2.2.2)) else
  (need (((row_1).length+(r_2.1).length) * 1≤140737488355328)).bind fun _ =>
  rec r_2.2.1 r_2.2.2.1 (zK (v_1+(1:Int))) (row_1++r_2.1)) else
  some (.inl (names_1,stacks_1,row_1)))
def qD (F:Nat) (p_1:zF):Nat→(List (List Int))→(List zE)→Int→(List Int)→Option (((List (List Int))×(List zE)×(List Int))⊕((List (Int))×Int))
  | 0,_,_,_,_=>none
  | n+1,names_1,stacks_1,v_1,row_1=>tD F p_1 (qD F p_1 n) names_1 stacks_1 v_1 row_1
def tB (F:Nat) (q_1:(List (List Int))×(List zE)×(List Int)) (rec:Int→(List Int)→Option (List Int)) (v_2:Int) (row_2:List Int):Option (List Int) :=
  (bif decide (v_2<(((q_1.1).length:Nat):Int)) then (yC q_1.1 v_2).bind fun x_2 =>
  (pY F row_2 x_2).bind fun r_4 =>
  rec (zK (v_2+(1:Int))) r_4 else
  some row_2)
def qH (F:Nat) (q_1:(List (List Int))×(List zE)×(List Int)):Nat→Int→(List Int)→Option (List Int)
  | 0,_,_=>none
  | n+1,v_2,row_2=>tB F q_1 (qH F q_1 n) v_2 row_2
def tA (F:Nat) (q_1:(List (List Int))×(List zE)×(List Int)) (rec:Int→(List Int)→Option (List Int)) (v_3:Int) (row_3:List Int):Option (List Int) :=
  (bif decide (v_3<(((q_1.2.1).length:Nat):Int)) then (yC q_1.2.1 v_3).bind fun x_3 =>
  (t9 F row_3 ([x_3.c0,x_3.c1]:List Int)).bind fun r_6 =>
  rec (zK (v_3+(1:Int))) r_6 else
  some row_3)
def qI (F:Nat) (q_1:(List (List Int))×(List zE)×(List Int)):Nat→Int→(List Int)→Option (List Int)
  | 0,_,_=>none
  | n+1,v_3,row_3=>tA F q_1 (qI F q_1 n) v_3 row_3
def jB (F:Nat) (p_1:zF):Option ((List (Int))×Int) :=
  (vY F p_1).bind fun r_1 =>
  (bif (r_1 != (0:Int)) then some ([],r_1) else
  (qD F p_1 F [] [] (0:Int) []).bind fun (o_1:((List (List Int))×(List zE)×(List Int))⊕((List (Int))×Int)) =>
  (match o_1 with
  | (.inl q_1) =>
  (pD F ([p_1.Thread,p_1.Serial,p_1.Lost,(((q_1.1).length:Nat):Int)]:List Int)).bind fun r_3 =>
  (qH F q_1 F (0:Int) r_3).bind fun (o_2:(List Int)) =>
  (t9 F o_2 ([(((q_1.2.1).length:Nat):Int)]:List Int)).bind fun r_5 =>
  (qI F q_1 F (0:Int) r_5).bind fun (o_3:(List Int)) =>
  (t9 F o_3 ([(((p_1.Events).length:Nat):Int)]:List Int)).bind fun r_7=>(need (((r_7).length+(q_1.2.2).length) * 1≤140737488355328)).bind fun _ =>
  some ((r_7++q_1.2.2),(0:Int))
  | (.inr q_2) =>
  some q_2))
structure zU where
  b:List (Int)
  used:Int
  fault:Int
  deriving DecidableEq,Inhabited
def zQ (s:zU):List AV:=[.sl false 1 (List.map (AV.int .u8) s.b),.int .i64 s.used,.int .i64 s.fault]
def pZ (u_1:Int):Option Int :=
  some (zAL .i64 (zK (nJ .u64 u_1 (1:Int))) (zK (0 - (zK (vG .u64 u_1 (1:Int))))))
def jF (F:Nat) (b_1:List (Int)) (rec:Int→Int→Option (Unit⊕(Int×Int×Int))) (u_1:Int) (v_1:Int):Option (Unit⊕(Int×Int×Int)) :=
  (bif decide (v_1<(((b_1).length:Nat):Int)) then (yC b_1 v_1).bind fun x_1 =>
  (bif ((v_1==(9:Int))&&decide (x_1>(1:Int))) then some (.inr ((0:Int),(0:Int),(10:Int))) else
  (need ((0:Int)≤(zK ((7:Int) * v_1)))).bind fun _ =>
  (bif decide (x_1≥(128:Int)) then rec (ior .u64 u_1 (kL .u64 (zW (vG .u8 x_1 (127:Int))) (zK ((7:Int) * v_1)))) (zK (v_1+(1:Int))) else
  (bif ((x_1==(0:Int))&&decide (v_1>(0:Int))) then some (.inr ((0:Int),(0:Int),(10:Int))) else
  (pZ (ior .u64 u_1 (kL .u64 (zW (vG .u8 x_1 (127:Int))) (zK ((7:Int) * v_1))))).bind fun r_1 =>
  some (.inr (r_1,zK (v_1+(1:Int)),(0:Int)))))) else
  some (.inl ()))
def jO (F:Nat) (b_1:List (Int)):Nat→Int→Int→Option (Unit⊕(Int×Int×Int))
  | 0,_,_=>none
  | n+1,u_1,v_1=>jF F b_1 (jO F b_1 n) u_1 v_1
def nO (F:Nat) (b_1:List (Int)):Option (Int×Int×Int) :=
  (jO F b_1 F (0:Int) (0:Int)).bind fun (o_1:Unit⊕(Int×Int×Int)) =>
  (match o_1 with
  | (.inl q_1) =>
  some ((0:Int),(0:Int),(8:Int))
  | (.inr q_2) =>
  some q_2)
def xY (F:Nat) (x_1:zU):Option (Int×zU) :=
  (bif (x_1.fault != (0:Int)) then some ((0:Int),x_1) else
  (need ((0:Int)≤x_1.used∧x_1.used≤(((x_1.b).length:Nat):Int))).bind fun _=>(nO F (sub x_1.b x_1.used (((x_1.b).length:Nat):Int))).bind fun r_1 =>
  some (r_1.1,(⟨x_1.b,zK (x_1.used+r_1.2.1),r_1.2.2⟩:zU)))
def wC (F:Nat) (x_1:zU) (most_1:Int):Option (Int×zU) :=
  (xY F x_1).bind fun r_1 =>
  (bif (r_1.2.fault != (0:Int)) then some ((0:Int),r_1.2) else
  (bif decide (r_1.1<(0:Int)) then some ((0:Int),(⟨r_1.2.b,r_1.2.used,(10:Int)⟩:zU)) else
  (bif decide (r_1.1>most_1) then some ((0:Int),(⟨r_1.2.b,r_1.2.used,(7:Int)⟩:zU)) else
  some (r_1.1,r_1.2))))
def zAj (F:Nat) (b_1:List (Int)) (most_1:Int):Option ((List Int)×Int×Int) :=
  (nO F b_1).bind fun r_1 =>
  (bif (r_1.2.2 != (0:Int)) then some (([]:List Int),(0:Int),r_1.2.2) else
  (bif decide (r_1.1<(0:Int)) then some (([]:List Int),(0:Int),(10:Int)) else
  (bif decide (r_1.1>most_1) then some (([]:List Int),(0:Int),(7:Int)) else
  (bif decide (r_1.1>(zK ((((b_1).length:Nat):Int) - r_1.2.1))) then some (([]:List Int),(0:Int),(8:Int)) else
  (need ((0:Int)≤r_1.2.1∧r_1.2.1≤(zK (r_1.2.1+r_1.1))∧(zK (r_1.2.1+r_1.1))≤(((b_1).length:Nat):Int))).bind fun _ =>
  some (sub b_1 r_1.2.1 (zK (r_1.2.1+r_1.1)),zK (r_1.2.1+r_1.1),(0:Int))))))
def jG (F:Nat) (x_1:zU):Option ((List Int)×zU) :=
  (bif (x_1.fault != (0:Int)) then some (([]:List Int),x_1) else
  (need ((0:Int)≤x_1.used∧x_1.used≤(((x_1.b).length:Nat):Int))).bind fun _=>(zAj F (sub x_1.b x_1.used (((x_1.b).length:Nat):Int)) (40:Int)).bind fun r_1 =>
  some (r_1.1,(⟨x_1.b,zK (x_1.used+r_1.2.1),r_1.2.2⟩:zU)))
structure yI where
  b:List (Int)
  used:Int
  fault:Int
  deriving DecidableEq,Inhabited
def z5 (s:yI):List AV:=[.sl false 1 (List.map (AV.int .u8) s.b),.int .i64 s.used,.int .i64 s.fault]
def xN (F:Nat) (x_1:yI):Option (Int×yI) :=
  (bif (x_1.fault != (0:Int)) then some ((0:Int),x_1) else
  (need ((0:Int)≤x_1.used∧x_1.used≤(((x_1.b).length:Nat):Int))).bind fun _=>(nO F (sub x_1.b x_1.used (((x_1.b).length:Nat):Int))).bind fun r_1 =>
  some (r_1.1,(⟨x_1.b,zK (x_1.used+r_1.2.1),r_1.2.2⟩:yI)))
def xQ (F:Nat) (rec:Int→Int→(List (List Int))→Option (List (List Int))) (i_1:Int) (j_1:Int) (row_1:List (List Int)):Option (List (List Int)) :=
  (bif decide (i_1<j_1) then (yC row_1 j_1).bind fun x_1=>(yC row_1 i_1).bind fun x_2=>(yC row_1 i_1).bind fun x_3=>(yC ((row_1).set ((i_1).toNat) x_1) j_1).bind fun x_4 =>
  rec (zK (i_1+(1:Int))) (zK (j_1 - (1:Int))) (((row_1).set ((i_1).toNat) x_1).set ((j_1).toNat) x_2) else
  some row_1)
def xO (F:Nat):Nat→Int→Int→(List (List Int))→Option (List (List Int))
  | 0,_,_,_=>none
  | n+1,i_1,j_1,row_1=>xQ F (xO F n) i_1 j_1 row_1
def w5 (F:Nat) (s_1:List (List Int)):Option (List (List Int)) :=
  (xO F F (0:Int) (zK ((((s_1).length:Nat):Int) - (1:Int))) s_1).bind fun (o_1:(List (List Int))) =>
  some o_1
def vH (F:Nat) (names_1:List (List Int)) (stacks_1:List (zE)) (rec:Int→(List (List Int))→Option (List (List Int))) (i_2:Int) (row_1:List (List Int)):Option (List (List Int)) :=
  (bif (i_2 != (-1:Int)) then (yC stacks_1 i_2).bind fun x_1=>(yC names_1 x_1.c1).bind fun x_2=>(need (((row_1).length+(([x_2]:List (List Int))).length) * 16≤140737488355328)).bind fun _ =>
  (yC stacks_1 i_2).bind fun x_3 =>
  rec x_3.c0 (row_1++([x_2]:List (List Int))) else
  some row_1)
def kJ (F:Nat) (names_1:List (List Int)) (stacks_1:List (zE)):Nat→Int→(List (List Int))→Option (List (List Int))
  | 0,_,_=>none
  | n+1,i_2,row_1=>vH F names_1 stacks_1 (kJ F names_1 stacks_1 n) i_2 row_1
def kW (F:Nat) (names_1:List (List Int)) (stacks_1:List (zE)) (i_1:Int):Option ((List (List Int))×Int) :=
  (tN F names_1 stacks_1).bind fun r_1 =>
  (bif (r_1 != (0:Int)) then some ([],(1:Int)) else
  (bif (decide (i_1<(-1:Int))||decide (i_1≥(((stacks_1).length:Nat):Int))) then some ([],(2:Int)) else
  (kJ F names_1 stacks_1 F i_1 []).bind fun (o_1:(List (List Int))) =>
  (w5 F o_1).bind fun r_2=>(need ((r_2).length=(o_1).length)).bind fun _ =>
  some (r_2,(0:Int))))
def pR (F:Nat) (names_1:List (List Int)) (stacks_1:List (zE)) (b_1:List (Int)):Option (zA×Int×Int) :=
  (tN F names_1 stacks_1).bind fun r_1 =>
  (bif (r_1 != (0:Int)) then some ((⟨(0:Int),(0:Int),([]:List Int),(0:Int),(0:Int),[]⟩:zA),(0:Int),(1:Int)) else
  (xN F (⟨b_1,(0:Int),(0:Int)⟩:yI)).bind fun r_2 =>
  (xN F r_2.2).bind fun r_3 =>
  (((bif ((r_3.2.fault==(0:Int))&&(decide (r_2.1<(1:Int))||decide (r_2.1>(12:Int)))) then some (10:Int) else
  some r_3.2.fault):Option Int)).bind fun (o_1:Int) =>
  (zAA r_2.1).bind fun r_4 =>
  (((bif r_4.1 then (xN F (⟨r_3.2.b,r_3.2.used,o_1⟩:yI)).bind fun r_5 =>
  some (r_5.1,r_5.2.b,r_5.2.used,r_5.2.fault) else
  some ((0:Int),r_3.2.b,r_3.2.used,o_1)):Option (Int×(List Int)×Int×Int))).bind fun (o_2:(Int×(List Int)×Int×Int)) =>
  (((bif r_4.2.1 then (xN F (⟨o_2.2.1,o_2.2.2.1,o_2.2.2.2⟩:yI)).bind fun r_6 =>
  some (r_6.2.b,r_6.2.used,r_6.2.fault,r_6.1) else
  some (o_2.2.1,o_2.2.2.1,o_2.2.2.2,(0:Int))):Option ((List Int)×Int×Int×Int))).bind fun (o_3:((List Int)×Int×Int×Int)) =>
  (((bif r_4.2.2.1 then (xN F (⟨o_3.1,o_3.2.1,o_3.2.2.1⟩:yI)).bind fun r_7 =>
  some (r_7.2.b,r_7.2.used,r_7.2.fault,r_7.1) else
  some (o_3.1,o_3.2.1,o_3.2.2.1,(0:Int))):Option ((List Int)×Int×Int×Int))).bind fun (o_4:((List Int)×Int×Int×Int)) =>
  (((bif r_4.2.2.2 then (xN F (⟨o_4.1,o_4.2.1,o_4.2.2.1⟩:yI)).bind fun r_8 =>
  some (r_8.1,r_8.2.b,r_8.2.used,r_8.2.fault) else
  some ((-1:Int),o_4.1,o_4.2.1,o_4.2.2.1)):Option (Int×(List Int)×Int×Int))).bind fun (o_5:(Int×(List Int)×Int×Int)) =>
  (((bif (o_5.2.2.2 != (0:Int)) then some (.inr ((⟨(0:Int),(0:Int),([]:List Int),(0:Int),(0:Int),[]⟩:zA),(0:Int),o_5.2.2.2)) else
  (bif (r_4.1&&(decide (o_2.1<(0:Int))||decide (o_2.1≥(((names_1).length:Nat):Int)))) then some (.inr ((⟨(0:Int),(0:Int),([]:List Int),(0:Int),(0:Int),[]⟩:zA),(0:Int),(2:Int))) else
  (bif (decide (o_5.1<(-1:Int))||decide (o_5.1≥(((stacks_1).length:Nat):Int))) then some (.inr ((⟨(0:Int),(0:Int),([]:List Int),(0:Int),(0:Int),[]⟩:zA),(0:Int),(2:Int))) else
  some (.inl ())))):Option (Unit⊕(zA×Int×Int)))).bind fun (o_6:Unit⊕(zA×Int×Int)) =>
  (match o_6 with
  | (.inl q_1) =>
  (((bif r_4.1 then (yC names_1 o_2.1).bind fun x_1 =>
  some x_1 else
  some ([]:List Int)):Option (List Int))).bind fun (o_7:(List Int)) =>
  (kW F names_1 stacks_1 o_5.1).bind fun r_9 =>
  (jL F (⟨r_3.1,r_2.1,o_7,o_3.2.2.2,o_4.2.2.2,r_9.1⟩:zA)).bind fun r_10 =>
  (bif (r_10 != (0:Int)) then some ((⟨(0:Int),(0:Int),([]:List Int),(0:Int),(0:Int),[]⟩:zA),(0:Int),(10:Int)) else
  some ((⟨r_3.1,r_2.1,o_7,o_3.2.2.2,o_4.2.2.2,r_9.1⟩:zA),o_5.2.2.1,(0:Int)))
  | (.inr q_2) =>
  some q_2))
def zAt (a_1:List (Int)) (b_1:List (Int)):Option Bool :=
  some (a_1==b_1)
def w3 (F:Nat) (rec:Int→(List Int)→Int→Int→(List (List Int))→Option ((List Int)×Int×Int×(List (List Int)))) (n_1:Int) (c_1:List Int) (c_2:Int) (c_3:Int) (row_1:List (List Int)):Option ((List Int)×Int×Int×(List (List Int))) :=
  (bif (decide (n_1>(0:Int))&&(c_3==(0:Int))) then (jG F (⟨c_1,c_2,c_3⟩:zU)).bind fun r_5=>(need (((row_1).length+(([r_5.1]:List (List Int))).length) * 16≤140737488355328)).bind fun _ =>
  rec (zK (n_1 - (1:Int))) r_5.2.b r_5.2.used r_5.2.fault (row_1++([r_5.1]:List (List Int))) else
  some (c_1,c_2,c_3,row_1))
def qA (F:Nat):Nat→Int→(List Int)→Int→Int→(List (List Int))→Option ((List Int)×Int×Int×(List (List Int)))
  | 0,_,_,_,_,_=>none
  | n+1,n_1,c_1,c_2,c_3,row_1=>w3 F (qA F n) n_1 c_1 c_2 c_3 row_1
def wZ (F:Nat) (rec:Int→(List Int)→Int→Int→(List zE)→Option ((List Int)×Int×Int×(List zE))) (n_3:Int) (c_4:List Int) (c_5:Int) (c_6:Int) (row_2:List zE):Option ((List Int)×Int×Int×(List zE)) :=
  (bif (decide (n_3>(0:Int))&&(c_6==(0:Int))) then (xY F (⟨c_4,c_5,c_6⟩:zU)).bind fun r_7 =>
  (xY F r_7.2).bind fun r_8=>(need (((row_2).length+(([(⟨r_7.1,r_8.1⟩:zE)]:List zE)).length) * 16≤140737488355328)).bind fun _ =>
  rec (zK (n_3 - (1:Int))) r_8.2.b r_8.2.used r_8.2.fault (row_2++([(⟨r_7.1,r_8.1⟩:zE)]:List zE)) else
  some (c_4,c_5,c_6,row_2))
def qC (F:Nat):Nat→Int→(List Int)→Int→Int→(List zE)→Option ((List Int)×Int×Int×(List zE))
  | 0,_,_,_,_,_=>none
  | n+1,n_3,c_4,c_5,c_6,row_2=>wZ F (qC F n) n_3 c_4 c_5 c_6 row_2
def wW (F:Nat) (b_1:List (Int)) (o_1:((List Int)×Int×Int×(List (List Int)))) (o_2:((List Int)×Int×Int×(List zE))) (rec:Int→Int→Int→(List zA)→Option (Int×Int×(List zA))) (n_5:Int) (c_7:Int) (c_8:Int) (row_3:List zA):Option (Int×Int×(List zA)) :=
  (bif (decide (n_5>(0:Int))&&(c_8==(0:Int))) then (need ((0:Int)≤c_7∧c_7≤(((b_1).length:Nat):Int))).bind fun _=>(pR F o_1.2.2.2 o_2.2.2.2 (sub b_1 c_7 (((b_1).length:Nat):Int))).bind fun r_11 =>
  (need (((row_3).length+(([r_11.1]:List zA)).length) * 72≤140737488355328)).bind fun _ =>
  rec (zK (n_5 - (1:Int))) (zK (c_7+r_11.2.1)) r_11.2.2 (row_3++([r_11.1]:List zA)) else
  some (c_7,c_8,row_3))
def qE (F:Nat) (b_1:List (Int)) (o_1:((List Int)×Int×Int×(List (List Int)))) (o_2:((List Int)×Int×Int×(List zE))):Nat→Int→Int→Int→(List zA)→Option (Int×Int×(List zA))
  | 0,_,_,_,_=>none
  | n+1,n_5,c_7,c_8,row_3=>wW F b_1 o_1 o_2 (qE F b_1 o_1 o_2 n) n_5 c_7 c_8 row_3
def j7 (F:Nat) (b_1:List (Int)):Option (zF×Int×Int) :=
  (xY F (⟨b_1,(0:Int),(0:Int)⟩:zU)).bind fun r_1 =>
  (xY F r_1.2).bind fun r_2 =>
  (xY F r_2.2).bind fun r_3 =>
  (wC F r_3.2 (1000:Int)).bind fun r_4 =>
  (qA F F r_4.1 r_4.2.b r_4.2.used r_4.2.fault []).bind fun (o_1:((List Int)×Int×Int×(List (List Int)))) =>
  (wC F (⟨o_1.1,o_1.2.1,o_1.2.2.1⟩:zU) (1000:Int)).bind fun r_6 =>
  (qC F F r_6.1 r_6.2.b r_6.2.used r_6.2.fault []).bind fun (o_2:((List Int)×Int×Int×(List zE))) =>
  (((bif (o_2.2.2.1==(0:Int)) then (tN F o_1.2.2.2 o_2.2.2.2).bind fun r_9 =>
  some r_9 else
  some o_2.2.2.1):Option Int)).bind fun (o_3:Int) =>
  (wC F (⟨o_2.1,o_2.2.1,o_3⟩:zU) (1000:Int)).bind fun r_10 =>
  (qE F b_1 o_1 o_2 F r_10.1 r_10.2.used r_10.2.fault []).bind fun (o_4:(Int×Int×(List zA))) =>
  (((bif (o_4.2.1==(0:Int)) then (vY F (⟨r_1.1,r_2.1,r_3.1,o_4.2.2⟩:zF)).bind fun r_12 =>
  some r_12 else
  some o_4.2.1):Option Int)).bind fun (o_5:Int) =>
  (bif (o_5 != (0:Int)) then some ((⟨(0:Int),(0:Int),(0:Int),[]⟩:zF),(0:Int),o_5) else
  (jB F (⟨r_1.1,r_2.1,r_3.1,o_4.2.2⟩:zF)).bind fun r_13 =>
  ((bif (r_13.2 != (0:Int)) then (some true) else ((need ((0:Int)≤o_4.1∧o_4.1≤(((b_1).length:Nat):Int))).bind fun _=>(zAt r_13.1 (sub b_1 (0:Int) o_4.1)).bind fun r_14=>some (!r_14)))).bind fun (p_1:Bool) =>
  (bif p_1 then some ((⟨(0:Int),(0:Int),(0:Int),[]⟩:zF),(0:Int),(10:Int)) else
  some ((⟨r_1.1,r_2.1,r_3.1,o_4.2.2⟩:zF),o_4.1,(0:Int))))
def x3 (n_1:Int):Option (List (zA)) :=
  (((bif decide (n_1<(0:Int)) then none else
  some ()):Option Unit)).bind fun (o_1:Unit) =>
  (bif decide ((zK (n_1 - (zK ((0:Int) - ((0:Nat):Int)))))>(0:Int)) then (need ((0:Int)≤(zK (n_1 - (zK ((0:Int) - ((0:Nat):Int)))))∧0<((zK (n_1 - (zK ((0:Int) - ((0:Nat):Int))))).toNat)∧((zK (n_1 - (zK ((0:Int) - ((0:Nat):Int))))).toNat) * 72≤140737488355328)).bind fun _ =>
  some [] else
  some [])
def xC (F:Nat) (slices_1:List (List (zA))) (rec:Int→Int→Option Int) (size_1:Int) (v_1:Int):Option Int :=
  (bif decide (v_1<(((slices_1).length:Nat):Int)) then (yC slices_1 v_1).bind fun x_1 =>
  (bif decide ((zK (size_1+(((x_1).length:Nat):Int)))<(0:Int)) then none else
  rec (zK (size_1+(((x_1).length:Nat):Int))) (zK (v_1+(1:Int)))) else
  some size_1)
def yV (F:Nat) (slices_1:List (List (zA))):Nat→Int→Int→Option Int
  | 0,_,_=>none
  | n+1,size_1,v_1=>xC F slices_1 (yV F slices_1 n) size_1 v_1
def xB (F:Nat) (slices_1:List (List (zA))) (rec:Int→(List zA)→Option (List zA)) (v_2:Int) (row_1:List zA):Option (List zA) :=
  (bif decide (v_2<(((slices_1).length:Nat):Int)) then (yC slices_1 v_2).bind fun x_2 =>
  (need (((row_1).length+(x_2).length) * 72≤140737488355328)).bind fun _ =>
  rec (zK (v_2+(1:Int))) (row_1++x_2) else
  some row_1)
def yW (F:Nat) (slices_1:List (List (zA))):Nat→Int→(List zA)→Option (List zA)
  | 0,_,_=>none
  | n+1,v_2,row_1=>xB F slices_1 (yW F slices_1 n) v_2 row_1
def xS (F:Nat) (slices_1:List (List (zA))):Option (List (zA)) :=
  (yV F slices_1 F (0:Int) (0:Int)).bind fun (o_1:Int) =>
  (x3 o_1).bind fun r_1 =>
  (yW F slices_1 F (0:Int) r_1).bind fun (o_2:(List zA)) =>
  some o_2
def zCU (F:Nat) (a_1:zF) (b_1:zF):Option (zF×Bool) :=
  (((vY F a_1).bind fun r_1=>bif (r_1 != (0:Int)) then (some true) else ((vY F b_1).bind fun r_2=>bif (r_2 != (0:Int)) then (some true) else (bif (a_1.Thread != b_1.Thread) then (some true) else (bif (b_1.Lost != (0:Int)) then (some true) else (some (b_1.Serial != (zK (a_1.Serial+(((a_1.Events).length:Nat):Int)))))))))).bind fun (p_1:Bool) =>
  (bif p_1 then some ((⟨(0:Int),(0:Int),(0:Int),[]⟩:zF),false) else
  (xS F ([a_1.Events,b_1.Events]:List (List (zA)))).bind fun r_3 =>
  (((yC b_1.Events (0:Int)).bind fun x_1=>(yC a_1.Events (zK ((((a_1.Events).length:Nat):Int) - (1:Int)))).bind fun x_2=>bif decide (x_1.At<x_2.At) then (some true) else (some (decide ((((r_3).length:Nat):Int)>(1000:Int)))))).bind fun (p_2:Bool) =>
  (bif p_2 then some ((⟨(0:Int),(0:Int),(0:Int),[]⟩:zF),false) else
  some ((⟨a_1.Thread,a_1.Serial,a_1.Lost,r_3⟩:zF),true)))
def y2 (s_1:List (zA)):Option (List (zA)) :=
  (need (((([]:List zA)).length+(s_1).length) * 72≤140737488355328)).bind fun _ =>
  some ([]++s_1)
def zCB (F:Nat) (p_1:zF) (n_1:Int):Option (zF×zF×Bool) :=
  (((vY F p_1).bind fun r_1=>bif (r_1 != (0:Int)) then (some true) else (bif decide (n_1<(1:Int)) then (some true) else (some (decide (n_1≥(((p_1.Events).length:Nat):Int))))))).bind fun (p_2:Bool) =>
  (bif p_2 then some ((⟨(0:Int),(0:Int),(0:Int),[]⟩:zF),(⟨(0:Int),(0:Int),(0:Int),[]⟩:zF),false) else
  (need ((0:Int)≤n_1∧n_1≤(((p_1.Events).length:Nat):Int))).bind fun _=>(y2 (sub p_1.Events n_1 (((p_1.Events).length:Nat):Int))).bind fun r_2 =>
  (need ((0:Int)≤n_1∧n_1≤(((p_1.Events).length:Nat):Int))).bind fun _=>(y2 (sub p_1.Events (0:Int) n_1)).bind fun r_3 =>
  some ((⟨p_1.Thread,p_1.Serial,p_1.Lost,r_3⟩:zF),(⟨p_1.Thread,zK (p_1.Serial+n_1),(0:Int),r_2⟩:zF),true))
def uL (F:Nat) (a_1:List (List Int)) (b_1:List (List Int)) (rec:Int→Option (Unit⊕Bool)) (i_1:Int):Option (Unit⊕Bool) :=
  (bif decide (i_1<(((a_1).length:Nat):Int)) then (yC a_1 i_1).bind fun x_1=>(yC b_1 i_1).bind fun x_2 =>
  (bif !(x_1==x_2) then some (.inr false) else
  rec (zK (i_1+(1:Int)))) else
  some (.inl ()))
def nX (F:Nat) (a_1:List (List Int)) (b_1:List (List Int)):Nat→Int→Option (Unit⊕Bool)
  | 0,_=>none
  | n+1,i_1=>uL F a_1 b_1 (nX F a_1 b_1 n) i_1
def zBO (F:Nat) (a_1:List (List Int)) (b_1:List (List Int)):Option Bool :=
  (bif ((((a_1).length:Nat):Int) != (((b_1).length:Nat):Int)) then some false else
  (nX F a_1 b_1 F (0:Int)).bind fun (o_1:Unit⊕Bool) =>
  (match o_1 with
  | (.inl q_1) =>
  some true
  | (.inr q_2) =>
  some q_2))
def zCk (F:Nat) (a_1:zA) (b_1:zA):Option Bool :=
  ((bif (a_1.At==b_1.At) then (bif (a_1.Kind==b_1.Kind) then (bif (a_1.Name==b_1.Name) then (bif (a_1.N==b_1.N) then (bif (a_1.M==b_1.M) then ((zBO F a_1.Stack b_1.Stack).bind fun r_1=>some r_1) else (some false)) else (some false)) else (some false)) else (some false)) else (some false))).bind fun (p_1:Bool) =>
  some p_1
def u7 (F:Nat) (a_1:zF) (b_1:zF) (rec:Int→Option (Unit⊕Bool)) (i_1:Int):Option (Unit⊕Bool) :=
  (bif decide (i_1<(((a_1.Events).length:Nat):Int)) then (yC a_1.Events i_1).bind fun x_1=>(yC b_1.Events i_1).bind fun x_2=>(zCk F x_1 x_2).bind fun r_1 =>
  (bif !r_1 then some (.inr false) else
  rec (zK (i_1+(1:Int)))) else
  some (.inl ()))
def zAE (F:Nat) (a_1:zF) (b_1:zF):Nat→Int→Option (Unit⊕Bool)
  | 0,_=>none
  | n+1,i_1=>u7 F a_1 b_1 (zAE F a_1 b_1 n) i_1
def zAK (F:Nat) (a_1:zF) (b_1:zF):Option Bool :=
  (bif ((a_1.Thread != b_1.Thread)||((a_1.Serial != b_1.Serial)||((a_1.Lost != b_1.Lost)||((((a_1.Events).length:Nat):Int) != (((b_1.Events).length:Nat):Int))))) then some false else
  (zAE F a_1 b_1 F (0:Int)).bind fun (o_1:Unit⊕Bool) =>
  (match o_1 with
  | (.inl q_1) =>
  some true
  | (.inr q_2) =>
  some q_2))
def uO (F:Nat) (s1_1:List (List Int)) (s2_1:List (List Int)) (rec:Int→Option (Unit⊕Bool)) (v_1:Int):Option (Unit⊕Bool) :=
  (bif decide (v_1<(((s1_1).length:Nat):Int)) then (yC s1_1 v_1).bind fun x_1=>(yC s2_1 v_1).bind fun x_2 =>
  (bif !(x_1==x_2) then some (.inr false) else
  rec (zK (v_1+(1:Int)))) else
  some (.inl ()))
def vW (F:Nat) (s1_1:List (List Int)) (s2_1:List (List Int)):Nat→Int→Option (Unit⊕Bool)
  | 0,_=>none
  | n+1,v_1=>uO F s1_1 s2_1 (vW F s1_1 s2_1 n) v_1
def q8 (F:Nat) (s1_1:List (List Int)) (s2_1:List (List Int)):Option Bool :=
  (bif ((((s1_1).length:Nat):Int) != (((s2_1).length:Nat):Int)) then some false else
  (vW F s1_1 s2_1 F (0:Int)).bind fun (o_1:Unit⊕Bool) =>
  (match o_1 with
  | (.inl q_1) =>
  some true
  | (.inr q_2) =>
  some q_2))
def zDo (F:Nat) (a_1:zA) (b_1:zA):Option Bool :=
  ((bif (a_1.At==b_1.At) then (bif (a_1.Kind==b_1.Kind) then (bif (a_1.Name==b_1.Name) then (bif (a_1.N==b_1.N) then (bif (a_1.M==b_1.M) then ((q8 F a_1.Stack b_1.Stack).bind fun r_1=>some r_1) else (some false)) else (some false)) else (some false)) else (some false)) else (some false))).bind fun (p_1:Bool) =>
  some p_1
def yB (F:Nat) (s1_1:List (zA)) (s2_1:List (zA)) (rec:Int→Option (Unit⊕Bool)) (v_1:Int):Option (Unit⊕Bool) :=
  (bif decide (v_1<(((s1_1).length:Nat):Int)) then (yC s1_1 v_1).bind fun x_1 =>
  (yC s2_1 v_1).bind fun x_2 =>
  (zDo F x_1 x_2).bind fun r_1 =>
  (bif !r_1 then some (.inr false) else
  rec (zK (v_1+(1:Int)))) else
  some (.inl ()))
def yA (F:Nat) (s1_1:List (zA)) (s2_1:List (zA)):Nat→Int→Option (Unit⊕Bool)
  | 0,_=>none
  | n+1,v_1=>yB F s1_1 s2_1 (yA F s1_1 s2_1 n) v_1
def yK (F:Nat) (s1_1:List (zA)) (s2_1:List (zA)):Option Bool :=
  (bif ((((s1_1).length:Nat):Int) != (((s2_1).length:Nat):Int)) then some false else
  (yA F s1_1 s2_1 F (0:Int)).bind fun (o_1:Unit⊕Bool) =>
  (match o_1 with
  | (.inl q_1) =>
  some true
  | (.inr q_2) =>
  some q_2))
def zCW (F:Nat) (a_1:zF) (b_1:zF):Option Bool :=
  ((bif (a_1.Thread==b_1.Thread) then (bif (a_1.Serial==b_1.Serial) then (bif (a_1.Lost==b_1.Lost) then ((yK F a_1.Events b_1.Events).bind fun r_1=>some r_1) else (some false)) else (some false)) else (some false))).bind fun (p_1:Bool) =>
  some p_1
def zBS (F:Nat):Option Bool :=
  (jB F (⟨(7:Int),(1:Int),(1:Int),([(⟨(5:Int),(3:Int),([97]:List Int),(0:Int),(0:Int),[]⟩:zA)]:List zA)⟩:zF)).bind fun r_1 =>
  (bif (!(r_1.1==([14,2,2,2,2,97,0,2,6,10,0]:List Int))||(r_1.2 != (0:Int))) then some false else
  (need (((r_1.1).length+(([(9:Int)]:List Int)).length) * 1≤140737488355328)).bind fun _=>(j7 F (r_1.1++([(9:Int)]:List Int))).bind fun r_2 =>
  (zCU F (⟨(7:Int),(1:Int),(1:Int),([(⟨(5:Int),(3:Int),([97]:List Int),(0:Int),(0:Int),[]⟩:zA)]:List zA)⟩:zF) (⟨(7:Int),(2:Int),(0:Int),([(⟨(5:Int),(3:Int),([97]:List Int),(0:Int),(0:Int),[]⟩:zA)]:List zA)⟩:zF)).bind fun r_3 =>
  (zCB F r_3.1 (1:Int)).bind fun r_4 =>
  (((zAK F r_2.1 (⟨(7:Int),(1:Int),(1:Int),([(⟨(5:Int),(3:Int),([97]:List Int),(0:Int),(0:Int),[]⟩:zA)]:List zA)⟩:zF)).bind fun r_5=>bif r_5 then (bif (r_2.2.1==(11:Int)) then (bif (r_2.2.2==(0:Int)) then (bif r_3.2 then (bif ((((r_3.1.Events).length:Nat):Int)==(2:Int)) then (bif r_4.2.2 then ((zAK F r_4.1 (⟨(7:Int),(1:Int),(1:Int),([(⟨(5:Int),(3:Int),([97]:List Int),(0:Int),(0:Int),[]⟩:zA)]:List zA)⟩:zF)).bind fun r_6=>bif r_6 then (bif (r_4.2.1.Serial==(2:Int)) then ((zCW F (⟨(7:Int),(1:Int),(1:Int),([(⟨(5:Int),(3:Int),([97]:List Int),(0:Int),(0:Int),[]⟩:zA)]:List zA)⟩:zF) r_2.1).bind fun r_7=>bif r_7 then ((vY F (⟨(7:Int),(1:Int),(1:Int),([(⟨(5:Int),(3:Int),([97]:List Int),(0:Int),(0:Int),[]⟩:zA)]:List zA)⟩:zF)).bind fun r_8=>some (r_8==(0:Int))) else (some false)) else (some false)) else (some false)) else (some false)) else (some false)) else (some false)) else (some false)) else (some false)) else (some false))).bind fun (p_1:Bool) =>
  some p_1)
def pO (n_1:Int):Option Bool :=
  some (decide (n_1≥(0:Int))&&decide (n_1≤(1000000000000000:Int)))
def zDL (k_1:Int):Option (Bool×Bool×Bool×Bool) :=
  some (((k_1==(1:Int))||((k_1==(3:Int))||(k_1==(4:Int)))),decide (k_1≥(4:Int)),((k_1==(9:Int))||(k_1==(11:Int))),((k_1==(5:Int))||(k_1==(11:Int))))
def v6 (F:Nat) (c_1:Int) (rec:Int→Option (Unit⊕Bool)) (i_1:Int):Option (Unit⊕Bool) :=
  (bif decide (i_1<(((([95,46,58,47,60,62,36,42,126,45]:List Int)).length:Nat):Int)) then (yC ([95,46,58,47,60,62,36,42,126,45]:List Int) i_1).bind fun c_2 =>
  (bif (c_2==c_1) then some (.inr true) else
  rec (zK (i_1+(1:Int)))) else
  some (.inl ()))
def tY (F:Nat) (c_1:Int):Nat→Int→Option (Unit⊕Bool)
  | 0,_=>none
  | n+1,i_1=>v6 F c_1 (tY F c_1 n) i_1
def zAX (F:Nat) (c_1:Int):Option Bool :=
  (bif (bif decide (c_1≥(97:Int)) then (decide (c_1≤(122:Int))||(bif decide (c_1≥(65:Int)) then (decide (c_1≤(90:Int))||(decide (c_1≥(48:Int))&&decide (c_1≤(57:Int)))) else (decide (c_1≥(48:Int))&&decide (c_1≤(57:Int))))) else (bif decide (c_1≥(65:Int)) then (decide (c_1≤(90:Int))||(decide (c_1≥(48:Int))&&decide (c_1≤(57:Int)))) else (decide (c_1≥(48:Int))&&decide (c_1≤(57:Int))))) then some true else
  (tY F c_1 F (0:Int)).bind fun (o_1:Unit⊕Bool) =>
  (match o_1 with
  | (.inl q_1) =>
  some false
  | (.inr q_2) =>
  some q_2))
def jT (F:Nat) (s_1:List Int) (rec:Int→Option (Unit⊕Int)) (i_1:Int):Option (Unit⊕Int) :=
  (bif decide (i_1<(((s_1).length:Nat):Int)) then (yC s_1 i_1).bind fun c_1=>(zAX F c_1).bind fun r_1 =>
  (bif !r_1 then some (.inr (3:Int)) else
  rec (zK (i_1+(1:Int)))) else
  some (.inl ()))
def zAs (F:Nat) (s_1:List Int):Nat→Int→Option (Unit⊕Int)
  | 0,_=>none
  | n+1,i_1=>jT F s_1 (zAs F s_1 n) i_1
def nM (F:Nat) (s_1:List Int):Option Int :=
  (bif (decide ((((s_1).length:Nat):Int)<(1:Int))||decide ((((s_1).length:Nat):Int)>(40:Int))) then some (3:Int) else
  (zAs F s_1 F (0:Int)).bind fun (o_1:Unit⊕Int) =>
  (match o_1 with
  | (.inl q_1) =>
  some (0:Int)
  | (.inr q_2) =>
  some q_2))
def qO (F:Nat) (l_1:List (List Int)) (rec:Int→Option (Unit⊕Int)) (i_1:Int):Option (Unit⊕Int) :=
  (bif decide (i_1<(((l_1).length:Nat):Int)) then (yC l_1 i_1).bind fun x_1=>(nM F x_1).bind fun r_1 =>
  (bif (r_1 != (0:Int)) then some (.inr (3:Int)) else
  rec (zK (i_1+(1:Int)))) else
  some (.inl ()))
def pS (F:Nat) (l_1:List (List Int)):Nat→Int→Option (Unit⊕Int)
  | 0,_=>none
  | n+1,i_1=>qO F l_1 (pS F l_1 n) i_1
def zAd (F:Nat) (l_1:List (List Int)):Option Int :=
  (bif decide ((((l_1).length:Nat):Int)>(32:Int)) then some (7:Int) else
  (pS F l_1 F (0:Int)).bind fun (o_1:Unit⊕Int) =>
  (match o_1 with
  | (.inl q_1) =>
  some (0:Int)
  | (.inr q_2) =>
  some q_2))
def tO (n_1:Int) (low_1:Int) (high_1:Int):Option Int :=
  (bif (decide (n_1<low_1)||decide (n_1>high_1)) then some (2:Int) else
  some (0:Int))
def zAr (e_1:zA):Option Int :=
  (((((bif (e_1.Kind==(1:Int)) then some (e_1.Kind==(1:Int)) else
  (bif (e_1.Kind==(2:Int)) then some (e_1.Kind==(2:Int)) else
  some (e_1.Kind==(3:Int)))):Option Bool)).bind fun (o_2:Bool) =>
  (bif o_2 then some (.inr (0:Int)) else
  (bif (e_1.Kind==(4:Int)) then (tO e_1.N (-1000000000000000:Int) (1000000000000000:Int)).bind fun r_1 =>
  some (.inr r_1) else
  (bif (e_1.Kind==(5:Int)) then (tO e_1.N (1:Int) (1000000000000:Int)).bind fun r_2 =>
  some (.inr r_2) else
  (bif (e_1.Kind==(8:Int)) then (tO e_1.N (0:Int) (63:Int)).bind fun r_3 =>
  some (.inr r_3) else
  (bif (e_1.Kind==(9:Int)) then (tO e_1.N (0:Int) (3:Int)).bind fun r_4 =>
  (bif ((r_4==(0:Int))&&(e_1.N==(2:Int))) then (tO e_1.M (0:Int) (1000000000000000:Int)).bind fun r_5 =>
  some (.inr r_5) else
  (bif ((r_4==(0:Int))&&(e_1.M != (0:Int))) then some (.inr (1:Int)) else
  some (.inr r_4))) else
  some (.inl ())))))):Option (Unit⊕Int))).bind fun (o_1:Unit⊕Int) =>
  (match o_1 with
  | (.inl q_1) =>
  (tO e_1.N (0:Int) (1000000000000000:Int)).bind fun r_6 =>
  (bif ((r_6==(0:Int))&&(e_1.Kind==(11:Int))) then (tO e_1.M (1:Int) (1000000000000:Int)).bind fun r_7 =>
  some r_7 else
  some r_6)
  | (.inr q_2) =>
  some q_2)
def pH (F:Nat) (e_1:zA):Option Int :=
  (bif (decide (e_1.At<(0:Int))||decide (e_1.At>(1000000000000:Int))) then some (2:Int) else
  (bif (decide (e_1.Kind<(1:Int))||decide (e_1.Kind>(12:Int))) then some (1:Int) else
  (zDL e_1.Kind).bind fun r_1 =>
  ((bif !r_1.1 then (bif !(e_1.Name==([]:List Int)) then (some true) else (bif !r_1.2.1 then (bif (e_1.N != (0:Int)) then (some true) else (bif !r_1.2.2.1 then (bif (e_1.M != (0:Int)) then (some true) else (bif !r_1.2.2.2 then (some (decide ((((e_1.Stack).length:Nat):Int)>(0:Int)))) else (some false))) else (bif !r_1.2.2.2 then (some (decide ((((e_1.Stack).length:Nat):Int)>(0:Int)))) else (some false)))) else (bif !r_1.2.2.1 then (bif (e_1.M != (0:Int)) then (some true) else (bif !r_1.2.2.2 then (some (decide ((((e_1.Stack).length:Nat):Int)>(0:Int)))) else (some false))) else (bif !r_1.2.2.2 then (some (decide ((((e_1.Stack).length:Nat):Int)>(0:Int)))) else (some false))))) else (bif !r_1.2.1 then (bif (e_1.N != (0:Int)) then (some true) else (bif !r_1.2.2.1 then (bif (e_1.M != (0:Int)) then (some true) else (bif !r_1.2.2.2 then (some (decide ((((e_1.Stack).length:Nat):Int)>(0:Int)))) else (some false))) else (bif !r_1.2.2.2 then (some (decide ((((e_1.Stack).length:Nat):Int)>(0:Int)))) else (some false)))) else (bif !r_1.2.2.1 then (bif (e_1.M != (0:Int)) then (some true) else (bif !r_1.2.2.2 then (some (decide ((((e_1.Stack).length:Nat):Int)>(0:Int)))) else (some false))) else (bif !r_1.2.2.2 then (some (decide ((((e_1.Stack).length:Nat):Int)>(0:Int)))) else (some false)))))).bind fun (p_1:Bool) =>
  (bif p_1 then some (1:Int) else
  (((bif r_1.1 then (nM F e_1.Name).bind fun r_2 =>
  some r_2 else
  some (0:Int)):Option Int)).bind fun (o_1:Int) =>
  (((bif r_1.2.2.2 then (zAd F e_1.Stack).bind fun r_3 =>
  some r_3 else
  some o_1):Option Int)).bind fun (o_2:Int) =>
  (bif (o_2 != (0:Int)) then some o_2 else
  (zAr e_1).bind fun r_4 =>
  some r_4))))
def tP (F:Nat) (l_1:List (zA)) (rec:Int→Option (Unit⊕Int)) (i_1:Int):Option (Unit⊕Int) :=
  (bif decide (i_1<(((l_1).length:Nat):Int)) then (yC l_1 i_1).bind fun x_1=>(pH F x_1).bind fun r_1 =>
  (bif (r_1 != (0:Int)) then some (.inr r_1) else
  ((bif decide (i_1>(0:Int)) then ((yC l_1 i_1).bind fun x_2=>(yC l_1 (zK (i_1 - (1:Int)))).bind fun x_3=>some (decide (x_2.At<x_3.At))) else (some false))).bind fun (p_1:Bool) =>
  (bif p_1 then some (.inr (11:Int)) else
  rec (zK (i_1+(1:Int))))) else
  some (.inl ()))
def qU (F:Nat) (l_1:List (zA)):Nat→Int→Option (Unit⊕Int)
  | 0,_=>none
  | n+1,i_1=>tP F l_1 (qU F l_1 n) i_1
def nN (F:Nat) (l_1:List (zA)):Option Int :=
  (qU F l_1 F (0:Int)).bind fun (o_1:Unit⊕Int) =>
  (match o_1 with
  | (.inl q_1) =>
  some (0:Int)
  | (.inr q_2) =>
  some q_2)
def zAN (F:Nat) (p_1:zF):Option Int :=
  (((pO p_1.Thread).bind fun r_1=>bif !r_1 then (some true) else ((pO p_1.Serial).bind fun r_2=>bif !r_2 then (some true) else ((pO p_1.Lost).bind fun r_3=>bif !r_3 then (some true) else (some (decide (p_1.Lost>p_1.Serial))))))).bind fun (p_2:Bool) =>
  (bif p_2 then some (2:Int) else
  (bif decide (p_1.Serial>(zK ((1000000000000000:Int) - (((p_1.Events).length:Nat):Int)))) then some (2:Int) else
  (bif ((((p_1.Events).length:Nat):Int)==(0:Int)) then some (8:Int) else
  (bif decide ((((p_1.Events).length:Nat):Int)>(1000:Int)) then some (7:Int) else
  (nN F p_1.Events).bind fun r_4 =>
  some r_4))))
def u5 (F:Nat) (l_1:List (List Int)) (s_1:List Int) (rec:Int→Option (Unit⊕Int)) (i_1:Int):Option (Unit⊕Int) :=
  (bif decide (i_1<(((l_1).length:Nat):Int)) then (yC l_1 i_1).bind fun x_1 =>
  (bif (x_1==s_1) then some (.inr i_1) else
  rec (zK (i_1+(1:Int)))) else
  some (.inl ()))
def zAD (F:Nat) (l_1:List (List Int)) (s_1:List Int):Nat→Int→Option (Unit⊕Int)
  | 0,_=>none
  | n+1,i_1=>u5 F l_1 s_1 (zAD F l_1 s_1 n) i_1
def zBe (F:Nat) (l_1:List (List Int)) (s_1:List Int):Option Int :=
  (zAD F l_1 s_1 F (0:Int)).bind fun (o_1:Unit⊕Int) =>
  (match o_1 with
  | (.inl q_1) =>
  some (-1:Int)
  | (.inr q_2) =>
  some q_2)
def w4 (F:Nat) (l_1:List (zE)) (p_1:zE) (rec:Int→Option (Unit⊕Int)) (i_1:Int):Option (Unit⊕Int) :=
  (bif decide (i_1<(((l_1).length:Nat):Int)) then (yC l_1 i_1).bind fun x_1 =>
  (bif (decide (x_1=p_1)) then some (.inr i_1) else
  rec (zK (i_1+(1:Int)))) else
  some (.inl ()))
def jW (F:Nat) (l_1:List (zE)) (p_1:zE):Nat→Int→Option (Unit⊕Int)
  | 0,_=>none
  | n+1,i_1=>w4 F l_1 p_1 (jW F l_1 p_1 n) i_1
def kC (F:Nat) (l_1:List (zE)) (p_1:zE):Option Int :=
  (jW F l_1 p_1 F (0:Int)).bind fun (o_1:Unit⊕Int) =>
  (match o_1 with
  | (.inl q_1) =>
  some (-1:Int)
  | (.inr q_2) =>
  some q_2)
def uI (F:Nat) (stacks_1:List (zE)) (rec:Int→Int→Option Int) (i_2:Int) (n_1:Int):Option Int :=
  (bif decide (i_2≥(0:Int)) then (yC stacks_1 i_2).bind fun x_1 =>
  rec x_1.c0 (zK (n_1+(1:Int))) else
  some n_1)
def pB (F:Nat) (stacks_1:List (zE)):Nat→Int→Int→Option Int
  | 0,_,_=>none
  | n+1,i_2,n_1=>uI F stacks_1 (pB F stacks_1 n) i_2 n_1
def zCJ (F:Nat) (stacks_1:List (zE)) (i_1:Int):Option Int :=
  (pB F stacks_1 F i_1 (0:Int)).bind fun (o_1:Int) =>
  some o_1
def uJ (F:Nat) (names_1:List (List Int)) (rec:Int→Option (Unit⊕Int)) (i_1:Int):Option (Unit⊕Int) :=
  (bif decide (i_1<(((names_1).length:Nat):Int)) then (yC names_1 i_1).bind fun x_1=>(nM F x_1).bind fun r_1 =>
  (bif (r_1 != (0:Int)) then some (.inr (3:Int)) else
  (need ((0:Int)≤i_1∧i_1≤(((names_1).length:Nat):Int))).bind fun _=>(yC names_1 i_1).bind fun x_2=>(zBe F (sub names_1 (0:Int) i_1) x_2).bind fun r_2 =>
  (bif decide (r_2≥(0:Int)) then some (.inr (4:Int)) else
  rec (zK (i_1+(1:Int))))) else
  some (.inl ()))
def pC (F:Nat) (names_1:List (List Int)):Nat→Int→Option (Unit⊕Int)
  | 0,_=>none
  | n+1,i_1=>uJ F names_1 (pC F names_1 n) i_1
def jE (F:Nat) (names_1:List (List Int)) (stacks_1:List (zE)) (rec:Int→Option (Unit⊕Int)) (i_2:Int):Option (Unit⊕Int) :=
  (bif decide (i_2<(((stacks_1).length:Nat):Int)) then (yC stacks_1 i_2).bind fun x_3 =>
  (bif (decide (x_3.c0<(-1:Int))||(decide (x_3.c0≥i_2)||(decide (x_3.c1<(0:Int))||decide (x_3.c1≥(((names_1).length:Nat):Int))))) then some (.inr (2:Int)) else
  (need ((0:Int)≤i_2∧i_2≤(((stacks_1).length:Nat):Int))).bind fun _=>(kC F (sub stacks_1 (0:Int) i_2) x_3).bind fun r_3 =>
  (bif decide (r_3≥(0:Int)) then some (.inr (4:Int)) else
  (zCJ F stacks_1 i_2).bind fun r_4 =>
  (bif decide (r_4>(32:Int)) then some (.inr (7:Int)) else
  rec (zK (i_2+(1:Int)))))) else
  some (.inl ()))
def kS (F:Nat) (names_1:List (List Int)) (stacks_1:List (zE)):Nat→Int→Option (Unit⊕Int)
  | 0,_=>none
  | n+1,i_2=>jE F names_1 stacks_1 (kS F names_1 stacks_1 n) i_2
def tH (F:Nat) (names_1:List (List Int)) (stacks_1:List (zE)):Option Int :=
  (bif (decide ((((names_1).length:Nat):Int)>(1000:Int))||decide ((((stacks_1).length:Nat):Int)>(1000:Int))) then some (7:Int) else
  (pC F names_1 F (0:Int)).bind fun (o_1:Unit⊕Int) =>
  (match o_1 with
  | (.inl q_1) =>
  (kS F names_1 stacks_1 F (0:Int)).bind fun (o_2:Unit⊕Int) =>
  (match o_2 with
  | (.inl q_3) =>
  some (0:Int)
  | (.inr q_4) =>
  some q_4)
  | (.inr q_2) =>
  some q_2))
def zBt (k_1:Int):Option (Bool×Bool×Bool×Bool) :=
  (((bif (k_1==(1:Int)) then some (k_1==(1:Int)) else
  some (k_1==(3:Int))):Option Bool)).bind fun (o_1:Bool) =>
  (bif o_1 then some (true,false,false,false) else
  (bif (k_1==(4:Int)) then some (true,true,false,false) else
  (bif (k_1==(5:Int)) then some (false,true,false,true) else
  (((bif (k_1==(6:Int)) then some (k_1==(6:Int)) else
  (bif (k_1==(7:Int)) then some (k_1==(7:Int)) else
  (bif (k_1==(8:Int)) then some (k_1==(8:Int)) else
  (bif (k_1==(10:Int)) then some (k_1==(10:Int)) else
  some (k_1==(12:Int)))))):Option Bool)).bind fun (o_2:Bool) =>
  (bif o_2 then some (false,true,false,false) else
  (bif (k_1==(9:Int)) then some (false,true,true,false) else
  (bif (k_1==(11:Int)) then some (false,true,true,true) else
  some (false,false,false,false)))))))
def zCg (F:Nat) (names_1:List (List Int)) (s_1:List Int):Option (Int×(List (List Int))×Int) :=
  (nM F s_1).bind fun r_1 =>
  (bif (r_1 != (0:Int)) then some ((0:Int),names_1,(3:Int)) else
  (zBe F names_1 s_1).bind fun r_2 =>
  (bif decide (r_2≥(0:Int)) then some (r_2,names_1,(0:Int)) else
  (bif decide ((((names_1).length:Nat):Int)≥(1000:Int)) then some ((0:Int),names_1,(6:Int)) else
  (need (((([]:List (List Int))).length+(names_1).length) * 16≤140737488355328)).bind fun _=>(need (((([]++names_1)).length+(([s_1]:List (List Int))).length) * 16≤140737488355328)).bind fun _ =>
  some ((((names_1).length:Nat):Int),(([]++names_1)++([s_1]:List (List Int))),(0:Int)))))
def tL (F:Nat) (names_1:List (List Int)) (stacks_1:List (zE)) (l_1:List (List Int)) (rec:Int→(List (List Int))→Int→(List zE)→Option ((Int×(List (List Int))×(List zE))⊕(Int×(List (List Int))×(List (zE))×Int))) (at__1:Int) (n_1:List (List Int)) (k_1:Int) (row_1:List zE):Option ((Int×(List (List Int))×(List zE))⊕(Int×(List (List Int))×(List (zE))×Int)) :=
  (bif decide (k_1<(((l_1).length:Nat):Int)) then (((yC l_1 k_1).bind fun x_1=>(zCg F n_1 x_1).bind fun r_2 =>
  (bif (r_2.2.2 != (0:Int)) then some (.inr ((0:Int),names_1,stacks_1,r_2.2.2)) else
  (kC F row_1 (⟨at__1,r_2.1⟩:zE)).bind fun r_3 =>
  (bif decide (r_3≥(0:Int)) then some (.inl (r_3,r_2.2.1,row_1)) else
  (bif decide ((((row_1).length:Nat):Int)≥(1000:Int)) then some (.inr ((0:Int),names_1,stacks_1,(6:Int))) else
  (need (((row_1).length+(([(⟨at__1,r_2.1⟩:zE)]:List zE)).length) * 16≤140737488355328)).bind fun _ =>
  some (.inl ((((row_1).length:Nat):Int),r_2.2.1,(row_1++([(⟨at__1,r_2.1⟩:zE)]:List zE))))))):Option ((Int×(List (List Int))×(List zE))⊕(Int×(List (List Int))×(List (zE))×Int)))).bind fun (o_2:(Int×(List (List Int))×(List zE))⊕(Int×(List (List Int))×(List (zE))×Int)) =>
  (match o_2 with
  | (.inl q_1) =>
  rec q_1.1 q_1.2.1 (zK (k_1+(1:Int))) q_1.2.2
  | (.inr q_2) =>
  some (.inr q_2)) else
  some (.inl (at__1,n_1,row_1)))
def qY (F:Nat) (names_1:List (List Int)) (stacks_1:List (zE)) (l_1:List (List Int)):Nat→Int→(List (List Int))→Int→(List zE)→Option ((Int×(List (List Int))×(List zE))⊕(Int×(List (List Int))×(List (zE))×Int))
  | 0,_,_,_,_=>none
  | n+1,at__1,n_1,k_1,row_1=>tL F names_1 stacks_1 l_1 (qY F names_1 stacks_1 l_1 n) at__1 n_1 k_1 row_1
def kY (F:Nat) (names_1:List (List Int)) (stacks_1:List (zE)) (l_1:List (List Int)):Option (Int×(List (List Int))×(List (zE))×Int) :=
  (zAd F l_1).bind fun r_1 =>
  (bif (r_1 != (0:Int)) then some ((0:Int),names_1,stacks_1,r_1) else
  (need (((([]:List zE)).length+(stacks_1).length) * 16≤140737488355328)).bind fun _ =>
  (qY F names_1 stacks_1 l_1 F (-1:Int) names_1 (0:Int) ([]++stacks_1)).bind fun (o_1:(Int×(List (List Int))×(List zE))⊕(Int×(List (List Int))×(List (zE))×Int)) =>
  (match o_1 with
  | (.inl q_3) =>
  some (q_3.1,q_3.2.1,q_3.2.2,(0:Int))
  | (.inr q_4) =>
  some q_4))
def zAR (n_1:Int):Option Int :=
  (bif decide (n_1<(0:Int)) then some (zW ((zW ((2:Int) * (zW (zK (0 - (zK (n_1+(1:Int))))))))+(1:Int))) else
  some (zW ((2:Int) * (zW n_1))))
def vZ (F:Nat) (rec:Int→(List Int)→Option (Int×(List Int))) (u_1:Int) (row_1:List Int):Option (Int×(List Int)) :=
  (bif decide (u_1≥(128:Int)) then (need (((row_1).length+(([y4 ((y4 (vC u_1 (128:Int)))+(128:Int))]:List Int)).length) * 1≤140737488355328)).bind fun _ =>
  rec (zCu .u64 u_1 (128:Int)) (row_1++([y4 ((y4 (vC u_1 (128:Int)))+(128:Int))]:List Int)) else
  some (u_1,row_1))
def q9 (F:Nat):Nat→Int→(List Int)→Option (Int×(List Int))
  | 0,_,_=>none
  | n+1,u_1,row_1=>vZ F (q9 F n) u_1 row_1
def vN (F:Nat) (b_1:List (Int)) (n_1:Int):Option (List (Int)) :=
  (need (((([]:List Int)).length+(b_1).length) * 1≤140737488355328)).bind fun _ =>
  (zAR n_1).bind fun r_1 =>
  (q9 F F r_1 ([]++b_1)).bind fun (o_1:(Int×(List Int))) =>
  (need (((o_1.2).length+(([y4 o_1.1]:List Int)).length) * 1≤140737488355328)).bind fun _ =>
  some (o_1.2++([y4 o_1.1]:List Int))
def v8 (F:Nat) (l_1:List (Int)) (rec:(List Int)→Int→Option (List Int)) (out_1:List Int) (i_1:Int):Option (List Int) :=
  (bif decide (i_1<(((l_1).length:Nat):Int)) then (yC l_1 i_1).bind fun x_1=>(vN F out_1 x_1).bind fun r_1 =>
  rec r_1 (zK (i_1+(1:Int))) else
  some out_1)
def pQ (F:Nat) (l_1:List (Int)):Nat→(List Int)→Int→Option (List Int)
  | 0,_,_=>none
  | n+1,out_1,i_1=>v8 F l_1 (pQ F l_1 n) out_1 i_1
def zAi (F:Nat) (l_1:List (Int)):Option (List (Int)) :=
  (pQ F l_1 F [] (0:Int)).bind fun (o_1:(List Int)) =>
  some o_1
def zA3 (F:Nat) (names_1:List (List Int)) (stacks_1:List (zE)) (e_1:zA):Option ((List (Int))×(List (List Int))×(List (zE))×Int) :=
  (tH F names_1 stacks_1).bind fun r_1 =>
  (bif (r_1 != (0:Int)) then some ([],[],[],(1:Int)) else
  (pH F e_1).bind fun r_2 =>
  (bif (r_2 != (0:Int)) then some ([],[],[],r_2) else
  (zBt e_1.Kind).bind fun r_3 =>
  (((bif r_3.1 then (zCg F names_1 e_1.Name).bind fun r_4 =>
  (bif (r_4.2.2 != (0:Int)) then some (.inr ([],[],[],r_4.2.2)) else
  (need (((([e_1.Kind,e_1.At]:List Int)).length+(([r_4.1]:List Int)).length) * 8≤140737488355328)).bind fun _ =>
  some (.inl (r_4.2.1,(([e_1.Kind,e_1.At]:List Int)++([r_4.1]:List Int))))) else
  some (.inl (names_1,([e_1.Kind,e_1.At]:List Int)))):Option (((List (List Int))×(List Int))⊕((List (Int))×(List (List Int))×(List (zE))×Int)))).bind fun (o_1:((List (List Int))×(List Int))⊕((List (Int))×(List (List Int))×(List (zE))×Int)) =>
  (match o_1 with
  | (.inl q_1) =>
  (((bif r_3.2.1 then (need (((q_1.2).length+(([e_1.N]:List Int)).length) * 8≤140737488355328)).bind fun _ =>
  some (q_1.2++([e_1.N]:List Int)) else
  some q_1.2):Option (List Int))).bind fun (o_2:(List Int)) =>
  (((bif r_3.2.2.1 then (need (((o_2).length+(([e_1.M]:List Int)).length) * 8≤140737488355328)).bind fun _ =>
  some (o_2++([e_1.M]:List Int)) else
  some o_2):Option (List Int))).bind fun (o_3:(List Int)) =>
  (((bif r_3.2.2.2 then (kY F q_1.1 stacks_1 e_1.Stack).bind fun r_5 =>
  (bif (r_5.2.2.2 != (0:Int)) then some (.inr ([],[],[],r_5.2.2.2)) else
  (need (((o_3).length+(([r_5.1]:List Int)).length) * 8≤140737488355328)).bind fun _ =>
  some (.inl (r_5.2.1,r_5.2.2.1,(o_3++([r_5.1]:List Int))))) else
  some (.inl (q_1.1,stacks_1,o_3))):Option (((List (List Int))×(List zE)×(List Int))⊕((List (Int))×(List (List Int))×(List (zE))×Int)))).bind fun (o_4:((List (List Int))×(List zE)×(List Int))⊕((List (Int))×(List (List Int))×(List (zE))×Int)) =>
  (match o_4 with
  | (.inl q_3) =>
  (zAi F q_3.2.2).bind fun r_6 =>
  some (r_6,q_3.1,q_3.2.1,(0:Int))
  | (.inr q_4) =>
  some q_4)
  | (.inr q_2) =>
  some q_2)))
def t7 (F:Nat) (s_1:List Int) (rec:Int→(List Int)→Option (List Int)) (i_1:Int) (row_1:List Int):Option (List Int) :=
  (bif decide (i_1<(((s_1).length:Nat):Int)) then (yC s_1 i_1).bind fun c_1=>(need (((row_1).length+(([c_1]:List Int)).length) * 1≤140737488355328)).bind fun _ =>
  rec (zK (i_1+(1:Int))) (row_1++([c_1]:List Int)) else
  some row_1)
def qB (F:Nat) (s_1:List Int):Nat→Int→(List Int)→Option (List Int)
  | 0,_,_=>none
  | n+1,i_1,row_1=>t7 F s_1 (qB F s_1 n) i_1 row_1
def zAC (F:Nat) (b_1:List (Int)) (s_1:List Int):Option (List (Int)) :=
  (vN F b_1 (((s_1).length:Nat):Int)).bind fun r_1 =>
  (qB F s_1 F (0:Int) r_1).bind fun (o_1:(List Int)) =>
  some o_1
def qM (F:Nat) (p_1:zF) (rec:(List (List Int))→(List zE)→Int→(List Int)→Option (((List (List Int))×(List zE)×(List Int))⊕((List (Int))×Int))) (names_1:List (List Int)) (stacks_1:List zE) (i_1:Int) (row_1:List Int):Option (((List (List Int))×(List zE)×(List Int))⊕((List (Int))×Int)) :=
  (bif decide (i_1<(((p_1.Events).length:Nat):Int)) then (yC p_1.Events i_1).bind fun x_1=>(zA3 F names_1 stacks_1 x_1).bind fun r_2 =>
  (bif (r_2.2.2.2 != (0:Int)) then some (.inr ([],r_2.2.2.2)) else
  (need (((row_1).length+(r_2.1).length) * 1≤140737488355328)).bind fun _ =>
  rec r_2.2.1 r_2.2.2.1 (zK (i_1+(1:Int))) (row_1++r_2.1)) else
  some (.inl (names_1,stacks_1,row_1)))
def j9 (F:Nat) (p_1:zF):Nat→(List (List Int))→(List zE)→Int→(List Int)→Option (((List (List Int))×(List zE)×(List Int))⊕((List (Int))×Int))
  | 0,_,_,_,_=>none
  | n+1,names_1,stacks_1,i_1,row_1=>qM F p_1 (j9 F p_1 n) names_1 stacks_1 i_1 row_1
def qN (F:Nat) (q_1:(List (List Int))×(List zE)×(List Int)) (rec:Int→(List Int)→Option (List Int)) (i_2:Int) (row_2:List Int):Option (List Int) :=
  (bif decide (i_2<(((q_1.1).length:Nat):Int)) then (yC q_1.1 i_2).bind fun x_2=>(zAC F row_2 x_2).bind fun r_7 =>
  rec (zK (i_2+(1:Int))) r_7 else
  some row_2)
def kA (F:Nat) (q_1:(List (List Int))×(List zE)×(List Int)):Nat→Int→(List Int)→Option (List Int)
  | 0,_,_=>none
  | n+1,i_2,row_2=>qN F q_1 (kA F q_1 n) i_2 row_2
def qP (F:Nat) (q_1:(List (List Int))×(List zE)×(List Int)) (rec:Int→(List Int)→Option (List Int)) (i_3:Int) (row_3:List Int):Option (List Int) :=
  (bif decide (i_3<(((q_1.2.1).length:Nat):Int)) then (yC q_1.2.1 i_3).bind fun x_3=>(vN F row_3 x_3.c0).bind fun r_9=>(yC q_1.2.1 i_3).bind fun x_4=>(vN F r_9 x_4.c1).bind fun r_10 =>
  rec (zK (i_3+(1:Int))) r_10 else
  some row_3)
def kB (F:Nat) (q_1:(List (List Int))×(List zE)×(List Int)):Nat→Int→(List Int)→Option (List Int)
  | 0,_,_=>none
  | n+1,i_3,row_3=>qP F q_1 (kB F q_1 n) i_3 row_3
def zAU (F:Nat) (p_1:zF):Option ((List (Int))×Int) :=
  (zAN F p_1).bind fun r_1 =>
  (bif (r_1 != (0:Int)) then some ([],r_1) else
  (j9 F p_1 F [] [] (0:Int) []).bind fun (o_1:((List (List Int))×(List zE)×(List Int))⊕((List (Int))×Int)) =>
  (match o_1 with
  | (.inl q_1) =>
  (vN F [] p_1.Thread).bind fun r_3 =>
  (vN F r_3 p_1.Serial).bind fun r_4 =>
  (vN F r_4 p_1.Lost).bind fun r_5 =>
  (vN F r_5 (((q_1.1).length:Nat):Int)).bind fun r_6 =>
  (kA F q_1 F (0:Int) r_6).bind fun (o_2:(List Int)) =>
  (vN F o_2 (((q_1.2.1).length:Nat):Int)).bind fun r_8 =>
  (kB F q_1 F (0:Int) r_8).bind fun (o_3:(List Int)) =>
  (vN F o_3 (((p_1.Events).length:Nat):Int)).bind fun r_11=>(need (((r_11).length+(q_1.2.2).length) * 1≤140737488355328)).bind fun _ =>
  some ((r_11++q_1.2.2),(0:Int))
  | (.inr q_2) =>
  some q_2))
structure zL where
  B:List (Int)
  At:Int
  E:Int
  deriving DecidableEq,Inhabited
def zG (s:zL):List AV:=[.sl false 1 (List.map (AV.int .u8) s.B),.int .i64 s.At,.int .i64 s.E]
def zAB (u_1:Int):Option Int :=
  (bif ((vC u_1 (2:Int))==(1:Int)) then some (zK ((zK (0 - (zK (zCu .u64 u_1 (2:Int))))) - (1:Int))) else
  some (zK (zCu .u64 u_1 (2:Int))))
def kF (F:Nat) (b_1:List (Int)) (rec:Int→Int→Int→Option (Unit⊕(Int×Int×Int))) (u_1:Int) (unit_1:Int) (i_1:Int):Option (Unit⊕(Int×Int×Int)) :=
  (bif decide (i_1<(10:Int)) then (bif decide (i_1≥(((b_1).length:Nat):Int)) then some (.inr ((0:Int),(0:Int),(8:Int))) else
  (yC b_1 i_1).bind fun x_1 =>
  (bif ((i_1==(9:Int))&&decide ((zW x_1)>(1:Int))) then some (.inr ((0:Int),(0:Int),(10:Int))) else
  (bif (decide ((zW x_1)<(128:Int))&&(((zW x_1)==(0:Int))&&decide (i_1>(0:Int)))) then some (.inr ((0:Int),(0:Int),(10:Int))) else
  (bif decide ((zW x_1)<(128:Int)) then (zAB (zW (u_1+(zW ((vC (zW x_1) (128:Int)) * unit_1))))).bind fun r_1 =>
  some (.inr (r_1,zK (i_1+(1:Int)),(0:Int))) else
  rec (zW (u_1+(zW ((vC (zW x_1) (128:Int)) * unit_1)))) (zW (unit_1 * (128:Int))) (zK (i_1+(1:Int))))))) else
  some (.inl ()))
def pK (F:Nat) (b_1:List (Int)):Nat→Int→Int→Int→Option (Unit⊕(Int×Int×Int))
  | 0,_,_,_=>none
  | n+1,u_1,unit_1,i_1=>kF F b_1 (pK F b_1 n) u_1 unit_1 i_1
def zBo (F:Nat) (b_1:List (Int)):Option (Int×Int×Int) :=
  (pK F b_1 F (0:Int) (1:Int) (0:Int)).bind fun (o_1:Unit⊕(Int×Int×Int)) =>
  (match o_1 with
  | (.inl q_1) =>
  some ((0:Int),(0:Int),(10:Int))
  | (.inr q_2) =>
  some q_2)
def xG (F:Nat) (c_1:zL):Option (Int×zL) :=
  (bif (c_1.E != (0:Int)) then some ((0:Int),c_1) else
  (need ((0:Int)≤c_1.At∧c_1.At≤(((c_1.B).length:Nat):Int))).bind fun _=>(zBo F (sub c_1.B c_1.At (((c_1.B).length:Nat):Int))).bind fun r_1 =>
  some (r_1.1,(⟨c_1.B,zK (c_1.At+r_1.2.1),r_1.2.2⟩:zL)))
def wP (F:Nat) (c_1:zL) (most_1:Int):Option (Int×zL) :=
  (xG F c_1).bind fun r_1 =>
  (bif (r_1.2.E != (0:Int)) then some ((0:Int),r_1.2) else
  (bif decide (r_1.1<(0:Int)) then some ((0:Int),(⟨r_1.2.B,r_1.2.At,(10:Int)⟩:zL)) else
  (bif decide (r_1.1>most_1) then some ((0:Int),(⟨r_1.2.B,r_1.2.At,(7:Int)⟩:zL)) else
  some (r_1.1,r_1.2))))
def zCI (F:Nat) (b_1:List (Int)) (most_1:Int):Option ((List Int)×Int×Int) :=
  (zBo F b_1).bind fun r_1 =>
  (bif (r_1.2.2 != (0:Int)) then some (([]:List Int),(0:Int),r_1.2.2) else
  (bif decide (r_1.1<(0:Int)) then some (([]:List Int),(0:Int),(10:Int)) else
  (bif decide (r_1.1>most_1) then some (([]:List Int),(0:Int),(7:Int)) else
  (bif decide (r_1.1>(zK ((((b_1).length:Nat):Int) - r_1.2.1))) then some (([]:List Int),(0:Int),(8:Int)) else
  (need ((0:Int)≤r_1.2.1∧r_1.2.1≤(zK (r_1.2.1+r_1.1))∧(zK (r_1.2.1+r_1.1))≤(((b_1).length:Nat):Int))).bind fun _ =>
  some (sub b_1 r_1.2.1 (zK (r_1.2.1+r_1.1)),zK (r_1.2.1+r_1.1),(0:Int))))))
def kH (F:Nat) (c_1:zL):Option ((List Int)×zL) :=
  (bif (c_1.E != (0:Int)) then some (([]:List Int),c_1) else
  (need ((0:Int)≤c_1.At∧c_1.At≤(((c_1.B).length:Nat):Int))).bind fun _=>(zCI F (sub c_1.B c_1.At (((c_1.B).length:Nat):Int)) (40:Int)).bind fun r_1 =>
  some (r_1.1,(⟨c_1.B,zK (c_1.At+r_1.2.1),r_1.2.2⟩:zL)))
def u6 (F:Nat) (b_1:List (Int)) (count_1:Int) (rec:Int→Int→(List Int)→Option ((Int×(List Int))⊕((List (Int))×Int×Int))) (at__1:Int) (i_1:Int) (row_1:List Int):Option ((Int×(List Int))⊕((List (Int))×Int×Int)) :=
  (bif decide (i_1<count_1) then (need ((0:Int)≤at__1∧at__1≤(((b_1).length:Nat):Int))).bind fun _=>(zBo F (sub b_1 at__1 (((b_1).length:Nat):Int))).bind fun r_1 =>
  (bif (r_1.2.2 != (0:Int)) then some (.inr ([],(0:Int),r_1.2.2)) else
  (need (((row_1).length+(([r_1.1]:List Int)).length) * 8≤140737488355328)).bind fun _ =>
  rec (zK (at__1+r_1.2.1)) (zK (i_1+(1:Int))) (row_1++([r_1.1]:List Int))) else
  some (.inl (at__1,row_1)))
def nA (F:Nat) (b_1:List (Int)) (count_1:Int):Nat→Int→Int→(List Int)→Option ((Int×(List Int))⊕((List (Int))×Int×Int))
  | 0,_,_,_=>none
  | n+1,at__1,i_1,row_1=>u6 F b_1 count_1 (nA F b_1 count_1 n) at__1 i_1 row_1
def zAM (F:Nat) (b_1:List (Int)) (count_1:Int):Option ((List (Int))×Int×Int) :=
  (nA F b_1 count_1 F (0:Int) (0:Int) []).bind fun (o_1:(Int×(List Int))⊕((List (Int))×Int×Int)) =>
  (match o_1 with
  | (.inl q_1) =>
  some (q_1.2,q_1.1,(0:Int))
  | (.inr q_2) =>
  some q_2)
def zBs (b_1:Bool):Option Int :=
  (bif b_1 then some (1:Int) else
  some (0:Int))
def uM (F:Nat) (names_1:List (List Int)) (stacks_1:List (zE)) (rec:Int→(List (List Int))→Option (List (List Int))) (i_2:Int) (l_1:List (List Int)):Option (List (List Int)) :=
  (bif decide (i_2≥(0:Int)) then (yC stacks_1 i_2).bind fun x_1=>(yC names_1 x_1.c1).bind fun x_2=>(need (((([x_2]:List (List Int))).length+(l_1).length) * 16≤140737488355328)).bind fun _ =>
  (yC stacks_1 i_2).bind fun x_3 =>
  rec x_3.c0 (([x_2]:List (List Int))++l_1) else
  some l_1)
def nU (F:Nat) (names_1:List (List Int)) (stacks_1:List (zE)):Nat→Int→(List (List Int))→Option (List (List Int))
  | 0,_,_=>none
  | n+1,i_2,l_1=>uM F names_1 stacks_1 (nU F names_1 stacks_1 n) i_2 l_1
def zBQ (F:Nat) (names_1:List (List Int)) (stacks_1:List (zE)) (i_1:Int):Option ((List (List Int))×Int) :=
  (tH F names_1 stacks_1).bind fun r_1 =>
  (bif (r_1 != (0:Int)) then some ([],(1:Int)) else
  (bif (decide (i_1<(-1:Int))||decide (i_1≥(((stacks_1).length:Nat):Int))) then some ([],(2:Int)) else
  (nU F names_1 stacks_1 F i_1 []).bind fun (o_1:(List (List Int))) =>
  some (o_1,(0:Int))))
def zAW (F:Nat) (names_1:List (List Int)) (stacks_1:List (zE)) (b_1:List (Int)):Option (zA×Int×Int) :=
  (tH F names_1 stacks_1).bind fun r_1 =>
  (bif (r_1 != (0:Int)) then some ((⟨(0:Int),(0:Int),([]:List Int),(0:Int),(0:Int),[]⟩:zA),(0:Int),(1:Int)) else
  (zAM F b_1 (2:Int)).bind fun r_2 =>
  (bif (r_2.2.2 != (0:Int)) then some ((⟨(0:Int),(0:Int),([]:List Int),(0:Int),(0:Int),[]⟩:zA),(0:Int),r_2.2.2) else
  (((yC r_2.1 (0:Int)).bind fun x_1=>bif decide (x_1<(1:Int)) then (some true) else ((yC r_2.1 (0:Int)).bind fun x_2=>some (decide (x_2>(12:Int)))))).bind fun (p_1:Bool) =>
  (bif p_1 then some ((⟨(0:Int),(0:Int),([]:List Int),(0:Int),(0:Int),[]⟩:zA),(0:Int),(10:Int)) else
  (yC r_2.1 (0:Int)).bind fun x_3=>(zBt x_3).bind fun r_3 =>
  (zBs r_3.1).bind fun r_4=>(zBs r_3.2.1).bind fun r_5=>(zBs r_3.2.2.1).bind fun r_6=>(zBs r_3.2.2.2).bind fun r_7=>(zAM F b_1 (zK ((zK ((zK ((zK ((2:Int)+r_4))+r_5))+r_6))+r_7))).bind fun r_8 =>
  (bif (r_8.2.2 != (0:Int)) then some ((⟨(0:Int),(0:Int),([]:List Int),(0:Int),(0:Int),[]⟩:zA),(0:Int),r_8.2.2) else
  (yC r_8.1 (0:Int)).bind fun x_4=>(yC r_8.1 (1:Int)).bind fun x_5 =>
  (((bif r_3.1 then (((yC r_8.1 (2:Int)).bind fun x_6=>bif decide (x_6<(0:Int)) then (some true) else ((yC r_8.1 (2:Int)).bind fun x_7=>some (decide (x_7≥(((names_1).length:Nat):Int)))))).bind fun (p_2:Bool) =>
  (bif p_2 then some (.inr ((⟨(0:Int),(0:Int),([]:List Int),(0:Int),(0:Int),[]⟩:zA),(0:Int),(2:Int))) else
  (yC r_8.1 (2:Int)).bind fun x_8=>(yC names_1 x_8).bind fun x_9 =>
  some (.inl (zK ((2:Int)+(1:Int)),x_9))) else
  some (.inl ((2:Int),([]:List Int)))):Option ((Int×(List Int))⊕(zA×Int×Int)))).bind fun (o_1:(Int×(List Int))⊕(zA×Int×Int)) =>
  (match o_1 with
  | (.inl q_1) =>
  (((bif r_3.2.1 then (yC r_8.1 q_1.1).bind fun x_10 =>
  some (zK (q_1.1+(1:Int)),x_10) else
  some (q_1.1,(0:Int))):Option (Int×Int))).bind fun (o_2:(Int×Int)) =>
  (((bif r_3.2.2.1 then (yC r_8.1 o_2.1).bind fun x_11 =>
  some (zK (o_2.1+(1:Int)),x_11) else
  some (o_2.1,(0:Int))):Option (Int×Int))).bind fun (o_3:(Int×Int)) =>
  (((bif r_3.2.2.2 then (yC r_8.1 o_3.1).bind fun x_12=>(zBQ F names_1 stacks_1 x_12).bind fun r_9 =>
  (bif (r_9.2 != (0:Int)) then some (.inr ((⟨(0:Int),(0:Int),([]:List Int),(0:Int),(0:Int),[]⟩:zA),(0:Int),(2:Int))) else
  some (.inl r_9.1)) else
  some (.inl [])):Option ((List (List Int))⊕(zA×Int×Int)))).bind fun (o_4:(List (List Int))⊕(zA×Int×Int)) =>
  (match o_4 with
  | (.inl q_3) =>
  (pH F (⟨x_5,x_4,q_1.2,o_2.2,o_3.2,q_3⟩:zA)).bind fun r_10 =>
  (bif (r_10 != (0:Int)) then some ((⟨(0:Int),(0:Int),([]:List Int),(0:Int),(0:Int),[]⟩:zA),(0:Int),(10:Int)) else
  some ((⟨x_5,x_4,q_1.2,o_2.2,o_3.2,q_3⟩:zA),r_8.2.1,(0:Int)))
  | (.inr q_4) =>
  some q_4)
  | (.inr q_2) =>
  some q_2)))))
def jS (F:Nat) (c_1:zL) (names_1:List (List Int)) (stacks_1:List (zE)):Option (zA×zL) :=
  (bif (c_1.E != (0:Int)) then some ((⟨(0:Int),(0:Int),([]:List Int),(0:Int),(0:Int),[]⟩:zA),c_1) else
  (need ((0:Int)≤c_1.At∧c_1.At≤(((c_1.B).length:Nat):Int))).bind fun _=>(zAW F names_1 stacks_1 (sub c_1.B c_1.At (((c_1.B).length:Nat):Int))).bind fun r_1 =>
  some (r_1.1,(⟨c_1.B,zK (c_1.At+r_1.2.1),r_1.2.2⟩:zL)))
def wB (F:Nat) (r_4:Int×zL) (rec:Int→(List Int)→Int→Int→(List (List Int))→Option ((List Int)×Int×Int×(List (List Int)))) (i_1:Int) (c_2:List Int) (c_3:Int) (c_4:Int) (row_1:List (List Int)):Option ((List Int)×Int×Int×(List (List Int))) :=
  (bif (decide (i_1<r_4.1)&&(c_4==(0:Int))) then (kH F (⟨c_2,c_3,c_4⟩:zL)).bind fun r_5=>(need (((row_1).length+(([r_5.1]:List (List Int))).length) * 16≤140737488355328)).bind fun _ =>
  rec (zK (i_1+(1:Int))) r_5.2.B r_5.2.At r_5.2.E (row_1++([r_5.1]:List (List Int))) else
  some (c_2,c_3,c_4,row_1))
def uB (F:Nat) (r_4:Int×zL):Nat→Int→(List Int)→Int→Int→(List (List Int))→Option ((List Int)×Int×Int×(List (List Int)))
  | 0,_,_,_,_,_=>none
  | n+1,i_1,c_2,c_3,c_4,row_1=>wB F r_4 (uB F r_4 n) i_1 c_2 c_3 c_4 row_1
def x5 (F:Nat) (r_6:Int×zL) (rec:Int→(List Int)→Int→Int→(List zE)→Option ((List Int)×Int×Int×(List zE))) (i_2:Int) (c_5:List Int) (c_6:Int) (c_7:Int) (row_2:List zE):Option ((List Int)×Int×Int×(List zE)) :=
  (bif (decide (i_2<r_6.1)&&(c_7==(0:Int))) then (xG F (⟨c_5,c_6,c_7⟩:zL)).bind fun r_7 =>
  (xG F r_7.2).bind fun r_8=>(need (((row_2).length+(([(⟨r_7.1,r_8.1⟩:zE)]:List zE)).length) * 16≤140737488355328)).bind fun _ =>
  rec (zK (i_2+(1:Int))) r_8.2.B r_8.2.At r_8.2.E (row_2++([(⟨r_7.1,r_8.1⟩:zE)]:List zE)) else
  some (c_5,c_6,c_7,row_2))
def uG (F:Nat) (r_6:Int×zL):Nat→Int→(List Int)→Int→Int→(List zE)→Option ((List Int)×Int×Int×(List zE))
  | 0,_,_,_,_,_=>none
  | n+1,i_2,c_5,c_6,c_7,row_2=>x5 F r_6 (uG F r_6 n) i_2 c_5 c_6 c_7 row_2
def wA (F:Nat) (o_1:((List Int)×Int×Int×(List (List Int)))) (o_2:((List Int)×Int×Int×(List zE))) (r_10:Int×zL) (rec:Int→(List Int)→Int→Int→(List zA)→Option ((List Int)×Int×Int×(List zA))) (i_3:Int) (c_8:List Int) (c_9:Int) (c_10:Int) (row_3:List zA):Option ((List Int)×Int×Int×(List zA)) :=
  (bif (decide (i_3<r_10.1)&&(c_10==(0:Int))) then (jS F (⟨c_8,c_9,c_10⟩:zL) o_1.2.2.2 o_2.2.2.2).bind fun r_11=>(need (((row_3).length+(([r_11.1]:List zA)).length) * 72≤140737488355328)).bind fun _ =>
  rec (zK (i_3+(1:Int))) r_11.2.B r_11.2.At r_11.2.E (row_3++([r_11.1]:List zA)) else
  some (c_8,c_9,c_10,row_3))
def uC (F:Nat) (o_1:((List Int)×Int×Int×(List (List Int)))) (o_2:((List Int)×Int×Int×(List zE))) (r_10:Int×zL):Nat→Int→(List Int)→Int→Int→(List zA)→Option ((List Int)×Int×Int×(List zA))
  | 0,_,_,_,_,_=>none
  | n+1,i_3,c_8,c_9,c_10,row_3=>wA F o_1 o_2 r_10 (uC F o_1 o_2 r_10 n) i_3 c_8 c_9 c_10 row_3
def jH (F:Nat) (c_1:zL):Option (zF×zL) :=
  (xG F c_1).bind fun r_1 =>
  (xG F r_1.2).bind fun r_2 =>
  (xG F r_2.2).bind fun r_3 =>
  (wP F r_3.2 (1000:Int)).bind fun r_4 =>
  (uB F r_4 F (0:Int) r_4.2.B r_4.2.At r_4.2.E []).bind fun (o_1:((List Int)×Int×Int×(List (List Int)))) =>
  (wP F (⟨o_1.1,o_1.2.1,o_1.2.2.1⟩:zL) (1000:Int)).bind fun r_6 =>
  (uG F r_6 F (0:Int) r_6.2.B r_6.2.At r_6.2.E []).bind fun (o_2:((List Int)×Int×Int×(List zE))) =>
  (((bif (o_2.2.2.1==(0:Int)) then (tH F o_1.2.2.2 o_2.2.2.2).bind fun r_9 =>
  some r_9 else
  some o_2.2.2.1):Option Int)).bind fun (o_3:Int) =>
  (wP F (⟨o_2.1,o_2.2.1,o_3⟩:zL) (1000:Int)).bind fun r_10 =>
  (uC F o_1 o_2 r_10 F (0:Int) r_10.2.B r_10.2.At r_10.2.E []).bind fun (o_4:((List Int)×Int×Int×(List zA))) =>
  some ((⟨r_1.1,r_2.1,r_3.1,o_4.2.2.2⟩:zF),(⟨o_4.1,o_4.2.1,o_4.2.2.1⟩:zL))
def zAZ (F:Nat) (b_1:List (Int)):Option (zF×Int×Int) :=
  (jH F (⟨b_1,(0:Int),(0:Int)⟩:zL)).bind fun r_1 =>
  (bif (r_1.2.E != (0:Int)) then some ((⟨(0:Int),(0:Int),(0:Int),[]⟩:zF),(0:Int),r_1.2.E) else
  (zAN F r_1.1).bind fun r_2 =>
  (bif (r_2 != (0:Int)) then some ((⟨(0:Int),(0:Int),(0:Int),[]⟩:zF),(0:Int),r_2) else
  (zAU F r_1.1).bind fun r_3 =>
  (need ((0:Int)≤r_1.2.At∧r_1.2.At≤(((b_1).length:Nat):Int))).bind fun _ =>
  (bif !(r_3.1==(sub b_1 (0:Int) r_1.2.At)) then some ((⟨(0:Int),(0:Int),(0:Int),[]⟩:zF),(0:Int),(10:Int)) else
  some (r_1.1,r_1.2.At,(0:Int)))))
def uK (F:Nat) (b_1:List (Int)):Option Bool :=
  (bif decide ((((b_1).length:Nat):Int)>(600:Int)) then (zBS F).bind fun r_1 =>
  some r_1 else
  (j7 F b_1).bind fun r_2 =>
  (zAZ F b_1).bind fun r_3 =>
  (((zAK F r_2.1 r_3.1).bind fun r_4=>bif r_4 then (bif (r_2.2.1==r_3.2.1) then (bif (r_2.2.2==r_3.2.2) then ((zBS F).bind fun r_5=>some r_5) else (some false)) else (some false)) else (some false))).bind fun (p_1:Bool) =>
  some p_1)
end Go.Ab
