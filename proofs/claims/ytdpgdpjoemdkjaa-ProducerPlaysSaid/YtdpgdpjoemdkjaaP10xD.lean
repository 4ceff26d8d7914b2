/- Printed: the typed Lean functions of the Go functions, or the proofs that the Go functions meet them. No conditions but those that the theorems name. -/
import Derived.Test.YtdpgdpjoemdkjaaA35
import Derived.Test.YtdpgdpjoemdkjaaA41
namespace Go.Ab
open Go
set_option linter.unusedVariables false
structure yA where
  Id:Int
  Name:List Int
  Domain:Int
  deriving DecidableEq,Inhabited
def y3 (s:yA):List AV:=[.int .i64 s.Id,.str s.Name,.int .i64 s.Domain]
def xF (s:yA):AV:=.agg (y3 s)
def pO (s_1:List Int) (c_1:Int):Option Int :=
  some (qC s_1 c_1)
def v6 (s_1:List Int) (c_1:Int):Option Int :=
  (pO s_1 c_1).bind fun r_1 =>
  some r_1
def zBb (c_1:Int):Option Bool :=
  ((bif decide (c_1≥(97:Int)) then (bif decide (c_1≤(122:Int)) then (some true) else (bif decide (c_1≥(65:Int)) then (bif decide (c_1≤(90:Int)) then (some true) else (bif decide (c_1≥(48:Int)) then (bif decide (c_1≤(57:Int)) then (some true) else ((v6 ([95,46,58,47,60,62,36,42,126,45]:List Int) c_1).bind fun r_1=>some (decide (r_1≥(0:Int))))) else ((v6 ([95,46,58,47,60,62,36,42,126,45]:List Int) c_1).bind fun r_1=>some (decide (r_1≥(0:Int)))))) else (bif decide (c_1≥(48:Int)) then (bif decide (c_1≤(57:Int)) then (some true) else ((v6 ([95,46,58,47,60,62,36,42,126,45]:List Int) c_1).bind fun r_1=>some (decide (r_1≥(0:Int))))) else ((v6 ([95,46,58,47,60,62,36,42,126,45]:List Int) c_1).bind fun r_1=>some (decide (r_1≥(0:Int))))))) else (bif decide (c_1≥(65:Int)) then (bif decide (c_1≤(90:Int)) then (some true) else (bif decide (c_1≥(48:Int)) then (bif decide (c_1≤(57:Int)) then (some true) else ((v6 ([95,46,58,47,60,62,36,42,126,45]:List Int) c_1).bind fun r_1=>some (decide (r_1≥(0:Int))))) else ((v6 ([95,46,58,47,60,62,36,42,126,45]:List Int) c_1).bind fun r_1=>some (decide (r_1≥(0:Int)))))) else (bif decide (c_1≥(48:Int)) then (bif decide (c_1≤(57:Int)) then (some true) else ((v6 ([95,46,58,47,60,62,36,42,126,45]:List Int) c_1).bind fun r_1=>some (decide (r_1≥(0:Int))))) else ((v6 ([95,46,58,47,60,62,36,42,126,45]:List Int) c_1).bind fun r_1=>some (decide (r_1≥(0:Int)))))))).bind fun (p_1:Bool) =>
  some p_1
def kJ (F:Nat) (s_1:List Int) (rec:Int→Option (Unit⊕Int)) (v_1:Int):Option (Unit⊕Int) :=
  (bif decide (v_1<(((s_1).length:Nat):Int)) then (y7 s_1 v_1).bind fun c_1=>(zBb c_1).bind fun r_1 =>
  (bif !r_1 then some (.inr (3:Int)) else
  rec (zJ (v_1+(1:Int)))) else
  some (.inl ()))
def zAo (F:Nat) (s_1:List Int):Nat→Int→Option (Unit⊕Int)
  | 0,_=>none
  | n+1,v_1=>kJ F s_1 (zAo F s_1 n) v_1
def kX (F:Nat) (s_1:List Int):Option Int :=
  (bif ((s_1==([]:List Int))||decide ((((s_1).length:Nat):Int)>(40:Int))) then some (3:Int) else
  (zAo F s_1 F (0:Int)).bind fun (o_1:Unit⊕Int) =>
  (match o_1 with
  | (.inl q_1) =>
  some (0:Int)
  | (.inr q_2) =>
  some q_2))
def pP (F:Nat) (t_1:yA):Option Int :=
  (bif (decide (t_1.Id<(0:Int))||(decide (t_1.Id>(1000000000000000:Int))||(decide (t_1.Domain<(0:Int))||decide (t_1.Domain≥(8:Int))))) then some (2:Int) else
  (kX F t_1.Name).bind fun r_1 =>
  some r_1)
structure zN where
  c0:Int
  c1:Int
  deriving DecidableEq,Inhabited
def zIW (s:zN):List AV:=[.int .i64 s.c0,.int .i64 s.c1]
def zA (s:zN):AV:=.agg (zIW s)
structure zO where
  Policy:Int
  Data:List (Int)
  Start:Int
  End:Int
  First:Int
  Next:Int
  deriving DecidableEq,Inhabited
def zT (s:zO):List AV:=[.int .i64 s.Policy,.sl false 1 (List.map (AV.int .u8) s.Data),.int .i64 s.Start,.int .i64 s.End,.int .i64 s.First,.int .i64 s.Next]
def z7 (s:zO):AV:=.agg (zT s)
structure zG where
  Thread:yA
  Names:List (List Int)
  Stacks:List (zN)
  Ring:zO
  Last:Int
  Sent:Int
  deriving DecidableEq,Inhabited
def zC (s:zG):List AV:=[.int .i64 s.Thread.Id,.str s.Thread.Name,.int .i64 s.Thread.Domain,.sl false 1 (List.map AV.str s.Names),.sl false 2 (List.map zA s.Stacks),.int .i64 s.Ring.Policy,.sl false 1 (List.map (AV.int .u8) s.Ring.Data),.int .i64 s.Ring.Start,.int .i64 s.Ring.End,.int .i64 s.Ring.First,.int .i64 s.Ring.Next,.int .i64 s.Last,.int .i64 s.Sent]
def zV (s:zG):AV:=.agg (zC s)
def zFZ (zZ:Int) (p_1:Int):Option (zO×Int) :=
  (bif (decide (zZ<(16:Int))||decide (zZ>(65536:Int))) then some ((⟨(0:Int),[],(0:Int),(0:Int),(0:Int),(0:Int)⟩:zO),(2:Int)) else
  (bif ((p_1 != (1:Int))&&(p_1 != (2:Int))) then some ((⟨(0:Int),[],(0:Int),(0:Int),(0:Int),(0:Int)⟩:zO),(1:Int)) else
  (need ((0:Int)≤zZ∧((zZ).toNat) * 1≤281474976710656)).bind fun _ =>
  some ((⟨p_1,(List.replicate ((zZ).toNat) (0:Int)),(0:Int),(0:Int),(0:Int),(0:Int)⟩:zO),(0:Int))))
def pC (F:Nat) (t_1:yA) (zZ:Int) (p_1:Int):Option (zG×Int) :=
  (pP F t_1).bind fun r_1 =>
  (bif (r_1 != (0:Int)) then some ((⟨(⟨(0:Int),([]:List Int),(0:Int)⟩:yA),[],[],(⟨(0:Int),[],(0:Int),(0:Int),(0:Int),(0:Int)⟩:zO),(0:Int),(0:Int)⟩:zG),r_1) else
  (zFZ zZ p_1).bind fun r_2 =>
  (bif (r_2.2 != (0:Int)) then some ((⟨(⟨(0:Int),([]:List Int),(0:Int)⟩:yA),[],[],(⟨(0:Int),[],(0:Int),(0:Int),(0:Int),(0:Int)⟩:zO),(0:Int),(0:Int)⟩:zG),r_2.2) else
  some ((⟨t_1,[],[],r_2.1,(0:Int),(0:Int)⟩:zG),(0:Int))))
structure zL where
  At:Int
  Kind:Int
  Name:List Int
  N:Int
  M:Int
  Stack:List (List Int)
  deriving DecidableEq,Inhabited
def zM (s:zL):List AV:=[.int .i64 s.At,.int .i64 s.Kind,.str s.Name,.int .i64 s.N,.int .i64 s.M,.sl false 1 (List.map AV.str s.Stack)]
def zH (s:zL):AV:=.agg (zM s)
def zDw (yE:Int):Option zL :=
  some (⟨yE,(3:Int),([97]:List Int),(0:Int),(0:Int),[]⟩:zL)
def v8 (F:Nat) (zE:List (List Int)) (rec:Int→(List ((List Int)×Bool))→Option (Unit⊕Int)) (v_1:Int) (zK:List ((List Int)×Bool)):Option (Unit⊕Int) :=
  (bif decide (v_1<(((zE).length:Nat):Int)) then (y7 zE v_1).bind fun x_1 =>
  (kX F x_1).bind fun r_1 =>
  (bif (r_1 != (0:Int)) then some (.inr r_1) else
  (bif ((j3 zK x_1).getD false) then some (.inr (4:Int)) else
  (need ((zK).length<140737488355328)).bind fun _ =>
  rec (zJ (v_1+(1:Int))) (kG zK x_1 true))) else
  some (.inl ()))
def qD (F:Nat) (zE:List (List Int)):Nat→Int→(List ((List Int)×Bool))→Option (Unit⊕Int)
  | 0,_,_=>none
  | n+1,v_1,zK=>v8 F zE (qD F zE n) v_1 zK
def nA (F:Nat) (zE:List (List Int)):Option Int :=
  (qD F zE F (0:Int) []).bind fun (o_1:Unit⊕Int) =>
  (match o_1 with
  | (.inl q_1) =>
  some (0:Int)
  | (.inr q_2) =>
  some q_2)
def j4 (F:Nat) (zE:List (List Int)) (zD:List (zN)) (rec:Int→(List (zN×Bool))→(List Int)→Option (Unit⊕Int)) (v_1:Int) (zK:List (zN×Bool)) (x6:List Int):Option (Unit⊕Int) :=
  (bif decide (v_1<(((zD).length:Nat):Int)) then (y7 zD v_1).bind fun x_1 =>
  (bif (decide (x_1.c0<(-1:Int))||(decide (x_1.c0≥v_1)||(decide (x_1.c1<(0:Int))||decide (x_1.c1≥(((zE).length:Nat):Int))))) then some (.inr (2:Int)) else
  (bif ((j3 zK x_1).getD false) then some (.inr (4:Int)) else
  (need ((zK).length<140737488355328)).bind fun _ =>
  (y7 x6 v_1).bind fun x_2 =>
  (((bif (x_1.c0 != (-1:Int)) then (y7 ((x6).set ((v_1).toNat) (1:Int)) v_1).bind fun x_3=>(y7 ((x6).set ((v_1).toNat) (1:Int)) x_1.c0).bind fun x_4=>(y7 ((x6).set ((v_1).toNat) (1:Int)) v_1).bind fun x_5 =>
  some (((x6).set ((v_1).toNat) (1:Int)).set ((v_1).toNat) (zJ (x_3+x_4))) else
  some ((x6).set ((v_1).toNat) (1:Int))):Option (List Int))).bind fun (o_2:(List Int)) =>
  (y7 o_2 v_1).bind fun x_6 =>
  (bif decide (x_6>(32:Int)) then some (.inr (7:Int)) else
  rec (zJ (v_1+(1:Int))) (kG zK x_1 true) o_2))) else
  some (.inl ()))
def pL (F:Nat) (zE:List (List Int)) (zD:List (zN)):Nat→Int→(List (zN×Bool))→(List Int)→Option (Unit⊕Int)
  | 0,_,_,_=>none
  | n+1,v_1,zK,x6=>j4 F zE zD (pL F zE zD n) v_1 zK x6
def pE (F:Nat) (zE:List (List Int)) (zD:List (zN)):Option Int :=
  (bif (decide ((((zE).length:Nat):Int)>(1000:Int))||decide ((((zD).length:Nat):Int)>(1000:Int))) then some (7:Int) else
  (nA F zE).bind fun r_1 =>
  (bif (r_1 != (0:Int)) then some r_1 else
  (need (((zD).length) * 8≤281474976710656)).bind fun _ =>
  (pL F zE zD F (0:Int) [] (List.replicate ((zD).length) (0:Int))).bind fun (o_1:Unit⊕Int) =>
  (match o_1 with
  | (.inl q_1) =>
  some (0:Int)
  | (.inr q_2) =>
  some q_2)))
def zA2 (r_1:zO):Option (List (Int)) :=
  (need ((0:Int)≤(zJ (r_1.End - r_1.Start))∧((zJ (r_1.End - r_1.Start)).toNat) * 1≤281474976710656)).bind fun _ =>
  (need ((((r_1.Data).length:Nat):Int)≠(0:Int))).bind fun _ =>
  (need ((0:Int)≤(yQ r_1.Start (((r_1.Data).length:Nat):Int))∧(yQ r_1.Start (((r_1.Data).length:Nat):Int))≤(((r_1.Data).length:Nat):Int))).bind fun _=>(need (0≤((zJ (r_1.End - r_1.Start)).toNat)∧((zJ (r_1.End - r_1.Start)).toNat)≤((List.replicate ((zJ (r_1.End - r_1.Start)).toNat) (0:Int))).length)).bind fun _ =>
  (need ((((min (sub r_1.Data (yQ r_1.Start (((r_1.Data).length:Nat):Int)) (((r_1.Data).length:Nat):Int)).length ((zJ (r_1.End - r_1.Start)).toNat - 0)):Nat):Int)≤(((zJ (r_1.End - r_1.Start)).toNat:Nat):Int))).bind fun _=>(need ((min (sub r_1.Data (yQ r_1.Start (((r_1.Data).length:Nat):Int)) (((r_1.Data).length:Nat):Int)).length ((zJ (r_1.End - r_1.Start)).toNat - 0))≤((zJ (r_1.End - r_1.Start)).toNat)∧((zJ (r_1.End - r_1.Start)).toNat)≤((cpy (List.replicate ((zJ (r_1.End - r_1.Start)).toNat) (0:Int)) 0 ((zJ (r_1.End - r_1.Start)).toNat) (sub r_1.Data (yQ r_1.Start (((r_1.Data).length:Nat):Int)) (((r_1.Data).length:Nat):Int)))).length)).bind fun _ =>
  some (cpy (cpy (List.replicate ((zJ (r_1.End - r_1.Start)).toNat) (0:Int)) 0 ((zJ (r_1.End - r_1.Start)).toNat) (sub r_1.Data (yQ r_1.Start (((r_1.Data).length:Nat):Int)) (((r_1.Data).length:Nat):Int))) (min (sub r_1.Data (yQ r_1.Start (((r_1.Data).length:Nat):Int)) (((r_1.Data).length:Nat):Int)).length ((zJ (r_1.End - r_1.Start)).toNat - 0)) ((zJ (r_1.End - r_1.Start)).toNat) r_1.Data)
def zBa (u_1:Int):Option Int :=
  some (zCD .i64 (zJ (zBl .u64 u_1 (1:Int))) (zJ (0 - (zJ (tC .u64 u_1 (1:Int))))))
def pY (F:Nat) (b_1:List (Int)) (rec:Int→Int→Option (Unit⊕(Int×Int×Int))) (u_1:Int) (v_1:Int):Option (Unit⊕(Int×Int×Int)) :=
  (bif decide (v_1<(((b_1).length:Nat):Int)) then (y7 b_1 v_1).bind fun x_1 =>
  (bif ((v_1==(9:Int))&&decide (x_1>(1:Int))) then some (.inr ((0:Int),(0:Int),(10:Int))) else
  (need ((0:Int)≤(zJ ((7:Int) * v_1)))).bind fun _ =>
  (bif decide (x_1≥(128:Int)) then rec (ior .u64 u_1 (zAf .u64 (yR (tC .u8 x_1 (127:Int))) (zJ ((7:Int) * v_1)))) (zJ (v_1+(1:Int))) else
  (bif ((x_1==(0:Int))&&decide (v_1>(0:Int))) then some (.inr ((0:Int),(0:Int),(10:Int))) else
  (zBa (ior .u64 u_1 (zAf .u64 (yR (tC .u8 x_1 (127:Int))) (zJ ((7:Int) * v_1))))).bind fun r_1 =>
  some (.inr (r_1,zJ (v_1+(1:Int)),(0:Int)))))) else
  some (.inl ()))
def nH (F:Nat) (b_1:List (Int)):Nat→Int→Int→Option (Unit⊕(Int×Int×Int))
  | 0,_,_=>none
  | n+1,u_1,v_1=>pY F b_1 (nH F b_1 n) u_1 v_1
def zCF (F:Nat) (b_1:List (Int)):Option (Int×Int×Int) :=
  (nH F b_1 F (0:Int) (0:Int)).bind fun (o_1:Unit⊕(Int×Int×Int)) =>
  (match o_1 with
  | (.inl q_1) =>
  some ((0:Int),(0:Int),(8:Int))
  | (.inr q_2) =>
  some q_2)
def k9 (F:Nat) (rec:(List Int)→(List (List (Int)))→Option ((List (List (Int)))⊕((List (List (Int)))×Bool))) (b_2:List Int) (zK:List (List (Int))):Option ((List (List (Int)))⊕((List (List (Int)))×Bool)) :=
  (bif decide ((((b_2).length:Nat):Int)>(0:Int)) then (zCF F b_2).bind fun r_1 =>
  (bif ((r_1.2.2 != (0:Int))||(decide (r_1.1<(0:Int))||(decide (r_1.1>(2000:Int))||decide ((zJ (r_1.2.1+r_1.1))>(((b_2).length:Nat):Int))))) then some (.inr ([],false)) else
  (need ((0:Int)≤r_1.2.1∧r_1.2.1≤(zJ (r_1.2.1+r_1.1))∧(zJ (r_1.2.1+r_1.1))≤(((b_2).length:Nat):Int))).bind fun _=>(need (((zK).length+(([sub b_2 r_1.2.1 (zJ (r_1.2.1+r_1.1))]:List (List (Int)))).length) * 24≤140737488355328)).bind fun _ =>
  (need ((0:Int)≤(zJ (r_1.2.1+r_1.1))∧(zJ (r_1.2.1+r_1.1))≤(((b_2).length:Nat):Int))).bind fun _ =>
  rec (sub b_2 (zJ (r_1.2.1+r_1.1)) (((b_2).length:Nat):Int)) (zK++([sub b_2 r_1.2.1 (zJ (r_1.2.1+r_1.1))]:List (List (Int))))) else
  some (.inl zK))
def zA9 (F:Nat):Nat→(List Int)→(List (List (Int)))→Option ((List (List (Int)))⊕((List (List (Int)))×Bool))
  | 0,_,_=>none
  | n+1,b_2,zK=>k9 F (zA9 F n) b_2 zK
def zCO (F:Nat) (b_1:List (Int)):Option ((List (List (Int)))×Bool) :=
  (zA9 F F b_1 []).bind fun (o_1:(List (List (Int)))⊕((List (List (Int)))×Bool)) =>
  (match o_1 with
  | (.inl q_1) =>
  some (q_1,true)
  | (.inr q_2) =>
  some q_2)
def zBr (F:Nat) (r_1:zO):Option ((List (List (Int)))×Int) :=
  (((bif ((r_1.Policy != (1:Int))&&(r_1.Policy != (2:Int))) then some (.inr ([],(1:Int))) else
  (bif (decide ((((r_1.Data).length:Nat):Int)<(16:Int))||decide ((((r_1.Data).length:Nat):Int)>(65536:Int))) then some (.inr ([],(2:Int))) else
  (bif decide (r_1.Start<(0:Int)) then some (.inr ([],(2:Int))) else
  (bif decide (r_1.End<r_1.Start) then some (.inr ([],(2:Int))) else
  (bif decide (r_1.End>(1000000000000000:Int)) then some (.inr ([],(2:Int))) else
  (bif decide ((zJ (r_1.End - r_1.Start))>(((r_1.Data).length:Nat):Int)) then some (.inr ([],(2:Int))) else
  (bif decide (r_1.First<(0:Int)) then some (.inr ([],(2:Int))) else
  (bif decide (r_1.Next<r_1.First) then some (.inr ([],(2:Int))) else
  (bif decide (r_1.Next>(1000000000000000:Int)) then some (.inr ([],(2:Int))) else
  some (.inl ())))))))))):Option (Unit⊕((List (List (Int)))×Int)))).bind fun (o_1:Unit⊕((List (List (Int)))×Int)) =>
  (match o_1 with
  | (.inl q_1) =>
  (zA2 r_1).bind fun r_2=>(zCO F r_2).bind fun r_3 =>
  (bif (!r_3.2||((((r_3.1).length:Nat):Int) != (zJ (r_1.Next - r_1.First)))) then some ([],(10:Int)) else
  some (r_3.1,(0:Int)))
  | (.inr q_2) =>
  some q_2)
def zC7 (F:Nat) (r_1:zO):Option Int :=
  (zBr F r_1).bind fun r_2 =>
  some r_2.2
def zCJ (F:Nat) (r_1:zO):Option ((List (List (Int)))×zO) :=
  (zBr F r_1).bind fun r_2 =>
  (bif (r_2.2 != (0:Int)) then some ([],r_1) else
  some (r_2.1,(⟨r_1.Policy,r_1.Data,r_1.End,r_1.End,r_1.Next,r_1.Next⟩:zO)))
structure xO where
  b:List (Int)
  used:Int
  fault:Int
  deriving DecidableEq,Inhabited
def yX (s:xO):List AV:=[.sl false 1 (List.map (AV.int .u8) s.b),.int .i64 s.used,.int .i64 s.fault]
def vO (F:Nat) (x_1:xO):Option (Int×xO) :=
  (bif (x_1.fault != (0:Int)) then some ((0:Int),x_1) else
  (need ((0:Int)≤x_1.used∧x_1.used≤(((x_1.b).length:Nat):Int))).bind fun _=>(zCF F (sub x_1.b x_1.used (((x_1.b).length:Nat):Int))).bind fun r_1 =>
  some (r_1.1,(⟨x_1.b,zJ (x_1.used+r_1.2.1),r_1.2.2⟩:xO)))
def zCq (k_1:Int):Option (Bool×Bool×Bool×Bool) :=
  some (((k_1==(1:Int))||((k_1==(3:Int))||(k_1==(4:Int)))),decide (k_1≥(4:Int)),((k_1==(9:Int))||(k_1==(11:Int))),((k_1==(5:Int))||(k_1==(11:Int))))
def vW (F:Nat) (rec:Int→Int→(List (List Int))→Option (List (List Int))) (i_1:Int) (j_1:Int) (zK:List (List Int)):Option (List (List Int)) :=
  (bif decide (i_1<j_1) then (y7 zK j_1).bind fun x_1=>(y7 zK i_1).bind fun x_2=>(y7 zK i_1).bind fun x_3=>(y7 ((zK).set ((i_1).toNat) x_1) j_1).bind fun x_4 =>
  rec (zJ (i_1+(1:Int))) (zJ (j_1 - (1:Int))) (((zK).set ((i_1).toNat) x_1).set ((j_1).toNat) x_2) else
  some zK)
def vR (F:Nat):Nat→Int→Int→(List (List Int))→Option (List (List Int))
  | 0,_,_,_=>none
  | n+1,i_1,j_1,zK=>vW F (vR F n) i_1 j_1 zK
def uX (F:Nat) (s_1:List (List Int)):Option (List (List Int)) :=
  (vR F F (0:Int) (zJ ((((s_1).length:Nat):Int) - (1:Int))) s_1).bind fun (o_1:(List (List Int))) =>
  some o_1
def tE (F:Nat) (zE:List (List Int)) (zD:List (zN)) (rec:Int→(List (List Int))→Option (List (List Int))) (i_2:Int) (zK:List (List Int)):Option (List (List Int)) :=
  (bif (i_2 != (-1:Int)) then (y7 zD i_2).bind fun x_1=>(y7 zE x_1.c1).bind fun x_2=>(need (((zK).length+(([x_2]:List (List Int))).length) * 16≤140737488355328)).bind fun _ =>
  (y7 zD i_2).bind fun x_3 =>
  rec x_3.c0 (zK++([x_2]:List (List Int))) else
  some zK)
def zAd (F:Nat) (zE:List (List Int)) (zD:List (zN)):Nat→Int→(List (List Int))→Option (List (List Int))
  | 0,_,_=>none
  | n+1,i_2,zK=>tE F zE zD (zAd F zE zD n) i_2 zK
def zAu (F:Nat) (zE:List (List Int)) (zD:List (zN)) (i_1:Int):Option ((List (List Int))×Int) :=
  (pE F zE zD).bind fun r_1 =>
  (bif (r_1 != (0:Int)) then some ([],(1:Int)) else
  (bif (decide (i_1<(-1:Int))||decide (i_1≥(((zD).length:Nat):Int))) then some ([],(2:Int)) else
  (zAd F zE zD F i_1 []).bind fun (o_1:(List (List Int))) =>
  (uX F o_1).bind fun r_2=>(need ((r_2).length=(o_1).length)).bind fun _ =>
  some (r_2,(0:Int))))
structure yP where
  word:List Int
  name:Bool
  n:Bool
  m:Bool
  stack:Bool
  least:Int
  most:Int
  mLeast:Int
  mMost:Int
  deriving DecidableEq,Inhabited
def yV (s:yP):List AV:=[.str s.word,.bool s.name,.bool s.n,.bool s.m,.bool s.stack,.int .i64 s.least,.int .i64 s.most,.int .i64 s.mLeast,.int .i64 s.mMost]
def wB (s:yP):AV:=.agg (yV s)
def zBf:Option (List (yP)) :=
  some ([(⟨([]:List Int),false,false,false,false,(0:Int),(0:Int),(0:Int),(0:Int)⟩:yP),(⟨([98,101,103,105,110]:List Int),true,false,false,false,(0:Int),(0:Int),(0:Int),(0:Int)⟩:yP),(⟨([101,110,100]:List Int),false,false,false,false,(0:Int),(0:Int),(0:Int),(0:Int)⟩:yP),(⟨([109,97,114,107]:List Int),true,false,false,false,(0:Int),(0:Int),(0:Int),(0:Int)⟩:yP),(⟨([99,111,117,110,116]:List Int),true,true,false,false,(-1000000000000000:Int),(1000000000000000:Int),(0:Int),(0:Int)⟩:yP),(⟨([115,97,109,112,108,101]:List Int),false,true,false,true,(1:Int),(1000000000000:Int),(0:Int),(0:Int)⟩:yP),(⟨([115,101,110,100]:List Int),false,true,false,false,(0:Int),(1000000000000000:Int),(0:Int),(0:Int)⟩:yP),(⟨([114,101,99,118]:List Int),false,true,false,false,(0:Int),(1000000000000000:Int),(0:Int),(0:Int)⟩:yP),(⟨([114,117,110]:List Int),false,true,false,false,(0:Int),(63:Int),(0:Int),(0:Int)⟩:yP),(⟨([115,116,111,112]:List Int),false,true,true,false,(0:Int),(3:Int),(0:Int),(1000000000000000:Int)⟩:yP),(⟨([119,97,107,101]:List Int),false,true,false,false,(0:Int),(1000000000000000:Int),(0:Int),(0:Int)⟩:yP),(⟨([97,108,108,111,99]:List Int),false,true,true,true,(0:Int),(1000000000000000:Int),(1:Int),(1000000000000:Int)⟩:yP),(⟨([102,114,101,101]:List Int),false,true,false,false,(0:Int),(1000000000000000:Int),(0:Int),(0:Int)⟩:yP)]:List yP)
def zBD (k_1:Int):Option (yP×Bool) :=
  (zBf ).bind fun r_1 =>
  (bif (decide (k_1<(1:Int))||decide (k_1≥(((r_1).length:Nat):Int))) then some ((⟨([]:List Int),false,false,false,false,(0:Int),(0:Int),(0:Int),(0:Int)⟩:yP),false) else
  (y7 r_1 k_1).bind fun x_1 =>
  some (x_1,true))
def jK (F:Nat) (l_1:List (List Int)) (rec:Int→Option (Unit⊕Int)) (v_1:Int):Option (Unit⊕Int) :=
  (bif decide (v_1<(((l_1).length:Nat):Int)) then (y7 l_1 v_1).bind fun x_1 =>
  (kX F x_1).bind fun r_1 =>
  (bif (r_1 != (0:Int)) then some (.inr r_1) else
  rec (zJ (v_1+(1:Int)))) else
  some (.inl ()))
def nO (F:Nat) (l_1:List (List Int)):Nat→Int→Option (Unit⊕Int)
  | 0,_=>none
  | n+1,v_1=>jK F l_1 (nO F l_1 n) v_1
def nW (F:Nat) (l_1:List (List Int)):Option Int :=
  (bif decide ((((l_1).length:Nat):Int)>(32:Int)) then some (7:Int) else
  (nO F l_1 F (0:Int)).bind fun (o_1:Unit⊕Int) =>
  (match o_1 with
  | (.inl q_1) =>
  some (0:Int)
  | (.inr q_2) =>
  some q_2))
def zCl (F:Nat) (f_1:yP) (e_1:zL):Option Int :=
  (bif f_1.name then (kX F e_1.Name).bind fun r_1 =>
  some r_1 else
  (nW F e_1.Stack).bind fun r_2 =>
  some r_2)
def nD (F:Nat) (e_1:zL):Option Int :=
  (bif (decide (e_1.At<(0:Int))||decide (e_1.At>(1000000000000:Int))) then some (2:Int) else
  (zBD e_1.Kind).bind fun r_1 =>
  ((bif !r_1.2 then (some true) else (bif !r_1.1.name then (bif !(e_1.Name==([]:List Int)) then (some true) else (bif !r_1.1.n then (bif (e_1.N != (0:Int)) then (some true) else (bif !r_1.1.m then (bif (e_1.M != (0:Int)) then (some true) else (bif !r_1.1.stack then (some (decide ((((e_1.Stack).length:Nat):Int)>(0:Int)))) else (some false))) else (bif !r_1.1.stack then (some (decide ((((e_1.Stack).length:Nat):Int)>(0:Int)))) else (some false)))) else (bif !r_1.1.m then (bif (e_1.M != (0:Int)) then (some true) else (bif !r_1.1.stack then (some (decide ((((e_1.Stack).length:Nat):Int)>(0:Int)))) else (some false))) else (bif !r_1.1.stack then (some (decide ((((e_1.Stack).length:Nat):Int)>(0:Int)))) else (some false))))) else (bif !r_1.1.n then (bif (e_1.N != (0:Int)) then (some true) else (bif !r_1.1.m then (bif (e_1.M != (0:Int)) then (some true) else (bif !r_1.1.stack then (some (decide ((((e_1.Stack).length:Nat):Int)>(0:Int)))) else (some false))) else (bif !r_1.1.stack then (some (decide ((((e_1.Stack).length:Nat):Int)>(0:Int)))) else (some false)))) else (bif !r_1.1.m then (bif (e_1.M != (0:Int)) then (some true) else (bif !r_1.1.stack then (some (decide ((((e_1.Stack).length:Nat):Int)>(0:Int)))) else (some false))) else (bif !r_1.1.stack then (some (decide ((((e_1.Stack).length:Nat):Int)>(0:Int)))) else (some false))))))).bind fun (p_1:Bool) =>
  (bif p_1 then some (1:Int) else
  (zCl F r_1.1 e_1).bind fun r_2 =>
  (bif (r_2 != (0:Int)) then some r_2 else
  (bif (r_1.1.n&&(decide (e_1.N<r_1.1.least)||decide (e_1.N>r_1.1.most))) then some (2:Int) else
  (bif ((e_1.Kind==(9:Int))&&((e_1.N != (2:Int))&&(e_1.M != (0:Int)))) then some (1:Int) else
  (bif (r_1.1.m&&(bif decide (e_1.M<r_1.1.mLeast) then ((e_1.Kind != (9:Int))||(e_1.N==(2:Int))) else (decide (e_1.M>r_1.1.mMost)&&((e_1.Kind != (9:Int))||(e_1.N==(2:Int)))))) then some (2:Int) else
  some (0:Int)))))))
def zA3 (F:Nat) (zE:List (List Int)) (zD:List (zN)) (b_1:List (Int)):Option (zL×Int×Int) :=
  (pE F zE zD).bind fun r_1 =>
  (bif (r_1 != (0:Int)) then some ((⟨(0:Int),(0:Int),([]:List Int),(0:Int),(0:Int),[]⟩:zL),(0:Int),(1:Int)) else
  (vO F (⟨b_1,(0:Int),(0:Int)⟩:xO)).bind fun r_2 =>
  (vO F r_2.2).bind fun r_3 =>
  (((bif ((r_3.2.fault==(0:Int))&&(decide (r_2.1<(1:Int))||decide (r_2.1>(12:Int)))) then some (10:Int) else
  some r_3.2.fault):Option Int)).bind fun (o_1:Int) =>
  (zCq r_2.1).bind fun r_4 =>
  (((bif r_4.1 then (vO F (⟨r_3.2.b,r_3.2.used,o_1⟩:xO)).bind fun r_5 =>
  some (r_5.1,r_5.2.b,r_5.2.used,r_5.2.fault) else
  some ((0:Int),r_3.2.b,r_3.2.used,o_1)):Option (Int×(List Int)×Int×Int))).bind fun (o_2:(Int×(List Int)×Int×Int)) =>
  (((bif r_4.2.1 then (vO F (⟨o_2.2.1,o_2.2.2.1,o_2.2.2.2⟩:xO)).bind fun r_6 =>
  some (r_6.2.b,r_6.2.used,r_6.2.fault,r_6.1) else
  some (o_2.2.1,o_2.2.2.1,o_2.2.2.2,(0:Int))):Option ((List Int)×Int×Int×Int))).bind fun (o_3:((List Int)×Int×Int×Int)) =>
  (((bif r_4.2.2.1 then (vO F (⟨o_3.1,o_3.2.1,o_3.2.2.1⟩:xO)).bind fun r_7 =>
  some (r_7.2.b,r_7.2.used,r_7.2.fault,r_7.1) else
  some (o_3.1,o_3.2.1,o_3.2.2.1,(0:Int))):Option ((List Int)×Int×Int×Int))).bind fun (o_4:((List Int)×Int×Int×Int)) =>
  (((bif r_4.2.2.2 then (vO F (⟨o_4.1,o_4.2.1,o_4.2.2.1⟩:xO)).bind fun r_8 =>
  some (r_8.1,r_8.2.b,r_8.2.used,r_8.2.fault) else
  some ((-1:Int),o_4.1,o_4.2.1,o_4.2.2.1)):Option (Int×(List Int)×Int×Int))).bind fun (o_5:(Int×(List Int)×Int×Int)) =>
  (((bif (o_5.2.2.2 != (0:Int)) then some (.inr ((⟨(0:Int),(0:Int),([]:List Int),(0:Int),(0:Int),[]⟩:zL),(0:Int),o_5.2.2.2)) else
  (bif (r_4.1&&(decide (o_2.1<(0:Int))||decide (o_2.1≥(((zE).length:Nat):Int)))) then some (.inr ((⟨(0:Int),(0:Int),([]:List Int),(0:Int),(0:Int),[]⟩:zL),(0:Int),(2:Int))) else
  (bif (decide (o_5.1<(-1:Int))||decide (o_5.1≥(((zD).length:Nat):Int))) then some (.inr ((⟨(0:Int),(0:Int),([]:List Int),(0:Int),(0:Int),[]⟩:zL),(0:Int),(2:Int))) else
  some (.inl ())))):Option (Unit⊕(zL×Int×Int)))).bind fun (o_6:Unit⊕(zL×Int×Int)) =>
  (match o_6 with
  | (.inl q_1) =>
  (((bif r_4.1 then (y7 zE o_2.1).bind fun x_1 =>
  some x_1 else
  some ([]:List Int)):Option (List Int))).bind fun (o_7:(List Int)) =>
  (zAu F zE zD o_5.1).bind fun r_9 =>
  (nD F (⟨r_3.1,r_2.1,o_7,o_3.2.2.2,o_4.2.2.2,r_9.1⟩:zL)).bind fun y4 =>
  (bif (y4 != (0:Int)) then some ((⟨(0:Int),(0:Int),([]:List Int),(0:Int),(0:Int),[]⟩:zL),(0:Int),(10:Int)) else
  some ((⟨r_3.1,r_2.1,o_7,o_3.2.2.2,o_4.2.2.2,r_9.1⟩:zL),o_5.2.2.1,(0:Int)))
  | (.inr q_2) =>
  some q_2))
def qI (F:Nat) (p_1:zG) (r_1:(List (List (Int)))×zO) (rec:Int→(List zL)→Option ((List zL)⊕((List (zL))×Bool))) (v_1:Int) (zK:List zL):Option ((List zL)⊕((List (zL))×Bool)) :=
  (bif decide (v_1<(((r_1.1).length:Nat):Int)) then (y7 r_1.1 v_1).bind fun x_1 =>
  (zA3 F p_1.Names p_1.Stacks x_1).bind fun r_2 =>
  (bif ((r_2.2.2 != (0:Int))||(r_2.2.1 != (((x_1).length:Nat):Int))) then some (.inr ([],false)) else
  (need (((zK).length+(([r_2.1]:List zL)).length) * 72≤140737488355328)).bind fun _ =>
  rec (zJ (v_1+(1:Int))) (zK++([r_2.1]:List zL))) else
  some (.inl zK))
def pG (F:Nat) (p_1:zG) (r_1:(List (List (Int)))×zO):Nat→Int→(List zL)→Option ((List zL)⊕((List (zL))×Bool))
  | 0,_,_=>none
  | n+1,v_1,zK=>qI F p_1 r_1 (pG F p_1 r_1 n) v_1 zK
def zAb (F:Nat) (p_1:zG):Option ((List (zL))×Bool) :=
  (zCJ F p_1.Ring).bind fun r_1 =>
  (pG F p_1 r_1 F (0:Int) []).bind fun (o_1:(List zL)⊕((List (zL))×Bool)) =>
  (match o_1 with
  | (.inl q_1) =>
  some (q_1,true)
  | (.inr q_2) =>
  some q_2)
def t6 (F:Nat) (r_4:(List (zL))×Bool) (rec:Bool→Int→Int→Option (Bool×Int)) (zAX:Bool) (qJ:Int) (v_1:Int):Option (Bool×Int) :=
  (bif decide (v_1<(((r_4.1).length:Nat):Int)) then (y7 r_4.1 v_1).bind fun x_1 =>
  rec (zAX&&decide (x_1.At≥qJ)) x_1.At (zJ (v_1+(1:Int))) else
  some (zAX,qJ))
def qX (F:Nat) (r_4:(List (zL))×Bool):Nat→Bool→Int→Int→Option (Bool×Int)
  | 0,_,_,_=>none
  | n+1,zAX,qJ,v_1=>t6 F r_4 (qX F r_4 n) zAX qJ v_1
def kV (F:Nat) (p_1:zG):Option ((List (zL))×Int) :=
  (pP F p_1.Thread).bind fun r_1 =>
  (bif (r_1 != (0:Int)) then some ([],r_1) else
  (pE F p_1.Names p_1.Stacks).bind fun r_2 =>
  (bif (r_2 != (0:Int)) then some ([],r_2) else
  (zC7 F p_1.Ring).bind fun r_3 =>
  (bif (r_3 != (0:Int)) then some ([],r_3) else
  (bif (decide (p_1.Sent<(0:Int))||(decide (p_1.Sent>p_1.Ring.First)||(decide (p_1.Last<(0:Int))||decide (p_1.Last>(1000000000000:Int))))) then some ([],(2:Int)) else
  (zAb F p_1).bind fun r_4 =>
  (qX F r_4 F r_4.2 (0:Int) (0:Int)).bind fun (o_1:(Bool×Int)) =>
  (bif (!o_1.1||decide (o_1.2>p_1.Last)) then some ([],(10:Int)) else
  some (r_4.1,(0:Int)))))))
def jM (F:Nat) (p_1:zG):Option Int :=
  (kV F p_1).bind fun r_1 =>
  some r_1.2
def zBw (n_1:Int):Option Int :=
  some (zCD .u64 (zAf .u64 (yR n_1) (1:Int)) (yR (zBl .i64 n_1 (63:Int))))
def tG (F:Nat) (rec:Int→Int→(List Int)→Option (Int×(List Int))) (zZ:Int) (u_1:Int) (zK:List Int):Option (Int×(List Int)) :=
  (need ((0:Int)≤zZ∧zZ<((10:Nat):Int))).bind fun _=>((zK)[(zZ).toNat]?).bind fun x_1 =>
  (bif decide (u_1<(128:Int)) then some (zJ (zZ+(1:Int)),(zK).set ((zZ).toNat) (wK (tC .u64 u_1 (127:Int)))) else
  (need ((0:Int)≤(zJ ((zJ (zZ+(1:Int))) - (1:Int)))∧(zJ ((zJ (zZ+(1:Int))) - (1:Int)))<((10:Nat):Int))).bind fun _=>(((zK).set ((zZ).toNat) (wK (tC .u64 u_1 (127:Int))))[(zJ ((zJ (zZ+(1:Int))) - (1:Int))).toNat]?).bind fun x_2=>(need ((0:Int)≤(zJ ((zJ (zZ+(1:Int))) - (1:Int)))∧(zJ ((zJ (zZ+(1:Int))) - (1:Int)))<((10:Nat):Int))).bind fun _=>(((zK).set ((zZ).toNat) (wK (tC .u64 u_1 (127:Int))))[(zJ ((zJ (zZ+(1:Int))) - (1:Int))).toNat]?).bind fun x_3 =>
  rec (zJ (zZ+(1:Int))) (zBl .u64 u_1 (7:Int)) (((zK).set ((zZ).toNat) (wK (tC .u64 u_1 (127:Int)))).set ((zJ ((zJ (zZ+(1:Int))) - (1:Int))).toNat) (ior .u8 x_2 (128:Int))))
def qW (F:Nat):Nat→Int→Int→(List Int)→Option (Int×(List Int))
  | 0,_,_,_=>none
  | n+1,zZ,u_1,zK=>tG F (qW F n) zZ u_1 zK
def vG (F:Nat) (b_1:List (Int)) (n_1:Int):Option (List (Int)) :=
  (zBw n_1).bind fun r_1 =>
  (qW F F (0:Int) r_1 (List.replicate 10 (0:Int))).bind fun (o_1:(Int×(List Int))) =>
  (need ((0:Int)≤o_1.1∧o_1.1≤((10:Nat):Int)∧10≤(o_1.2).length)).bind fun _=>(need (0≤((o_1.1).toNat)∧((o_1.1).toNat)≤(o_1.2).length)).bind fun _=>(need (((sub b_1 (0:Int) (((b_1).length:Nat):Int)).length+(((o_1.2).take ((o_1.1).toNat)).drop 0).length) * 1≤140737488355328)).bind fun _=>(need (0<(((o_1.2).take ((o_1.1).toNat)).drop 0).length∨(sub b_1 (0:Int) (((b_1).length:Nat):Int)).length=0)).bind fun _ =>
  some ((sub b_1 (0:Int) (((b_1).length:Nat):Int))++(((o_1.2).take ((o_1.1).toNat)).drop 0))
def wE (F:Nat) (s_1:List (List Int)) (a_1:List Int) (rec:Int→Option (Unit⊕Int)) (v_1:Int):Option (Unit⊕Int) :=
  (bif decide (v_1<(((s_1).length:Nat):Int)) then (y7 s_1 v_1).bind fun x_1 =>
  (bif (a_1==x_1) then some (.inr v_1) else
  rec (zJ (v_1+(1:Int)))) else
  some (.inl ()))
def uT (F:Nat) (s_1:List (List Int)) (a_1:List Int):Nat→Int→Option (Unit⊕Int)
  | 0,_=>none
  | n+1,v_1=>wE F s_1 a_1 (uT F s_1 a_1 n) v_1
def tK (F:Nat) (s_1:List (List Int)) (a_1:List Int):Option Int :=
  (uT F s_1 a_1 F (0:Int)).bind fun (o_1:Unit⊕Int) =>
  (match o_1 with
  | (.inl q_1) =>
  some (-1:Int)
  | (.inr q_2) =>
  some q_2)
def jE (s_1:List (List Int)):Option (List (List Int)) :=
  (need (((([]:List (List Int))).length+(s_1).length) * 16≤140737488355328)).bind fun _ =>
  some ([]++s_1)
def zBW (F:Nat) (zE:List (List Int)) (s_1:List Int):Option (Int×(List (List Int))×Int) :=
  (kX F s_1).bind fun r_1 =>
  (bif (r_1 != (0:Int)) then some ((0:Int),zE,r_1) else
  (tK F zE s_1).bind fun r_2 =>
  (bif decide (r_2≥(0:Int)) then some (r_2,zE,(0:Int)) else
  (bif decide ((((zE).length:Nat):Int)≥(1000:Int)) then some ((0:Int),zE,(6:Int)) else
  (jE zE).bind fun r_3=>(need (((r_3).length+(([s_1]:List (List Int))).length) * 16≤140737488355328)).bind fun _ =>
  some ((((zE).length:Nat):Int),(r_3++([s_1]:List (List Int))),(0:Int)))))
def j6 (s_1:List (zN)):Option (List (zN)) :=
  (need (((([]:List zN)).length+(s_1).length) * 16≤140737488355328)).bind fun _ =>
  some ([]++s_1)
def wJ (F:Nat) (s_1:List (zN)) (a_1:zN) (rec:Int→Option (Unit⊕Int)) (v_1:Int):Option (Unit⊕Int) :=
  (bif decide (v_1<(((s_1).length:Nat):Int)) then (y7 s_1 v_1).bind fun x_1 =>
  (bif (decide (a_1=x_1)) then some (.inr v_1) else
  rec (zJ (v_1+(1:Int)))) else
  some (.inl ()))
def tA (F:Nat) (s_1:List (zN)) (a_1:zN):Nat→Int→Option (Unit⊕Int)
  | 0,_=>none
  | n+1,v_1=>wJ F s_1 a_1 (tA F s_1 a_1 n) v_1
def t4 (F:Nat) (s_1:List (zN)) (a_1:zN):Option Int :=
  (tA F s_1 a_1 F (0:Int)).bind fun (o_1:Unit⊕Int) =>
  (match o_1 with
  | (.inl q_1) =>
  some (-1:Int)
  | (.inr q_2) =>
  some q_2)
def qG (F:Nat) (zE:List (List Int)) (zD:List (zN)) (l_1:List (List Int)) (rec:Int→(List (List Int))→Int→(List zN)→Option ((Int×(List (List Int))×(List zN))⊕(Int×(List (List Int))×(List (zN))×Int))) (yE:Int) (n_1:List (List Int)) (v_1:Int) (zK:List zN):Option ((Int×(List (List Int))×(List zN))⊕(Int×(List (List Int))×(List (zN))×Int)) :=
  (bif decide (v_1<(((l_1).length:Nat):Int)) then (y7 l_1 v_1).bind fun x_1 =>
  (zBW F n_1 x_1).bind fun r_3 =>
  (bif (r_3.2.2 != (0:Int)) then some (.inr ((0:Int),zE,zD,r_3.2.2)) else
  (t4 F zK (⟨yE,r_3.1⟩:zN)).bind fun r_4 =>
  (bif decide (r_4≥(0:Int)) then rec r_4 r_3.2.1 (zJ (v_1+(1:Int))) zK else
  (bif decide ((((zK).length:Nat):Int)≥(1000:Int)) then some (.inr ((0:Int),zE,zD,(6:Int))) else
  (need (((zK).length+(([(⟨yE,r_3.1⟩:zN)]:List zN)).length) * 16≤140737488355328)).bind fun _ =>
  rec (((zK).length:Nat):Int) r_3.2.1 (zJ (v_1+(1:Int))) (zK++([(⟨yE,r_3.1⟩:zN)]:List zN))))) else
  some (.inl (yE,n_1,zK)))
def jR (F:Nat) (zE:List (List Int)) (zD:List (zN)) (l_1:List (List Int)):Nat→Int→(List (List Int))→Int→(List zN)→Option ((Int×(List (List Int))×(List zN))⊕(Int×(List (List Int))×(List (zN))×Int))
  | 0,_,_,_,_=>none
  | n+1,yE,n_1,v_1,zK=>qG F zE zD l_1 (jR F zE zD l_1 n) yE n_1 v_1 zK
def pQ (F:Nat) (zE:List (List Int)) (zD:List (zN)) (l_1:List (List Int)):Option (Int×(List (List Int))×(List (zN))×Int) :=
  (nW F l_1).bind fun r_1 =>
  (bif (r_1 != (0:Int)) then some ((0:Int),zE,zD,r_1) else
  (j6 zD).bind fun r_2 =>
  (jR F zE zD l_1 F (-1:Int) zE (0:Int) r_2).bind fun (o_1:(Int×(List (List Int))×(List zN))⊕(Int×(List (List Int))×(List (zN))×Int)) =>
  (match o_1 with
  | (.inl q_1) =>
  some (q_1.1,q_1.2.1,q_1.2.2,(0:Int))
  | (.inr q_2) =>
  some q_2))
abbrev zY1:Type:=((List (Int))×(List (List Int))×(List (zN))×Int)
def zA0 (F:Nat) (zE:List (List Int)) (zD:List (zN)) (e_1:zL):Option zY1 :=
  (pE F zE zD).bind fun r_1 =>
  (bif (r_1 != (0:Int)) then some ([],[],[],(1:Int)) else
  (nD F e_1).bind fun r_2 =>
  (bif (r_2 != (0:Int)) then some ([],[],[],r_2) else
  (zCq e_1.Kind).bind fun r_3 =>
  (vG F [] e_1.Kind).bind fun r_4=>(vG F r_4 e_1.At).bind fun r_5 =>
  (((bif r_3.1 then (zBW F zE e_1.Name).bind fun r_6 =>
  (bif (r_6.2.2 != (0:Int)) then some (.inr ([],[],[],r_6.2.2)) else
  (vG F r_5 r_6.1).bind fun r_7 =>
  some (.inl (r_6.2.1,r_7))) else
  some (.inl (zE,r_5))):Option (((List (List Int))×(List Int))⊕zY1))).bind fun (o_1:((List (List Int))×(List Int))⊕zY1) =>
  (match o_1 with
  | (.inl q_1) =>
  (((bif r_3.2.1 then (vG F q_1.2 e_1.N).bind fun r_8 =>
  some r_8 else
  some q_1.2):Option (List Int))).bind fun (o_2:(List Int)) =>
  (((bif r_3.2.2.1 then (vG F o_2 e_1.M).bind fun r_9 =>
  some r_9 else
  some o_2):Option (List Int))).bind fun (o_3:(List Int)) =>
  (((bif r_3.2.2.2 then (pQ F q_1.1 zD e_1.Stack).bind fun y4 =>
  (bif (y4.2.2.2 != (0:Int)) then some (.inr ([],[],[],y4.2.2.2)) else
  (vG F o_3 y4.1).bind fun y6 =>
  some (.inl (y4.2.1,y4.2.2.1,y6))) else
  some (.inl (q_1.1,zD,o_3))):Option (((List (List Int))×(List zN)×(List Int))⊕zY1))).bind fun (o_4:((List (List Int))×(List zN)×(List Int))⊕zY1) =>
  (match o_4 with
  | (.inl q_3) =>
  some (q_3.2.2,q_3.1,q_3.2.1,(0:Int))
  | (.inr q_4) =>
  some q_4)
  | (.inr q_2) =>
  some q_2)))
def q9 (s_1:List (Int)):Option (List (Int)) :=
  (need (((([]:List Int)).length+(s_1).length) * 1≤140737488355328)).bind fun _ =>
  some ([]++s_1)
def jG (F:Nat) (b_1:List (Int)) (r_2:(List (List (Int)))×Int) (r_3:(List (Int))) (rec:Int→Int→Int→Option (Int×Int)) (v7:Int) (xH:Int) (c_1:Int):Option (Int×Int) :=
  (bif decide (((((r_3++b_1)).length:Nat):Int)>v7) then (y7 r_2.1 xH).bind fun x_1=>(vG F [] (((x_1).length:Nat):Int)).bind fun r_4=>(y7 r_2.1 xH).bind fun x_2 =>
  rec (zJ (v7+(zJ ((((r_4).length:Nat):Int)+(((x_2).length:Nat):Int))))) (zJ (xH+(1:Int))) (zJ (c_1+(zJ ((((r_4).length:Nat):Int)+(((x_2).length:Nat):Int))))) else
  some (xH,c_1))
def zBg (F:Nat) (b_1:List (Int)) (r_2:(List (List (Int)))×Int) (r_3:(List (Int))):Nat→Int→Int→Int→Option (Int×Int)
  | 0,_,_,_=>none
  | n+1,v7,xH,c_1=>jG F b_1 r_2 r_3 (zBg F b_1 r_2 r_3 n) v7 xH c_1
def zEG (F:Nat) (r_1:zO) (b_1:List (Int)):Option (zO×Int×Int) :=
  (zBr F r_1).bind fun r_2 =>
  (bif (r_2.2 != (0:Int)) then some (r_1,(0:Int),r_2.2) else
  (vG F [] (((b_1).length:Nat):Int)).bind fun r_3=>(need (((r_3).length+(b_1).length) * 1≤140737488355328)).bind fun _ =>
  (bif (decide ((((b_1).length:Nat):Int)>(2000:Int))||decide (((((r_3++b_1)).length:Nat):Int)>(((r_1.Data).length:Nat):Int))) then some (r_1,(0:Int),(7:Int)) else
  (bif ((r_1.Policy==(2:Int))&&decide (((((r_3++b_1)).length:Nat):Int)>(zJ ((((r_1.Data).length:Nat):Int) - (zJ (r_1.End - r_1.Start)))))) then some (r_1,(0:Int),(6:Int)) else
  (bif (decide ((zJ (r_1.End+((((r_3++b_1)).length:Nat):Int)))>(1000000000000000:Int))||decide (r_1.Next≥(1000000000000000:Int))) then some (r_1,(0:Int),(2:Int)) else
  (zBg F b_1 r_2 r_3 F (zJ ((((r_1.Data).length:Nat):Int) - (zJ (r_1.End - r_1.Start)))) (0:Int) r_1.Start).bind fun (o_1:(Int×Int)) =>
  (q9 r_1.Data).bind fun r_5 =>
  (need ((((r_5).length:Nat):Int)≠(0:Int))).bind fun _=>(need ((0:Int)≤(yQ r_1.End (((r_5).length:Nat):Int))∧(yQ r_1.End (((r_5).length:Nat):Int))≤(((r_5).length:Nat):Int))).bind fun _=>(need (((yQ r_1.End (((r_5).length:Nat):Int)).toNat)≤((r_5).length)∧((r_5).length)≤(r_5).length)).bind fun _ =>
  (need ((((min ((r_3++b_1)).length ((r_5).length - (yQ r_1.End (((r_5).length:Nat):Int)).toNat)):Nat):Int)≤((((r_3++b_1)).length:Nat):Int))).bind fun _=>(need ((min ((r_3++b_1)).length ((r_5).length - (yQ r_1.End (((r_5).length:Nat):Int)).toNat))≤(((r_3++b_1)).length)∧(((r_3++b_1)).length)≤((r_3++b_1)).length)).bind fun _=>(need (0≤((r_5).length)∧((r_5).length)≤((cpy r_5 ((yQ r_1.End (((r_5).length:Nat):Int)).toNat) ((r_5).length) (r_3++b_1))).length)).bind fun _ =>
  some ((⟨r_1.Policy,(cpy (cpy r_5 ((yQ r_1.End (((r_5).length:Nat):Int)).toNat) ((r_5).length) (r_3++b_1)) 0 ((r_5).length) ((((r_3++b_1)).take (((r_3++b_1)).length)).drop (min ((r_3++b_1)).length ((r_5).length - (yQ r_1.End (((r_5).length:Nat):Int)).toNat)))),o_1.2,zJ (r_1.End+((((r_3++b_1)).length:Nat):Int)),zJ (r_1.First+o_1.1),zJ (r_1.Next+(1:Int))⟩:zO),o_1.1,(0:Int))))))
def qB (F:Nat) (p_1:zG) (e_1:zL):Option (zG×Int) :=
  (jM F p_1).bind fun r_1 =>
  (bif (r_1 != (0:Int)) then some ((⟨(⟨(0:Int),([]:List Int),(0:Int)⟩:yA),[],[],(⟨(0:Int),[],(0:Int),(0:Int),(0:Int),(0:Int)⟩:zO),(0:Int),(0:Int)⟩:zG),r_1) else
  (nD F e_1).bind fun r_2 =>
  (bif (r_2 != (0:Int)) then some ((⟨(⟨(0:Int),([]:List Int),(0:Int)⟩:yA),[],[],(⟨(0:Int),[],(0:Int),(0:Int),(0:Int),(0:Int)⟩:zO),(0:Int),(0:Int)⟩:zG),r_2) else
  (bif decide (e_1.At<p_1.Last) then some ((⟨(⟨(0:Int),([]:List Int),(0:Int)⟩:yA),[],[],(⟨(0:Int),[],(0:Int),(0:Int),(0:Int),(0:Int)⟩:zO),(0:Int),(0:Int)⟩:zG),(11:Int)) else
  (zA0 F p_1.Names p_1.Stacks e_1).bind fun r_3 =>
  (bif (r_3.2.2.2 != (0:Int)) then some ((⟨(⟨(0:Int),([]:List Int),(0:Int)⟩:yA),[],[],(⟨(0:Int),[],(0:Int),(0:Int),(0:Int),(0:Int)⟩:zO),(0:Int),(0:Int)⟩:zG),r_3.2.2.2) else
  (zEG F p_1.Ring r_3.1).bind fun r_4 =>
  (bif (r_4.2.2 != (0:Int)) then some ((⟨(⟨(0:Int),([]:List Int),(0:Int)⟩:yA),[],[],(⟨(0:Int),[],(0:Int),(0:Int),(0:Int),(0:Int)⟩:zO),(0:Int),(0:Int)⟩:zG),r_4.2.2) else
  some ((⟨p_1.Thread,r_3.2.1,r_3.2.2.1,r_4.1,e_1.At,p_1.Sent⟩:zG),(0:Int)))))))
structure z9 where
  Thread:Int
  Serial:Int
  Lost:Int
  Events:List (zL)
  deriving DecidableEq,Inhabited
def zJ7 (s:z9):List AV:=[.int .i64 s.Thread,.int .i64 s.Serial,.int .i64 s.Lost,.sl false 6 (List.map zH s.Events)]
def zI (s:z9):AV:=.agg (zJ7 s)
def uO (F:Nat) (p_1:zG) (rec:(List zL)→Int→Int→(List z9)→Option (List z9)) (l_1:List zL) (vX:Int) (xH:Int) (zK:List z9):Option (List z9) :=
  (bif decide ((((l_1).length:Nat):Int)>(0:Int)) then (need ((0:Int)≤(vE (((l_1).length:Nat):Int) (1000:Int))∧(vE (((l_1).length:Nat):Int) (1000:Int))≤(((l_1).length:Nat):Int))).bind fun _=>(need (((zK).length+(([(⟨p_1.Thread.Id,vX,xH,sub l_1 (0:Int) (vE (((l_1).length:Nat):Int) (1000:Int))⟩:z9)]:List z9)).length) * 48≤140737488355328)).bind fun _ =>
  (need ((0:Int)≤(vE (((l_1).length:Nat):Int) (1000:Int))∧(vE (((l_1).length:Nat):Int) (1000:Int))≤(((l_1).length:Nat):Int))).bind fun _ =>
  rec (sub l_1 (vE (((l_1).length:Nat):Int) (1000:Int)) (((l_1).length:Nat):Int)) (zJ (vX+(vE (((l_1).length:Nat):Int) (1000:Int)))) (0:Int) (zK++([(⟨p_1.Thread.Id,vX,xH,sub l_1 (0:Int) (vE (((l_1).length:Nat):Int) (1000:Int))⟩:z9)]:List z9)) else
  some zK)
def qU (F:Nat) (p_1:zG):Nat→(List zL)→Int→Int→(List z9)→Option (List z9)
  | 0,_,_,_,_=>none
  | n+1,l_1,vX,xH,zK=>uO F p_1 (qU F p_1 n) l_1 vX xH zK
def kQ (F:Nat) (p_1:zG):Option ((List (z9))×zG) :=
  (kV F p_1).bind fun r_1 =>
  (bif (r_1.2 != (0:Int)) then some ([],p_1) else
  (qU F p_1 F r_1.1 p_1.Ring.First (zJ (p_1.Ring.First - p_1.Sent)) []).bind fun (o_1:(List z9)) =>
  (zCJ F p_1.Ring).bind fun r_2 =>
  some (o_1,(⟨p_1.Thread,p_1.Names,p_1.Stacks,r_2.2,p_1.Last,r_2.2.Next⟩:zG)))
def nX (F:Nat) (p_1:zG):Option Int :=
  (jM F p_1).bind fun r_1 =>
  (bif (r_1 != (0:Int)) then some (0:Int) else
  some (zJ (p_1.Ring.First - p_1.Sent)))
abbrev zY0:Type:=(Int×(List Int)×Int×(List (List Int))×(List zN)×Int×(List Int)×Int×Int×Int×Int×Int×Int×Int×(List Int)×Int×(List (List Int))×(List zN)×Int×(List Int)×Int×Int×Int×Int×Int×Int)
def zCd (F:Nat) (rec:Int→Int→(List Int)→Int→(List (List Int))→(List zN)→Int→(List Int)→Int→Int→Int→Int→Int→Int→Int→(List Int)→Int→(List (List Int))→(List zN)→Int→(List Int)→Int→Int→Int→Int→Int→Int→Option (zY0⊕Bool)) (yE:Int) (c_1:Int) (c_2:List Int) (c_3:Int) (c_4:List (List Int)) (c_5:List zN) (c_6:Int) (c_7:List Int) (c_8:Int) (c_9:Int) (vI:Int) (vJ:Int) (vK:Int) (vL:Int) (wQ:Int) (wR:List Int) (wS:Int) (wT:List (List Int)) (wU:List zN) (wV:Int) (wW:List Int) (wX:Int) (wY:Int) (wZ:Int) (w3:Int) (w4:Int) (w5:Int):Option (zY0⊕Bool) :=
  (bif decide (yE≤(4:Int)) then (zDw yE).bind fun r_3=>(qB F (⟨(⟨c_1,c_2,c_3⟩:yA),c_4,c_5,(⟨c_6,c_7,c_8,c_9,vI,vJ⟩:zO),vK,vL⟩:zG) r_3).bind fun r_4 =>
  (zDw yE).bind fun r_5=>(qB F (⟨(⟨wQ,wR,wS⟩:yA),wT,wU,(⟨wV,wW,wX,wY,wZ,w3⟩:zO),w4,w5⟩:zG) r_5).bind fun r_6 =>
  (bif ((r_4.2 != (0:Int))||(r_6.2 != (0:Int))) then some (.inr false) else
  rec (zJ (yE+(1:Int))) r_4.1.Thread.Id r_4.1.Thread.Name r_4.1.Thread.Domain r_4.1.Names r_4.1.Stacks r_4.1.Ring.Policy r_4.1.Ring.Data r_4.1.Ring.Start r_4.1.Ring.End r_4.1.Ring.First r_4.1.Ring.Next r_4.1.Last r_4.1.Sent r_6.1.Thread.Id r_6.1.Thread.Name r_6.1.Thread.Domain r_6.1.Names r_6.1.Stacks r_6.1.Ring.Policy r_6.1.Ring.Data r_6.1.Ring.Start r_6.1.Ring.End r_6.1.Ring.First r_6.1.Ring.Next r_6.1.Last r_6.1.Sent) else
  some (.inl (c_1,c_2,c_3,c_4,c_5,c_6,c_7,c_8,c_9,vI,vJ,vK,vL,wQ,wR,wS,wT,wU,wV,wW,wX,wY,wZ,w3,w4,w5)))
def zCW (F:Nat):Nat→Int→Int→(List Int)→Int→(List (List Int))→(List zN)→Int→(List Int)→Int→Int→Int→Int→Int→Int→Int→(List Int)→Int→(List (List Int))→(List zN)→Int→(List Int)→Int→Int→Int→Int→Int→Int→Option (zY0⊕Bool)
  | 0,_,_,_,_,_,_,_,_,_,_,_,_,_,_,_,_,_,_,_,_,_,_,_,_,_,_,_=>none
  | n+1,yE,c_1,c_2,c_3,c_4,c_5,c_6,c_7,c_8,c_9,vI,vJ,vK,vL,wQ,wR,wS,wT,wU,wV,wW,wX,wY,wZ,w3,w4,w5=>zCd F (zCW F n) yE c_1 c_2 c_3 c_4 c_5 c_6 c_7 c_8 c_9 vI vJ vK vL wQ wR wS wT wU wV wW wX wY wZ w3 w4 w5
def zDN (F:Nat):Option Bool :=
  (pC F (⟨(3:Int),([109,97,105,110]:List Int),(0:Int)⟩:yA) (16:Int) (1:Int)).bind fun r_1 =>
  (pC F (⟨(3:Int),([109,97,105,110]:List Int),(0:Int)⟩:yA) (16:Int) (2:Int)).bind fun r_2 =>
  (bif ((r_1.2 != (0:Int))||(r_2.2 != (0:Int))) then some false else
  (zCW F F (1:Int) r_1.1.Thread.Id r_1.1.Thread.Name r_1.1.Thread.Domain r_1.1.Names r_1.1.Stacks r_1.1.Ring.Policy r_1.1.Ring.Data r_1.1.Ring.Start r_1.1.Ring.End r_1.1.Ring.First r_1.1.Ring.Next r_1.1.Last r_1.1.Sent r_2.1.Thread.Id r_2.1.Thread.Name r_2.1.Thread.Domain r_2.1.Names r_2.1.Stacks r_2.1.Ring.Policy r_2.1.Ring.Data r_2.1.Ring.Start r_2.1.Ring.End r_2.1.Ring.First r_2.1.Ring.Next r_2.1.Last r_2.1.Sent).bind fun (o_1:zY0⊕Bool) =>
  (match o_1 with
  | (.inl q_1) =>
  (zDw (5:Int)).bind fun r_7=>(qB F (⟨(⟨q_1.2.2.2.2.2.2.2.2.2.2.2.2.2.1,q_1.2.2.2.2.2.2.2.2.2.2.2.2.2.2.1,q_1.2.2.2.2.2.2.2.2.2.2.2.2.2.2.2.1⟩:yA),q_1.2.2.2.2.2.2.2.2.2.2.2.2.2.2.2.2.1,q_1.2.2.2.2.2.2.2.2.2.2.2.2.2.2.2.2.2.1,(⟨q_1.2.2.2.2.2.2.2.2.2.2.2.2.2.2.2.2.2.2.1,q_1.2.2.2.2.2.2.2.2.2.2.2.2.2.2.2.2.2.2.2.1,q_1.2.2.2.2.2.2.2.2.2.2.2.2.2.2.2.2.2.2.2.2.1,q_1.2.2.2.2.2.2.2.2.2.2.2.2.2.2.2.2.2.2.2.2.2.1,q_1.2.2.2.2.2.2.2.2.2.2.2.2.2.2.2.2.2.2.2.2.2.2.1,q_1.2.2.2.2.2.2.2.2.2.2.2.2.2.2.2.2.2.2.2.2.2.2.2.1⟩:zO),q_1.2.2.2.2.2.2.2.2.2.2.2.2.2.2.2.2.2.2.2.2.2.2.2.2.1,q_1.2.2.2.2.2.2.2.2.2.2.2.2.2.2.2.2.2.2.2.2.2.2.2.2.2⟩:zG) r_7).bind fun r_8 =>
  (zDw (5:Int)).bind fun r_9=>(qB F (⟨(⟨q_1.1,q_1.2.1,q_1.2.2.1⟩:yA),q_1.2.2.2.1,q_1.2.2.2.2.1,(⟨q_1.2.2.2.2.2.1,q_1.2.2.2.2.2.2.1,q_1.2.2.2.2.2.2.2.1,q_1.2.2.2.2.2.2.2.2.1,q_1.2.2.2.2.2.2.2.2.2.1,q_1.2.2.2.2.2.2.2.2.2.2.1⟩:zO),q_1.2.2.2.2.2.2.2.2.2.2.2.1,q_1.2.2.2.2.2.2.2.2.2.2.2.2.1⟩:zG) r_9).bind fun y4 =>
  (kQ F y4.1).bind fun y6 =>
  (kQ F (⟨(⟨q_1.2.2.2.2.2.2.2.2.2.2.2.2.2.1,q_1.2.2.2.2.2.2.2.2.2.2.2.2.2.2.1,q_1.2.2.2.2.2.2.2.2.2.2.2.2.2.2.2.1⟩:yA),q_1.2.2.2.2.2.2.2.2.2.2.2.2.2.2.2.2.1,q_1.2.2.2.2.2.2.2.2.2.2.2.2.2.2.2.2.2.1,(⟨q_1.2.2.2.2.2.2.2.2.2.2.2.2.2.2.2.2.2.2.1,q_1.2.2.2.2.2.2.2.2.2.2.2.2.2.2.2.2.2.2.2.1,q_1.2.2.2.2.2.2.2.2.2.2.2.2.2.2.2.2.2.2.2.2.1,q_1.2.2.2.2.2.2.2.2.2.2.2.2.2.2.2.2.2.2.2.2.2.1,q_1.2.2.2.2.2.2.2.2.2.2.2.2.2.2.2.2.2.2.2.2.2.2.1,q_1.2.2.2.2.2.2.2.2.2.2.2.2.2.2.2.2.2.2.2.2.2.2.2.1⟩:zO),q_1.2.2.2.2.2.2.2.2.2.2.2.2.2.2.2.2.2.2.2.2.2.2.2.2.1,q_1.2.2.2.2.2.2.2.2.2.2.2.2.2.2.2.2.2.2.2.2.2.2.2.2.2⟩:zG)).bind fun vM =>
  ((bif (y4.2==(0:Int)) then (bif (r_8.2==(6:Int)) then ((nX F y4.1).bind fun tH=>bif (tH==(1:Int)) then (bif ((((y6.1).length:Nat):Int)==(1:Int)) then ((y7 y6.1 (0:Int)).bind fun x_1=>bif (x_1.Thread==(3:Int)) then ((y7 y6.1 (0:Int)).bind fun x_2=>bif (x_2.Serial==(1:Int)) then ((y7 y6.1 (0:Int)).bind fun x_3=>bif (x_3.Lost==(1:Int)) then ((y7 y6.1 (0:Int)).bind fun x_4=>bif ((((x_4.Events).length:Nat):Int)==(4:Int)) then (bif ((((vM.1).length:Nat):Int)==(1:Int)) then ((y7 vM.1 (0:Int)).bind fun x_5=>bif (x_5.Serial==(0:Int)) then ((y7 vM.1 (0:Int)).bind fun x_6=>some ((((x_6.Events).length:Nat):Int)==(4:Int))) else (some false)) else (some false)) else (some false)) else (some false)) else (some false)) else (some false)) else (some false)) else (some false)) else (some false)) else (some false))).bind fun (p_1:Bool) =>
  some p_1
  | (.inr q_2) =>
  some q_2))
def t5 (F:Nat) (c_1:Int) (rec:Int→Option (Unit⊕Bool)) (i_1:Int):Option (Unit⊕Bool) :=
  (bif decide (i_1<(((([95,46,58,47,60,62,36,42,126,45]:List Int)).length:Nat):Int)) then (y7 ([95,46,58,47,60,62,36,42,126,45]:List Int) i_1).bind fun c_2 =>
  (bif (c_2==c_1) then some (.inr true) else
  rec (zJ (i_1+(1:Int)))) else
  some (.inl ()))
def kC (F:Nat) (c_1:Int):Nat→Int→Option (Unit⊕Bool)
  | 0,_=>none
  | n+1,i_1=>t5 F c_1 (kC F c_1 n) i_1
def zCM (F:Nat) (c_1:Int):Option Bool :=
  (bif (bif decide (c_1≥(97:Int)) then (decide (c_1≤(122:Int))||(bif decide (c_1≥(65:Int)) then (decide (c_1≤(90:Int))||(decide (c_1≥(48:Int))&&decide (c_1≤(57:Int)))) else (decide (c_1≥(48:Int))&&decide (c_1≤(57:Int))))) else (bif decide (c_1≥(65:Int)) then (decide (c_1≤(90:Int))||(decide (c_1≥(48:Int))&&decide (c_1≤(57:Int)))) else (decide (c_1≥(48:Int))&&decide (c_1≤(57:Int))))) then some true else
  (kC F c_1 F (0:Int)).bind fun (o_1:Unit⊕Bool) =>
  (match o_1 with
  | (.inl q_1) =>
  some false
  | (.inr q_2) =>
  some q_2))
def nS (F:Nat) (s_1:List Int) (rec:Int→Option (Unit⊕Int)) (i_1:Int):Option (Unit⊕Int) :=
  (bif decide (i_1<(((s_1).length:Nat):Int)) then (y7 s_1 i_1).bind fun c_1=>(zCM F c_1).bind fun r_1 =>
  (bif !r_1 then some (.inr (3:Int)) else
  rec (zJ (i_1+(1:Int)))) else
  some (.inl ()))
def zCk (F:Nat) (s_1:List Int):Nat→Int→Option (Unit⊕Int)
  | 0,_=>none
  | n+1,i_1=>nS F s_1 (zCk F s_1 n) i_1
def zAU (F:Nat) (s_1:List Int):Option Int :=
  (bif (decide ((((s_1).length:Nat):Int)<(1:Int))||decide ((((s_1).length:Nat):Int)>(40:Int))) then some (3:Int) else
  (zCk F s_1 F (0:Int)).bind fun (o_1:Unit⊕Int) =>
  (match o_1 with
  | (.inl q_1) =>
  some (0:Int)
  | (.inr q_2) =>
  some q_2))
def zBI (F:Nat) (t_1:yA):Option Int :=
  (bif (decide (t_1.Id<(0:Int))||(decide (t_1.Id>(1000000000000000:Int))||(decide (t_1.Domain<(0:Int))||decide (t_1.Domain≥(8:Int))))) then some (2:Int) else
  (zAU F t_1.Name).bind fun r_1 =>
  some r_1)
def zHd (zZ:Int) (p_1:Int):Option (zO×Int) :=
  (bif (decide (zZ<(16:Int))||decide (zZ>(65536:Int))) then some ((⟨(0:Int),[],(0:Int),(0:Int),(0:Int),(0:Int)⟩:zO),(2:Int)) else
  (bif ((p_1 != (1:Int))&&(p_1 != (2:Int))) then some ((⟨(0:Int),[],(0:Int),(0:Int),(0:Int),(0:Int)⟩:zO),(1:Int)) else
  (need ((0:Int)≤zZ∧((zZ).toNat) * 1≤281474976710656)).bind fun _ =>
  some ((⟨p_1,(List.replicate ((zZ).toNat) (0:Int)),(0:Int),(0:Int),(0:Int),(0:Int)⟩:zO),(0:Int))))
def zEs (F:Nat) (t_1:yA) (zZ:Int) (p_1:Int):Option (zG×Int) :=
  (zBI F t_1).bind fun r_1 =>
  (bif (r_1 != (0:Int)) then some ((⟨(⟨(0:Int),([]:List Int),(0:Int)⟩:yA),[],[],(⟨(0:Int),[],(0:Int),(0:Int),(0:Int),(0:Int)⟩:zO),(0:Int),(0:Int)⟩:zG),r_1) else
  (zHd zZ p_1).bind fun r_2 =>
  (bif (r_2.2 != (0:Int)) then some ((⟨(⟨(0:Int),([]:List Int),(0:Int)⟩:yA),[],[],(⟨(0:Int),[],(0:Int),(0:Int),(0:Int),(0:Int)⟩:zO),(0:Int),(0:Int)⟩:zG),r_2.2) else
  some ((⟨t_1,[],[],r_2.1,(0:Int),(0:Int)⟩:zG),(0:Int))))
def uY (F:Nat) (a_1:List (List Int)) (b_1:List (List Int)) (rec:Int→Option (Unit⊕Bool)) (i_1:Int):Option (Unit⊕Bool) :=
  (bif decide (i_1<(((a_1).length:Nat):Int)) then (y7 a_1 i_1).bind fun x_1=>(y7 b_1 i_1).bind fun x_2 =>
  (bif !(x_1==x_2) then some (.inr false) else
  rec (zJ (i_1+(1:Int)))) else
  some (.inl ()))
def nM (F:Nat) (a_1:List (List Int)) (b_1:List (List Int)):Nat→Int→Option (Unit⊕Bool)
  | 0,_=>none
  | n+1,i_1=>uY F a_1 b_1 (nM F a_1 b_1 n) i_1
def zA1 (F:Nat) (a_1:List (List Int)) (b_1:List (List Int)):Option Bool :=
  (bif ((((a_1).length:Nat):Int) != (((b_1).length:Nat):Int)) then some false else
  (nM F a_1 b_1 F (0:Int)).bind fun (o_1:Unit⊕Bool) =>
  (match o_1 with
  | (.inl q_1) =>
  some true
  | (.inr q_2) =>
  some q_2))
def uQ (F:Nat) (a_1:List (zN)) (b_1:List (zN)) (rec:Int→Option (Unit⊕Bool)) (i_1:Int):Option (Unit⊕Bool) :=
  (bif decide (i_1<(((a_1).length:Nat):Int)) then (y7 a_1 i_1).bind fun x_1=>(y7 b_1 i_1).bind fun x_2 =>
  (bif (!(decide (x_1=x_2))) then some (.inr false) else
  rec (zJ (i_1+(1:Int)))) else
  some (.inl ()))
def pZ (F:Nat) (a_1:List (zN)) (b_1:List (zN)):Nat→Int→Option (Unit⊕Bool)
  | 0,_=>none
  | n+1,i_1=>uQ F a_1 b_1 (pZ F a_1 b_1 n) i_1
def zAC (F:Nat) (a_1:List (zN)) (b_1:List (zN)):Option Bool :=
  (bif ((((a_1).length:Nat):Int) != (((b_1).length:Nat):Int)) then some false else
  (pZ F a_1 b_1 F (0:Int)).bind fun (o_1:Unit⊕Bool) =>
  (match o_1 with
  | (.inl q_1) =>
  some true
  | (.inr q_2) =>
  some q_2))
def j1 (F:Nat) (r_1:zO) (rec:Int→(List Int)→Option (List Int)) (p_1:Int) (zK:List Int):Option (List Int) :=
  (bif decide (p_1<r_1.End) then (need ((((r_1.Data).length:Nat):Int)≠(0:Int))).bind fun _=>(y7 r_1.Data (yQ p_1 (((r_1.Data).length:Nat):Int))).bind fun x_1=>(need (((zK).length+(([x_1]:List Int)).length) * 1≤140737488355328)).bind fun _ =>
  rec (zJ (p_1+(1:Int))) (zK++([x_1]:List Int)) else
  some zK)
def pR (F:Nat) (r_1:zO):Nat→Int→(List Int)→Option (List Int)
  | 0,_,_=>none
  | n+1,p_1,zK=>j1 F r_1 (pR F r_1 n) p_1 zK
def nK (F:Nat) (r_1:zO):Option (List (Int)) :=
  (pR F r_1 F r_1.Start []).bind fun (o_1:(List Int)) =>
  some o_1
def zCu (u_1:Int):Option Int :=
  (bif ((yQ u_1 (2:Int))==(1:Int)) then some (zJ ((zJ (0 - (zJ (zEZ .u64 u_1 (2:Int))))) - (1:Int))) else
  some (zJ (zEZ .u64 u_1 (2:Int))))
def n8 (F:Nat) (b_1:List (Int)) (rec:Int→Int→Int→Option (Unit⊕(Int×Int×Int))) (u_1:Int) (vP:Int) (i_1:Int):Option (Unit⊕(Int×Int×Int)) :=
  (bif decide (i_1<(10:Int)) then (bif decide (i_1≥(((b_1).length:Nat):Int)) then some (.inr ((0:Int),(0:Int),(8:Int))) else
  (y7 b_1 i_1).bind fun x_1 =>
  (bif ((i_1==(9:Int))&&decide ((yR x_1)>(1:Int))) then some (.inr ((0:Int),(0:Int),(10:Int))) else
  (bif (decide ((yR x_1)<(128:Int))&&(((yR x_1)==(0:Int))&&decide (i_1>(0:Int)))) then some (.inr ((0:Int),(0:Int),(10:Int))) else
  (bif decide ((yR x_1)<(128:Int)) then (zCu (yR (u_1+(yR ((yQ (yR x_1) (128:Int)) * vP))))).bind fun r_1 =>
  some (.inr (r_1,zJ (i_1+(1:Int)),(0:Int))) else
  rec (yR (u_1+(yR ((yQ (yR x_1) (128:Int)) * vP)))) (yR (vP * (128:Int))) (zJ (i_1+(1:Int))))))) else
  some (.inl ()))
def zAQ (F:Nat) (b_1:List (Int)):Nat→Int→Int→Int→Option (Unit⊕(Int×Int×Int))
  | 0,_,_,_=>none
  | n+1,u_1,vP,i_1=>n8 F b_1 (zAQ F b_1 n) u_1 vP i_1
def zEB (F:Nat) (b_1:List (Int)):Option (Int×Int×Int) :=
  (zAQ F b_1 F (0:Int) (1:Int) (0:Int)).bind fun (o_1:Unit⊕(Int×Int×Int)) =>
  (match o_1 with
  | (.inl q_1) =>
  some ((0:Int),(0:Int),(10:Int))
  | (.inr q_2) =>
  some q_2)
def kL (F:Nat) (rec:(List Int)→(List (List (Int)))→Option ((List (List (Int)))⊕((List (List (Int)))×Bool))) (b_2:List Int) (zK:List (List (Int))):Option ((List (List (Int)))⊕((List (List (Int)))×Bool)) :=
  (bif decide ((((b_2).length:Nat):Int)>(0:Int)) then (zEB F b_2).bind fun r_1 =>
  (bif ((r_1.2.2 != (0:Int))||(decide (r_1.1<(0:Int))||(decide (r_1.1>(2000:Int))||decide (r_1.1>(zJ ((((b_2).length:Nat):Int) - r_1.2.1)))))) then some (.inr ([],false)) else
  (need ((0:Int)≤r_1.2.1∧r_1.2.1≤(zJ (r_1.2.1+r_1.1))∧(zJ (r_1.2.1+r_1.1))≤(((b_2).length:Nat):Int))).bind fun _=>(need (((zK).length+(([sub b_2 r_1.2.1 (zJ (r_1.2.1+r_1.1))]:List (List (Int)))).length) * 24≤140737488355328)).bind fun _ =>
  (need ((0:Int)≤(zJ (r_1.2.1+r_1.1))∧(zJ (r_1.2.1+r_1.1))≤(((b_2).length:Nat):Int))).bind fun _ =>
  rec (sub b_2 (zJ (r_1.2.1+r_1.1)) (((b_2).length:Nat):Int)) (zK++([sub b_2 r_1.2.1 (zJ (r_1.2.1+r_1.1))]:List (List (Int))))) else
  some (.inl zK))
def zAs (F:Nat):Nat→(List Int)→(List (List (Int)))→Option ((List (List (Int)))⊕((List (List (Int)))×Bool))
  | 0,_,_=>none
  | n+1,b_2,zK=>kL F (zAs F n) b_2 zK
def zAj (F:Nat) (b_1:List (Int)):Option ((List (List (Int)))×Bool) :=
  (zAs F F b_1 []).bind fun (o_1:(List (List (Int)))⊕((List (List (Int)))×Bool)) =>
  (match o_1 with
  | (.inl q_1) =>
  some (q_1,true)
  | (.inr q_2) =>
  some q_2)
def zAH (F:Nat) (r_1:zO):Option Int :=
  (bif ((r_1.Policy != (1:Int))&&(r_1.Policy != (2:Int))) then some (1:Int) else
  (bif (decide ((((r_1.Data).length:Nat):Int)<(16:Int))||(decide ((((r_1.Data).length:Nat):Int)>(65536:Int))||(decide (r_1.Start<(0:Int))||(decide (r_1.Start>r_1.End)||(decide (r_1.End>(1000000000000000:Int))||(decide ((zJ (r_1.End - r_1.Start))>(((r_1.Data).length:Nat):Int))||(decide (r_1.First<(0:Int))||(decide (r_1.First>r_1.Next)||decide (r_1.Next>(1000000000000000:Int)))))))))) then some (2:Int) else
  (nK F r_1).bind fun r_2=>(zAj F r_2).bind fun r_3 =>
  (bif (!r_3.2||((((r_3.1).length:Nat):Int) != (zJ (r_1.Next - r_1.First)))) then some (10:Int) else
  some (0:Int))))
def zBu (F:Nat) (r_1:zO):Option ((List (List (Int)))×zO) :=
  (zAH F r_1).bind fun r_2 =>
  (bif (r_2 != (0:Int)) then some ([],r_1) else
  (nK F r_1).bind fun r_3=>(zAj F r_3).bind fun r_4 =>
  some (r_4.1,(⟨r_1.Policy,r_1.Data,r_1.End,r_1.End,r_1.Next,r_1.Next⟩:zO)))
def jF (F:Nat) (r_3:(List (List (Int)))×zO) (r_4:(List (List (Int)))×zO) (rec:Int→Option (Unit⊕Bool)) (i_1:Int):Option (Unit⊕Bool) :=
  (bif decide (i_1<(((r_3.1).length:Nat):Int)) then (y7 r_3.1 i_1).bind fun x_1=>(y7 r_4.1 i_1).bind fun x_2 =>
  (bif !(x_1==x_2) then some (.inr false) else
  rec (zJ (i_1+(1:Int)))) else
  some (.inl ()))
def zCp (F:Nat) (r_3:(List (List (Int)))×zO) (r_4:(List (List (Int)))×zO):Nat→Int→Option (Unit⊕Bool)
  | 0,_=>none
  | n+1,i_1=>jF F r_3 r_4 (zCp F r_3 r_4 n) i_1
def zCy (F:Nat) (a_1:zG) (b_1:zG):Option Bool :=
  ((bif (!(decide (a_1.Thread=b_1.Thread))) then (some true) else ((zA1 F a_1.Names b_1.Names).bind fun r_1=>bif !r_1 then (some true) else ((zAC F a_1.Stacks b_1.Stacks).bind fun r_2=>bif !r_2 then (some true) else (bif (a_1.Last != b_1.Last) then (some true) else (some (a_1.Sent != b_1.Sent))))))).bind fun (p_1:Bool) =>
  (bif p_1 then some false else
  (bif ((a_1.Ring.Policy != b_1.Ring.Policy)||(((((a_1.Ring.Data).length:Nat):Int) != (((b_1.Ring.Data).length:Nat):Int))||((a_1.Ring.Start != b_1.Ring.Start)||((a_1.Ring.End != b_1.Ring.End)||((a_1.Ring.First != b_1.Ring.First)||(a_1.Ring.Next != b_1.Ring.Next)))))) then some false else
  (zBu F a_1.Ring).bind fun r_3 =>
  (zBu F b_1.Ring).bind fun r_4 =>
  (bif ((((r_3.1).length:Nat):Int) != (((r_4.1).length:Nat):Int)) then some false else
  (zCp F r_3 r_4 F (0:Int)).bind fun (o_1:Unit⊕Bool) =>
  (match o_1 with
  | (.inl q_1) =>
  some true
  | (.inr q_2) =>
  some q_2))))
structure xP where
  Drain:Bool
  E:zL
  deriving DecidableEq,Inhabited
def zFB (s:xP):List AV:=[.bool s.Drain,.int .i64 s.E.At,.int .i64 s.E.Kind,.str s.E.Name,.int .i64 s.E.N,.int .i64 s.E.M,.sl false 1 (List.map AV.str s.E.Stack)]
def zX (s:xP):AV:=.agg (zFB s)
def qT (F:Nat) (e_1:zL) (rec:Int→Option (Unit⊕Bool)) (i_1:Int):Option (Unit⊕Bool) :=
  (bif decide (i_1<(((e_1.Stack).length:Nat):Int)) then (y7 e_1.Stack i_1).bind fun x_1 =>
  (bif decide ((((x_1).length:Nat):Int)>(200:Int)) then some (.inr false) else
  rec (zJ (i_1+(1:Int)))) else
  some (.inl ()))
def nR (F:Nat) (e_1:zL):Nat→Int→Option (Unit⊕Bool)
  | 0,_=>none
  | n+1,i_1=>qT F e_1 (nR F e_1 n) i_1
def zDV (F:Nat) (e_1:zL):Option Bool :=
  (bif (decide ((((e_1.Name).length:Nat):Int)>(200:Int))||decide ((((e_1.Stack).length:Nat):Int)>(60:Int))) then some false else
  (nR F e_1 F (0:Int)).bind fun (o_1:Unit⊕Bool) =>
  (match o_1 with
  | (.inl q_1) =>
  some true
  | (.inr q_2) =>
  some q_2))
def n9 (F:Nat) (y1:List (xP)) (rec:Int→Option (Unit⊕Bool)) (i_1:Int):Option (Unit⊕Bool) :=
  (bif decide (i_1<(((y1).length:Nat):Int)) then (y7 y1 i_1).bind fun x_1=>(zDV F x_1.E).bind fun r_1 =>
  (bif !r_1 then some (.inr false) else
  rec (zJ (i_1+(1:Int)))) else
  some (.inl ()))
def zBQ (F:Nat) (y1:List (xP)):Nat→Int→Option (Unit⊕Bool)
  | 0,_=>none
  | n+1,i_1=>n9 F y1 (zBQ F y1 n) i_1
def zEy (F:Nat) (y1:List (xP)):Option Bool :=
  (bif decide ((((y1).length:Nat):Int)>(40:Int)) then some false else
  (zBQ F y1 F (0:Int)).bind fun (o_1:Unit⊕Bool) =>
  (match o_1 with
  | (.inl q_1) =>
  some true
  | (.inr q_2) =>
  some q_2))
def jJ (F:Nat) (l_1:List (List Int)) (s_1:List Int) (rec:Int→Option (Unit⊕Int)) (i_1:Int):Option (Unit⊕Int) :=
  (bif decide (i_1<(((l_1).length:Nat):Int)) then (y7 l_1 i_1).bind fun x_1 =>
  (bif (x_1==s_1) then some (.inr i_1) else
  rec (zJ (i_1+(1:Int)))) else
  some (.inl ()))
def zCm (F:Nat) (l_1:List (List Int)) (s_1:List Int):Nat→Int→Option (Unit⊕Int)
  | 0,_=>none
  | n+1,i_1=>jJ F l_1 s_1 (zCm F l_1 s_1 n) i_1
def zDg (F:Nat) (l_1:List (List Int)) (s_1:List Int):Option Int :=
  (zCm F l_1 s_1 F (0:Int)).bind fun (o_1:Unit⊕Int) =>
  (match o_1 with
  | (.inl q_1) =>
  some (-1:Int)
  | (.inr q_2) =>
  some q_2)
def uZ (F:Nat) (l_1:List (zN)) (p_1:zN) (rec:Int→Option (Unit⊕Int)) (i_1:Int):Option (Unit⊕Int) :=
  (bif decide (i_1<(((l_1).length:Nat):Int)) then (y7 l_1 i_1).bind fun x_1 =>
  (bif (decide (x_1=p_1)) then some (.inr i_1) else
  rec (zJ (i_1+(1:Int)))) else
  some (.inl ()))
def nJ (F:Nat) (l_1:List (zN)) (p_1:zN):Nat→Int→Option (Unit⊕Int)
  | 0,_=>none
  | n+1,i_1=>uZ F l_1 p_1 (nJ F l_1 p_1 n) i_1
def nY (F:Nat) (l_1:List (zN)) (p_1:zN):Option Int :=
  (nJ F l_1 p_1 F (0:Int)).bind fun (o_1:Unit⊕Int) =>
  (match o_1 with
  | (.inl q_1) =>
  some (-1:Int)
  | (.inr q_2) =>
  some q_2)
def qQ (F:Nat) (zD:List (zN)) (rec:Int→Int→Option Int) (i_2:Int) (n_1:Int):Option Int :=
  (bif decide (i_2≥(0:Int)) then (y7 zD i_2).bind fun x_1 =>
  rec x_1.c0 (zJ (n_1+(1:Int))) else
  some n_1)
def zAE (F:Nat) (zD:List (zN)):Nat→Int→Int→Option Int
  | 0,_,_=>none
  | n+1,i_2,n_1=>qQ F zD (zAE F zD n) i_2 n_1
def zFf (F:Nat) (zD:List (zN)) (i_1:Int):Option Int :=
  (zAE F zD F i_1 (0:Int)).bind fun (o_1:Int) =>
  some o_1
def qP (F:Nat) (zE:List (List Int)) (rec:Int→Option (Unit⊕Int)) (i_1:Int):Option (Unit⊕Int) :=
  (bif decide (i_1<(((zE).length:Nat):Int)) then (y7 zE i_1).bind fun x_1=>(zAU F x_1).bind fun r_1 =>
  (bif (r_1 != (0:Int)) then some (.inr (3:Int)) else
  (need ((0:Int)≤i_1∧i_1≤(((zE).length:Nat):Int))).bind fun _=>(y7 zE i_1).bind fun x_2=>(zDg F (sub zE (0:Int) i_1) x_2).bind fun r_2 =>
  (bif decide (r_2≥(0:Int)) then some (.inr (4:Int)) else
  rec (zJ (i_1+(1:Int))))) else
  some (.inl ()))
def zAB (F:Nat) (zE:List (List Int)):Nat→Int→Option (Unit⊕Int)
  | 0,_=>none
  | n+1,i_1=>qP F zE (zAB F zE n) i_1
def p8 (F:Nat) (zE:List (List Int)) (zD:List (zN)) (rec:Int→Option (Unit⊕Int)) (i_2:Int):Option (Unit⊕Int) :=
  (bif decide (i_2<(((zD).length:Nat):Int)) then (y7 zD i_2).bind fun x_3 =>
  (bif (decide (x_3.c0<(-1:Int))||(decide (x_3.c0≥i_2)||(decide (x_3.c1<(0:Int))||decide (x_3.c1≥(((zE).length:Nat):Int))))) then some (.inr (2:Int)) else
  (need ((0:Int)≤i_2∧i_2≤(((zD).length:Nat):Int))).bind fun _=>(nY F (sub zD (0:Int) i_2) x_3).bind fun r_3 =>
  (bif decide (r_3≥(0:Int)) then some (.inr (4:Int)) else
  (zFf F zD i_2).bind fun r_4 =>
  (bif decide (r_4>(32:Int)) then some (.inr (7:Int)) else
  rec (zJ (i_2+(1:Int)))))) else
  some (.inl ()))
def zAA (F:Nat) (zE:List (List Int)) (zD:List (zN)):Nat→Int→Option (Unit⊕Int)
  | 0,_=>none
  | n+1,i_2=>p8 F zE zD (zAA F zE zD n) i_2
def pI (F:Nat) (zE:List (List Int)) (zD:List (zN)):Option Int :=
  (bif (decide ((((zE).length:Nat):Int)>(1000:Int))||decide ((((zD).length:Nat):Int)>(1000:Int))) then some (7:Int) else
  (zAB F zE F (0:Int)).bind fun (o_1:Unit⊕Int) =>
  (match o_1 with
  | (.inl q_1) =>
  (zAA F zE zD F (0:Int)).bind fun (o_2:Unit⊕Int) =>
  (match o_2 with
  | (.inl q_3) =>
  some (0:Int)
  | (.inr q_4) =>
  some q_4)
  | (.inr q_2) =>
  some q_2))
def jH (F:Nat) (b_1:List (Int)) (uE:Int) (rec:Int→Int→(List Int)→Option ((Int×(List Int))⊕((List (Int))×Int×Int))) (yE:Int) (i_1:Int) (zK:List Int):Option ((Int×(List Int))⊕((List (Int))×Int×Int)) :=
  (bif decide (i_1<uE) then (need ((0:Int)≤yE∧yE≤(((b_1).length:Nat):Int))).bind fun _=>(zEB F (sub b_1 yE (((b_1).length:Nat):Int))).bind fun r_1 =>
  (bif (r_1.2.2 != (0:Int)) then some (.inr ([],(0:Int),r_1.2.2)) else
  (need (((zK).length+(([r_1.1]:List Int)).length) * 8≤140737488355328)).bind fun _ =>
  rec (zJ (yE+r_1.2.1)) (zJ (i_1+(1:Int))) (zK++([r_1.1]:List Int))) else
  some (.inl (yE,zK)))
def zBh (F:Nat) (b_1:List (Int)) (uE:Int):Nat→Int→Int→(List Int)→Option ((Int×(List Int))⊕((List (Int))×Int×Int))
  | 0,_,_,_=>none
  | n+1,yE,i_1,zK=>jH F b_1 uE (zBh F b_1 uE n) yE i_1 zK
def zCA (F:Nat) (b_1:List (Int)) (uE:Int):Option ((List (Int))×Int×Int) :=
  (zBh F b_1 uE F (0:Int) (0:Int) []).bind fun (o_1:(Int×(List Int))⊕((List (Int))×Int×Int)) =>
  (match o_1 with
  | (.inl q_1) =>
  some (q_1.2,q_1.1,(0:Int))
  | (.inr q_2) =>
  some q_2)
def zDt (k_1:Int):Option (Bool×Bool×Bool×Bool) :=
  (((bif (k_1==(1:Int)) then some (k_1==(1:Int)) else
  some (k_1==(3:Int))):Option Bool)).bind fun (o_1:Bool) =>
  (bif o_1 then some (true,false,false,false) else
  (bif (k_1==(4:Int)) then some (true,true,false,false) else
  (bif (k_1==(5:Int)) then some (false,true,false,true) else
  (((bif (k_1==(6:Int)) then some (k_1==(6:Int)) else
  (bif (k_1==(7:Int)) then some (k_1==(7:Int)) else
  (bif (k_1==(8:Int)) then some (k_1==(8:Int)) else
  (bif (k_1==(10:Int)) then some (k_1==(10:Int)) else
  some (k_1==(12:Int)))))):Option Bool)).bind fun (o_2:Bool) =>
  (bif o_2 then some (false,true,false,false) else
  (bif (k_1==(9:Int)) then some (false,true,true,false) else
  (bif (k_1==(11:Int)) then some (false,true,true,true) else
  some (false,false,false,false)))))))
def zDz (b_1:Bool):Option Int :=
  (bif b_1 then some (1:Int) else
  some (0:Int))
def qM (F:Nat) (zE:List (List Int)) (zD:List (zN)) (rec:Int→(List (List Int))→Option (List (List Int))) (i_2:Int) (l_1:List (List Int)):Option (List (List Int)) :=
  (bif decide (i_2≥(0:Int)) then (y7 zD i_2).bind fun x_1=>(y7 zE x_1.c1).bind fun x_2=>(need (((([x_2]:List (List Int))).length+(l_1).length) * 16≤140737488355328)).bind fun _ =>
  (y7 zD i_2).bind fun x_3 =>
  rec x_3.c0 (([x_2]:List (List Int))++l_1) else
  some l_1)
def zBz (F:Nat) (zE:List (List Int)) (zD:List (zN)):Nat→Int→(List (List Int))→Option (List (List Int))
  | 0,_,_=>none
  | n+1,i_2,l_1=>qM F zE zD (zBz F zE zD n) i_2 l_1
def zDR (F:Nat) (zE:List (List Int)) (zD:List (zN)) (i_1:Int):Option ((List (List Int))×Int) :=
  (pI F zE zD).bind fun r_1 =>
  (bif (r_1 != (0:Int)) then some ([],(1:Int)) else
  (bif (decide (i_1<(-1:Int))||decide (i_1≥(((zD).length:Nat):Int))) then some ([],(2:Int)) else
  (zBz F zE zD F i_1 []).bind fun (o_1:(List (List Int))) =>
  some (o_1,(0:Int))))
def zF2 (k_1:Int):Option (Bool×Bool×Bool×Bool) :=
  some (((k_1==(1:Int))||((k_1==(3:Int))||(k_1==(4:Int)))),decide (k_1≥(4:Int)),((k_1==(9:Int))||(k_1==(11:Int))),((k_1==(5:Int))||(k_1==(11:Int))))
def pH (F:Nat) (l_1:List (List Int)) (rec:Int→Option (Unit⊕Int)) (i_1:Int):Option (Unit⊕Int) :=
  (bif decide (i_1<(((l_1).length:Nat):Int)) then (y7 l_1 i_1).bind fun x_1=>(zAU F x_1).bind fun r_1 =>
  (bif (r_1 != (0:Int)) then some (.inr (3:Int)) else
  rec (zJ (i_1+(1:Int)))) else
  some (.inl ()))
def zA8 (F:Nat) (l_1:List (List Int)):Nat→Int→Option (Unit⊕Int)
  | 0,_=>none
  | n+1,i_1=>pH F l_1 (zA8 F l_1 n) i_1
def zBO (F:Nat) (l_1:List (List Int)):Option Int :=
  (bif decide ((((l_1).length:Nat):Int)>(32:Int)) then some (7:Int) else
  (zA8 F l_1 F (0:Int)).bind fun (o_1:Unit⊕Int) =>
  (match o_1 with
  | (.inl q_1) =>
  some (0:Int)
  | (.inr q_2) =>
  some q_2))
def j2 (n_1:Int) (zCv:Int) (zAG:Int):Option Int :=
  (bif (decide (n_1<zCv)||decide (n_1>zAG)) then some (2:Int) else
  some (0:Int))
def zCj (e_1:zL):Option Int :=
  (((((bif (e_1.Kind==(1:Int)) then some (e_1.Kind==(1:Int)) else
  (bif (e_1.Kind==(2:Int)) then some (e_1.Kind==(2:Int)) else
  some (e_1.Kind==(3:Int)))):Option Bool)).bind fun (o_2:Bool) =>
  (bif o_2 then some (.inr (0:Int)) else
  (bif (e_1.Kind==(4:Int)) then (j2 e_1.N (-1000000000000000:Int) (1000000000000000:Int)).bind fun r_1 =>
  some (.inr r_1) else
  (bif (e_1.Kind==(5:Int)) then (j2 e_1.N (1:Int) (1000000000000:Int)).bind fun r_2 =>
  some (.inr r_2) else
  (bif (e_1.Kind==(8:Int)) then (j2 e_1.N (0:Int) (63:Int)).bind fun r_3 =>
  some (.inr r_3) else
  (bif (e_1.Kind==(9:Int)) then (j2 e_1.N (0:Int) (3:Int)).bind fun r_4 =>
  (bif ((r_4==(0:Int))&&(e_1.N==(2:Int))) then (j2 e_1.M (0:Int) (1000000000000000:Int)).bind fun r_5 =>
  some (.inr r_5) else
  (bif ((r_4==(0:Int))&&(e_1.M != (0:Int))) then some (.inr (1:Int)) else
  some (.inr r_4))) else
  some (.inl ())))))):Option (Unit⊕Int))).bind fun (o_1:Unit⊕Int) =>
  (match o_1 with
  | (.inl q_1) =>
  (j2 e_1.N (0:Int) (1000000000000000:Int)).bind fun r_6 =>
  (bif ((r_6==(0:Int))&&(e_1.Kind==(11:Int))) then (j2 e_1.M (1:Int) (1000000000000:Int)).bind fun r_7 =>
  some r_7 else
  some r_6)
  | (.inr q_2) =>
  some q_2)
def zAK (F:Nat) (e_1:zL):Option Int :=
  (bif (decide (e_1.At<(0:Int))||decide (e_1.At>(1000000000000:Int))) then some (2:Int) else
  (bif (decide (e_1.Kind<(1:Int))||decide (e_1.Kind>(12:Int))) then some (1:Int) else
  (zF2 e_1.Kind).bind fun r_1 =>
  ((bif !r_1.1 then (bif !(e_1.Name==([]:List Int)) then (some true) else (bif !r_1.2.1 then (bif (e_1.N != (0:Int)) then (some true) else (bif !r_1.2.2.1 then (bif (e_1.M != (0:Int)) then (some true) else (bif !r_1.2.2.2 then (some (decide ((((e_1.Stack).length:Nat):Int)>(0:Int)))) else (some false))) else (bif !r_1.2.2.2 then (some (decide ((((e_1.Stack).length:Nat):Int)>(0:Int)))) else (some false)))) else (bif !r_1.2.2.1 then (bif (e_1.M != (0:Int)) then (some true) else (bif !r_1.2.2.2 then (some (decide ((((e_1.Stack).length:Nat):Int)>(0:Int)))) else (some false))) else (bif !r_1.2.2.2 then (some (decide ((((e_1.Stack).length:Nat):Int)>(0:Int)))) else (some false))))) else (bif !r_1.2.1 then (bif (e_1.N != (0:Int)) then (some true) else (bif !r_1.2.2.1 then (bif (e_1.M != (0:Int)) then (some true) else (bif !r_1.2.2.2 then (some (decide ((((e_1.Stack).length:Nat):Int)>(0:Int)))) else (some false))) else (bif !r_1.2.2.2 then (some (decide ((((e_1.Stack).length:Nat):Int)>(0:Int)))) else (some false)))) else (bif !r_1.2.2.1 then (bif (e_1.M != (0:Int)) then (some true) else (bif !r_1.2.2.2 then (some (decide ((((e_1.Stack).length:Nat):Int)>(0:Int)))) else (some false))) else (bif !r_1.2.2.2 then (some (decide ((((e_1.Stack).length:Nat):Int)>(0:Int)))) else (some false)))))).bind fun (p_1:Bool) =>
  (bif p_1 then some (1:Int) else
  (((bif r_1.1 then (zAU F e_1.Name).bind fun r_2 =>
  some r_2 else
  some (0:Int)):Option Int)).bind fun (o_1:Int) =>
  (((bif r_1.2.2.2 then (zBO F e_1.Stack).bind fun r_3 =>
  some r_3 else
  some o_1):Option Int)).bind fun (o_2:Int) =>
  (bif (o_2 != (0:Int)) then some o_2 else
  (zCj e_1).bind fun r_4 =>
  some r_4))))
def zCS (F:Nat) (zE:List (List Int)) (zD:List (zN)) (b_1:List (Int)):Option (zL×Int×Int) :=
  (pI F zE zD).bind fun r_1 =>
  (bif (r_1 != (0:Int)) then some ((⟨(0:Int),(0:Int),([]:List Int),(0:Int),(0:Int),[]⟩:zL),(0:Int),(1:Int)) else
  (zCA F b_1 (2:Int)).bind fun r_2 =>
  (bif (r_2.2.2 != (0:Int)) then some ((⟨(0:Int),(0:Int),([]:List Int),(0:Int),(0:Int),[]⟩:zL),(0:Int),r_2.2.2) else
  (((y7 r_2.1 (0:Int)).bind fun x_1=>bif decide (x_1<(1:Int)) then (some true) else ((y7 r_2.1 (0:Int)).bind fun x_2=>some (decide (x_2>(12:Int)))))).bind fun (p_1:Bool) =>
  (bif p_1 then some ((⟨(0:Int),(0:Int),([]:List Int),(0:Int),(0:Int),[]⟩:zL),(0:Int),(10:Int)) else
  (y7 r_2.1 (0:Int)).bind fun x_3=>(zDt x_3).bind fun r_3 =>
  (zDz r_3.1).bind fun r_4=>(zDz r_3.2.1).bind fun r_5=>(zDz r_3.2.2.1).bind fun r_6=>(zDz r_3.2.2.2).bind fun r_7=>(zCA F b_1 (zJ ((zJ ((zJ ((zJ ((2:Int)+r_4))+r_5))+r_6))+r_7))).bind fun r_8 =>
  (bif (r_8.2.2 != (0:Int)) then some ((⟨(0:Int),(0:Int),([]:List Int),(0:Int),(0:Int),[]⟩:zL),(0:Int),r_8.2.2) else
  (y7 r_8.1 (0:Int)).bind fun x_4=>(y7 r_8.1 (1:Int)).bind fun x_5 =>
  (((bif r_3.1 then (((y7 r_8.1 (2:Int)).bind fun x_6=>bif decide (x_6<(0:Int)) then (some true) else ((y7 r_8.1 (2:Int)).bind fun x_7=>some (decide (x_7≥(((zE).length:Nat):Int)))))).bind fun (p_2:Bool) =>
  (bif p_2 then some (.inr ((⟨(0:Int),(0:Int),([]:List Int),(0:Int),(0:Int),[]⟩:zL),(0:Int),(2:Int))) else
  (y7 r_8.1 (2:Int)).bind fun x_8=>(y7 zE x_8).bind fun x_9 =>
  some (.inl (zJ ((2:Int)+(1:Int)),x_9))) else
  some (.inl ((2:Int),([]:List Int)))):Option ((Int×(List Int))⊕(zL×Int×Int)))).bind fun (o_1:(Int×(List Int))⊕(zL×Int×Int)) =>
  (match o_1 with
  | (.inl q_1) =>
  (((bif r_3.2.1 then (y7 r_8.1 q_1.1).bind fun x_10 =>
  some (zJ (q_1.1+(1:Int)),x_10) else
  some (q_1.1,(0:Int))):Option (Int×Int))).bind fun (o_2:(Int×Int)) =>
  (((bif r_3.2.2.1 then (y7 r_8.1 o_2.1).bind fun x_11 =>
  some (zJ (o_2.1+(1:Int)),x_11) else
  some (o_2.1,(0:Int))):Option (Int×Int))).bind fun (o_3:(Int×Int)) =>
  (((bif r_3.2.2.2 then (y7 r_8.1 o_3.1).bind fun zHb=>(zDR F zE zD zHb).bind fun r_9 =>
  (bif (r_9.2 != (0:Int)) then some (.inr ((⟨(0:Int),(0:Int),([]:List Int),(0:Int),(0:Int),[]⟩:zL),(0:Int),(2:Int))) else
  some (.inl r_9.1)) else
  some (.inl [])):Option ((List (List Int))⊕(zL×Int×Int)))).bind fun (o_4:(List (List Int))⊕(zL×Int×Int)) =>
  (match o_4 with
  | (.inl q_3) =>
  (zAK F (⟨x_5,x_4,q_1.2,o_2.2,o_3.2,q_3⟩:zL)).bind fun y4 =>
  (bif (y4 != (0:Int)) then some ((⟨(0:Int),(0:Int),([]:List Int),(0:Int),(0:Int),[]⟩:zL),(0:Int),(10:Int)) else
  some ((⟨x_5,x_4,q_1.2,o_2.2,o_3.2,q_3⟩:zL),r_8.2.1,(0:Int)))
  | (.inr q_4) =>
  some q_4)
  | (.inr q_2) =>
  some q_2)))))
def pB (F:Nat) (p_1:zG) (r_1:(List (List (Int)))×zO) (rec:Int→(List zL)→Option ((List zL)⊕((List (zL))×Bool))) (i_1:Int) (zK:List zL):Option ((List zL)⊕((List (zL))×Bool)) :=
  (bif decide (i_1<(((r_1.1).length:Nat):Int)) then (y7 r_1.1 i_1).bind fun x_1=>(zCS F p_1.Names p_1.Stacks x_1).bind fun r_2 =>
  ((bif (r_2.2.2 != (0:Int)) then (some true) else ((y7 r_1.1 i_1).bind fun x_2=>some (r_2.2.1 != (((x_2).length:Nat):Int))))).bind fun (p_2:Bool) =>
  (bif p_2 then some (.inr ([],false)) else
  (need (((zK).length+(([r_2.1]:List zL)).length) * 72≤140737488355328)).bind fun _ =>
  rec (zJ (i_1+(1:Int))) (zK++([r_2.1]:List zL))) else
  some (.inl zK))
def zA4 (F:Nat) (p_1:zG) (r_1:(List (List (Int)))×zO):Nat→Int→(List zL)→Option ((List zL)⊕((List (zL))×Bool))
  | 0,_,_=>none
  | n+1,i_1,zK=>pB F p_1 r_1 (zA4 F p_1 r_1 n) i_1 zK
def zBN (F:Nat) (p_1:zG):Option ((List (zL))×Bool) :=
  (zBu F p_1.Ring).bind fun r_1 =>
  (zA4 F p_1 r_1 F (0:Int) []).bind fun (o_1:(List zL)⊕((List (zL))×Bool)) =>
  (match o_1 with
  | (.inl q_1) =>
  some (q_1,true)
  | (.inr q_2) =>
  some q_2)
def p7 (F:Nat) (p_1:zG) (r_4:(List (zL))×Bool) (rec:Int→Option (Unit⊕Int)) (i_1:Int):Option (Unit⊕Int) :=
  (bif decide (i_1<(((r_4.1).length:Nat):Int)) then (((y7 r_4.1 i_1).bind fun x_1=>bif decide (x_1.At>p_1.Last) then (some true) else (bif decide (i_1>(0:Int)) then ((y7 r_4.1 i_1).bind fun x_2=>(y7 r_4.1 (zJ (i_1 - (1:Int)))).bind fun x_3=>some (decide (x_2.At<x_3.At))) else (some false)))).bind fun (p_2:Bool) =>
  (bif p_2 then some (.inr (10:Int)) else
  rec (zJ (i_1+(1:Int)))) else
  some (.inl ()))
def zAy (F:Nat) (p_1:zG) (r_4:(List (zL))×Bool):Nat→Int→Option (Unit⊕Int)
  | 0,_=>none
  | n+1,i_1=>p7 F p_1 r_4 (zAy F p_1 r_4 n) i_1
def zBt (F:Nat) (p_1:zG):Option Int :=
  (zBI F p_1.Thread).bind fun r_1 =>
  (((bif (r_1==(0:Int)) then (pI F p_1.Names p_1.Stacks).bind fun r_2 =>
  some r_2 else
  some r_1):Option Int)).bind fun (o_1:Int) =>
  (((bif (o_1==(0:Int)) then (zAH F p_1.Ring).bind fun r_3 =>
  some r_3 else
  some o_1):Option Int)).bind fun (o_2:Int) =>
  (bif (o_2 != (0:Int)) then some o_2 else
  (bif (decide (p_1.Sent<(0:Int))||(decide (p_1.Sent>p_1.Ring.First)||(decide (p_1.Last<(0:Int))||decide (p_1.Last>(1000000000000:Int))))) then some (2:Int) else
  (zBN F p_1).bind fun r_4 =>
  (bif !r_4.2 then some (10:Int) else
  (zAy F p_1 r_4 F (0:Int)).bind fun (o_3:Unit⊕Int) =>
  (match o_3 with
  | (.inl q_1) =>
  some (0:Int)
  | (.inr q_2) =>
  some q_2))))
def qK (F:Nat) (p_1:zG) (r_2:(List (zL))×Bool) (rec:Int→(List z9)→Option (List z9)) (i_1:Int) (zK:List z9):Option (List z9) :=
  (bif decide (i_1<(((r_2.1).length:Nat):Int)) then (((((bif (i_1==(0:Int)) then some (zJ (p_1.Ring.First - p_1.Sent)) else
  some (0:Int)):Option Int)).bind fun (o_3:Int) =>
  (need ((0:Int)≤i_1∧i_1≤(vE (((r_2.1).length:Nat):Int) (zJ (i_1+(1000:Int))))∧(vE (((r_2.1).length:Nat):Int) (zJ (i_1+(1000:Int))))≤(((r_2.1).length:Nat):Int))).bind fun _=>(need (((zK).length+(([(⟨p_1.Thread.Id,zJ (p_1.Ring.First+i_1),o_3,sub r_2.1 i_1 (vE (((r_2.1).length:Nat):Int) (zJ (i_1+(1000:Int))))⟩:z9)]:List z9)).length) * 48≤140737488355328)).bind fun _ =>
  some (zK++([(⟨p_1.Thread.Id,zJ (p_1.Ring.First+i_1),o_3,sub r_2.1 i_1 (vE (((r_2.1).length:Nat):Int) (zJ (i_1+(1000:Int))))⟩:z9)]:List z9)):Option (List z9))).bind fun (o_2:(List z9)) =>
  rec (zJ (i_1+(1000:Int))) o_2 else
  some zK)
def zAz (F:Nat) (p_1:zG) (r_2:(List (zL))×Bool):Nat→Int→(List z9)→Option (List z9)
  | 0,_,_=>none
  | n+1,i_1,zK=>qK F p_1 r_2 (zAz F p_1 r_2 n) i_1 zK
def zDZ (F:Nat) (p_1:zG):Option ((List (z9))×zG) :=
  (zBt F p_1).bind fun r_1 =>
  (bif (r_1 != (0:Int)) then some ([],p_1) else
  (zBN F p_1).bind fun r_2 =>
  (zAz F p_1 r_2 F (0:Int) []).bind fun (o_1:(List z9)) =>
  (zBu F p_1.Ring).bind fun r_3 =>
  some (o_1,(⟨p_1.Thread,p_1.Names,p_1.Stacks,r_3.2,p_1.Last,r_3.2.Next⟩:zG)))
def qL (F:Nat) (a_1:List (List Int)) (b_1:List (List Int)) (rec:Int→Option (Unit⊕Bool)) (i_1:Int):Option (Unit⊕Bool) :=
  (bif decide (i_1<(((a_1).length:Nat):Int)) then (y7 a_1 i_1).bind fun x_1=>(y7 b_1 i_1).bind fun x_2 =>
  (bif !(x_1==x_2) then some (.inr false) else
  rec (zJ (i_1+(1:Int)))) else
  some (.inl ()))
def zBy (F:Nat) (a_1:List (List Int)) (b_1:List (List Int)):Nat→Int→Option (Unit⊕Bool)
  | 0,_=>none
  | n+1,i_1=>qL F a_1 b_1 (zBy F a_1 b_1 n) i_1
def zD0 (F:Nat) (a_1:List (List Int)) (b_1:List (List Int)):Option Bool :=
  (bif ((((a_1).length:Nat):Int) != (((b_1).length:Nat):Int)) then some false else
  (zBy F a_1 b_1 F (0:Int)).bind fun (o_1:Unit⊕Bool) =>
  (match o_1 with
  | (.inl q_1) =>
  some true
  | (.inr q_2) =>
  some q_2))
def zEF (F:Nat) (a_1:zL) (b_1:zL):Option Bool :=
  ((bif (a_1.At==b_1.At) then (bif (a_1.Kind==b_1.Kind) then (bif (a_1.Name==b_1.Name) then (bif (a_1.N==b_1.N) then (bif (a_1.M==b_1.M) then ((zD0 F a_1.Stack b_1.Stack).bind fun r_1=>some r_1) else (some false)) else (some false)) else (some false)) else (some false)) else (some false))).bind fun (p_1:Bool) =>
  some p_1
def tP (F:Nat) (a_1:List (zL)) (b_1:List (zL)) (rec:Int→Option (Unit⊕Bool)) (i_1:Int):Option (Unit⊕Bool) :=
  (bif decide (i_1<(((a_1).length:Nat):Int)) then (y7 a_1 i_1).bind fun x_1=>(y7 b_1 i_1).bind fun x_2=>(zEF F x_1 x_2).bind fun r_1 =>
  (bif !r_1 then some (.inr false) else
  rec (zJ (i_1+(1:Int)))) else
  some (.inl ()))
def zAq (F:Nat) (a_1:List (zL)) (b_1:List (zL)):Nat→Int→Option (Unit⊕Bool)
  | 0,_=>none
  | n+1,i_1=>tP F a_1 b_1 (zAq F a_1 b_1 n) i_1
def zCi (F:Nat) (a_1:List (zL)) (b_1:List (zL)):Option Bool :=
  (bif ((((a_1).length:Nat):Int) != (((b_1).length:Nat):Int)) then some false else
  (zAq F a_1 b_1 F (0:Int)).bind fun (o_1:Unit⊕Bool) =>
  (match o_1 with
  | (.inl q_1) =>
  some true
  | (.inr q_2) =>
  some q_2))
def uH (F:Nat) (a_1:List (z9)) (b_1:List (z9)) (rec:Int→Option (Unit⊕Bool)) (i_1:Int):Option (Unit⊕Bool) :=
  (bif decide (i_1<(((a_1).length:Nat):Int)) then (((y7 a_1 i_1).bind fun x_1=>(y7 b_1 i_1).bind fun x_2=>bif (x_1.Thread != x_2.Thread) then (some true) else ((y7 a_1 i_1).bind fun x_3=>(y7 b_1 i_1).bind fun x_4=>bif (x_3.Serial != x_4.Serial) then (some true) else ((y7 a_1 i_1).bind fun x_5=>(y7 b_1 i_1).bind fun x_6=>bif (x_5.Lost != x_6.Lost) then (some true) else ((y7 a_1 i_1).bind fun x_7=>(y7 b_1 i_1).bind fun x_8=>(zCi F x_7.Events x_8.Events).bind fun r_1=>some (!r_1)))))).bind fun (p_1:Bool) =>
  (bif p_1 then some (.inr false) else
  rec (zJ (i_1+(1:Int)))) else
  some (.inl ()))
def pD (F:Nat) (a_1:List (z9)) (b_1:List (z9)):Nat→Int→Option (Unit⊕Bool)
  | 0,_=>none
  | n+1,i_1=>uH F a_1 b_1 (pD F a_1 b_1 n) i_1
def zAa (F:Nat) (a_1:List (z9)) (b_1:List (z9)):Option Bool :=
  (bif ((((a_1).length:Nat):Int) != (((b_1).length:Nat):Int)) then some false else
  (pD F a_1 b_1 F (0:Int)).bind fun (o_1:Unit⊕Bool) =>
  (match o_1 with
  | (.inl q_1) =>
  some true
  | (.inr q_2) =>
  some q_2))
def zE5 (F:Nat) (p_1:zG):Option Int :=
  (zBt F p_1).bind fun r_1 =>
  (bif (r_1 != (0:Int)) then some (0:Int) else
  some (zJ (p_1.Ring.First - p_1.Sent)))
def zEr (F:Nat) (zE:List (List Int)) (s_1:List Int):Option (Int×(List (List Int))×Int) :=
  (zAU F s_1).bind fun r_1 =>
  (bif (r_1 != (0:Int)) then some ((0:Int),zE,(3:Int)) else
  (zDg F zE s_1).bind fun r_2 =>
  (bif decide (r_2≥(0:Int)) then some (r_2,zE,(0:Int)) else
  (bif decide ((((zE).length:Nat):Int)≥(1000:Int)) then some ((0:Int),zE,(6:Int)) else
  (need (((([]:List (List Int))).length+(zE).length) * 16≤140737488355328)).bind fun _=>(need (((([]++zE)).length+(([s_1]:List (List Int))).length) * 16≤140737488355328)).bind fun _ =>
  some ((((zE).length:Nat):Int),(([]++zE)++([s_1]:List (List Int))),(0:Int)))))
def jY (F:Nat) (zE:List (List Int)) (zD:List (zN)) (l_1:List (List Int)) (rec:Int→(List (List Int))→Int→(List zN)→Option ((Int×(List (List Int))×(List zN))⊕(Int×(List (List Int))×(List (zN))×Int))) (yE:Int) (n_1:List (List Int)) (k_1:Int) (zK:List zN):Option ((Int×(List (List Int))×(List zN))⊕(Int×(List (List Int))×(List (zN))×Int)) :=
  (bif decide (k_1<(((l_1).length:Nat):Int)) then (((y7 l_1 k_1).bind fun x_1=>(zEr F n_1 x_1).bind fun r_2 =>
  (bif (r_2.2.2 != (0:Int)) then some (.inr ((0:Int),zE,zD,r_2.2.2)) else
  (nY F zK (⟨yE,r_2.1⟩:zN)).bind fun r_3 =>
  (bif decide (r_3≥(0:Int)) then some (.inl (r_3,r_2.2.1,zK)) else
  (bif decide ((((zK).length:Nat):Int)≥(1000:Int)) then some (.inr ((0:Int),zE,zD,(6:Int))) else
  (need (((zK).length+(([(⟨yE,r_2.1⟩:zN)]:List zN)).length) * 16≤140737488355328)).bind fun _ =>
  some (.inl ((((zK).length:Nat):Int),r_2.2.1,(zK++([(⟨yE,r_2.1⟩:zN)]:List zN))))))):Option ((Int×(List (List Int))×(List zN))⊕(Int×(List (List Int))×(List (zN))×Int)))).bind fun (o_2:(Int×(List (List Int))×(List zN))⊕(Int×(List (List Int))×(List (zN))×Int)) =>
  (match o_2 with
  | (.inl q_1) =>
  rec q_1.1 q_1.2.1 (zJ (k_1+(1:Int))) q_1.2.2
  | (.inr q_2) =>
  some (.inr q_2)) else
  some (.inl (yE,n_1,zK)))
def pS (F:Nat) (zE:List (List Int)) (zD:List (zN)) (l_1:List (List Int)):Nat→Int→(List (List Int))→Int→(List zN)→Option ((Int×(List (List Int))×(List zN))⊕(Int×(List (List Int))×(List (zN))×Int))
  | 0,_,_,_,_=>none
  | n+1,yE,n_1,k_1,zK=>jY F zE zD l_1 (pS F zE zD l_1 n) yE n_1 k_1 zK
def zAv (F:Nat) (zE:List (List Int)) (zD:List (zN)) (l_1:List (List Int)):Option (Int×(List (List Int))×(List (zN))×Int) :=
  (zBO F l_1).bind fun r_1 =>
  (bif (r_1 != (0:Int)) then some ((0:Int),zE,zD,r_1) else
  (need (((([]:List zN)).length+(zD).length) * 16≤140737488355328)).bind fun _ =>
  (pS F zE zD l_1 F (-1:Int) zE (0:Int) ([]++zD)).bind fun (o_1:(Int×(List (List Int))×(List zN))⊕(Int×(List (List Int))×(List (zN))×Int)) =>
  (match o_1 with
  | (.inl q_3) =>
  some (q_3.1,q_3.2.1,q_3.2.2,(0:Int))
  | (.inr q_4) =>
  some q_4))
def zC4 (n_1:Int):Option Int :=
  (bif decide (n_1<(0:Int)) then some (yR ((yR ((2:Int) * (yR (zJ (0 - (zJ (n_1+(1:Int))))))))+(1:Int))) else
  some (yR ((2:Int) * (yR n_1))))
def t3 (F:Nat) (rec:Int→(List Int)→Option (Int×(List Int))) (u_1:Int) (zK:List Int):Option (Int×(List Int)) :=
  (bif decide (u_1≥(128:Int)) then (need (((zK).length+(([wK ((wK (yQ u_1 (128:Int)))+(128:Int))]:List Int)).length) * 1≤140737488355328)).bind fun _ =>
  rec (zEZ .u64 u_1 (128:Int)) (zK++([wK ((wK (yQ u_1 (128:Int)))+(128:Int))]:List Int)) else
  some (u_1,zK))
def pX (F:Nat):Nat→Int→(List Int)→Option (Int×(List Int))
  | 0,_,_=>none
  | n+1,u_1,zK=>t3 F (pX F n) u_1 zK
def zBV (F:Nat) (b_1:List (Int)) (n_1:Int):Option (List (Int)) :=
  (need (((([]:List Int)).length+(b_1).length) * 1≤140737488355328)).bind fun _ =>
  (zC4 n_1).bind fun r_1 =>
  (pX F F r_1 ([]++b_1)).bind fun (o_1:(Int×(List Int))) =>
  (need (((o_1.2).length+(([wK o_1.1]:List Int)).length) * 1≤140737488355328)).bind fun _ =>
  some (o_1.2++([wK o_1.1]:List Int))
def t8 (F:Nat) (l_1:List (Int)) (rec:(List Int)→Int→Option (List Int)) (zBp:List Int) (i_1:Int):Option (List Int) :=
  (bif decide (i_1<(((l_1).length:Nat):Int)) then (y7 l_1 i_1).bind fun x_1=>(zBV F zBp x_1).bind fun r_1 =>
  rec r_1 (zJ (i_1+(1:Int))) else
  some zBp)
def zBc (F:Nat) (l_1:List (Int)):Nat→(List Int)→Int→Option (List Int)
  | 0,_,_=>none
  | n+1,zBp,i_1=>t8 F l_1 (zBc F l_1 n) zBp i_1
def zBP (F:Nat) (l_1:List (Int)):Option (List (Int)) :=
  (zBc F l_1 F [] (0:Int)).bind fun (o_1:(List Int)) =>
  some o_1
def zCN (F:Nat) (zE:List (List Int)) (zD:List (zN)) (e_1:zL):Option zY1 :=
  (pI F zE zD).bind fun r_1 =>
  (bif (r_1 != (0:Int)) then some ([],[],[],(1:Int)) else
  (zAK F e_1).bind fun r_2 =>
  (bif (r_2 != (0:Int)) then some ([],[],[],r_2) else
  (zDt e_1.Kind).bind fun r_3 =>
  (((bif r_3.1 then (zEr F zE e_1.Name).bind fun r_4 =>
  (bif (r_4.2.2 != (0:Int)) then some (.inr ([],[],[],r_4.2.2)) else
  (need (((([e_1.Kind,e_1.At]:List Int)).length+(([r_4.1]:List Int)).length) * 8≤140737488355328)).bind fun _ =>
  some (.inl (r_4.2.1,(([e_1.Kind,e_1.At]:List Int)++([r_4.1]:List Int))))) else
  some (.inl (zE,([e_1.Kind,e_1.At]:List Int)))):Option (((List (List Int))×(List Int))⊕zY1))).bind fun (o_1:((List (List Int))×(List Int))⊕zY1) =>
  (match o_1 with
  | (.inl q_1) =>
  (((bif r_3.2.1 then (need (((q_1.2).length+(([e_1.N]:List Int)).length) * 8≤140737488355328)).bind fun _ =>
  some (q_1.2++([e_1.N]:List Int)) else
  some q_1.2):Option (List Int))).bind fun (o_2:(List Int)) =>
  (((bif r_3.2.2.1 then (need (((o_2).length+(([e_1.M]:List Int)).length) * 8≤140737488355328)).bind fun _ =>
  some (o_2++([e_1.M]:List Int)) else
  some o_2):Option (List Int))).bind fun (o_3:(List Int)) =>
  (((bif r_3.2.2.2 then (zAv F q_1.1 zD e_1.Stack).bind fun r_5 =>
  (bif (r_5.2.2.2 != (0:Int)) then some (.inr ([],[],[],r_5.2.2.2)) else
  (need (((o_3).length+(([r_5.1]:List Int)).length) * 8≤140737488355328)).bind fun _ =>
  some (.inl (r_5.2.1,r_5.2.2.1,(o_3++([r_5.1]:List Int))))) else
  some (.inl (q_1.1,zD,o_3))):Option (((List (List Int))×(List zN)×(List Int))⊕zY1))).bind fun (o_4:((List (List Int))×(List zN)×(List Int))⊕zY1) =>
  (match o_4 with
  | (.inl q_3) =>
  (zBP F q_3.2.2).bind fun r_6 =>
  some (r_6,q_3.1,q_3.2.1,(0:Int))
  | (.inr q_4) =>
  some q_4)
  | (.inr q_2) =>
  some q_2)))
def zCH (F:Nat) (b_1:List (Int)):Option (List (Int)) :=
  (zBV F [] (((b_1).length:Nat):Int)).bind fun r_1=>(need (((r_1).length+(b_1).length) * 1≤140737488355328)).bind fun _ =>
  some (r_1++b_1)
def zDC (F:Nat) (r_1:zO):Option Int :=
  (zAH F r_1).bind fun r_2 =>
  (bif (r_2 != (0:Int)) then some (0:Int) else
  some (zJ ((((r_1.Data).length:Nat):Int) - (zJ (r_1.End - r_1.Start)))))
def kK (F:Nat) (yE:Int) (uC:List (Int)) (rec:Int→(List Int)→Option (List Int)) (i_1:Int) (zK:List Int):Option (List Int) :=
  (bif decide (i_1<(((uC).length:Nat):Int)) then (need ((((zK).length:Nat):Int)≠(0:Int))).bind fun _=>(y7 uC i_1).bind fun x_1=>(y7 zK (yQ (zJ (yE+i_1)) (((zK).length:Nat):Int))).bind fun x_2 =>
  rec (zJ (i_1+(1:Int))) ((zK).set ((yQ (zJ (yE+i_1)) (((zK).length:Nat):Int)).toNat) x_1) else
  some zK)
def nF (F:Nat) (yE:Int) (uC:List (Int)):Nat→Int→(List Int)→Option (List Int)
  | 0,_,_=>none
  | n+1,i_1,zK=>kK F yE uC (nF F yE uC n) i_1 zK
def zCt (F:Nat) (j7:List (Int)) (yE:Int) (uC:List (Int)):Option (List (Int)) :=
  (need (((([]:List Int)).length+(j7).length) * 1≤140737488355328)).bind fun _ =>
  (nF F yE uC F (0:Int) ([]++j7)).bind fun (o_1:(List Int)) =>
  some o_1
def jX (F:Nat) (r_3:(List (Int))) (r_6:(List (List (Int)))×Bool) (rec:Int→Int→Int→Option (Int×Int)) (xH:Int) (v7:Int) (c_1:Int):Option (Int×Int) :=
  (bif decide (v7<(((r_3).length:Nat):Int)) then (y7 r_6.1 xH).bind fun x_1=>(zCH F x_1).bind fun r_7 =>
  rec (zJ (xH+(1:Int))) (zJ (v7+(((r_7).length:Nat):Int))) (zJ (c_1+(((r_7).length:Nat):Int))) else
  some (xH,c_1))
def zBJ (F:Nat) (r_3:(List (Int))) (r_6:(List (List (Int)))×Bool):Nat→Int→Int→Int→Option (Int×Int)
  | 0,_,_,_=>none
  | n+1,xH,v7,c_1=>jX F r_3 r_6 (zBJ F r_3 r_6 n) xH v7 c_1
def zFJ (F:Nat) (r_1:zO) (b_1:List (Int)):Option (zO×Int×Int) :=
  (zAH F r_1).bind fun r_2 =>
  (bif (r_2 != (0:Int)) then some (r_1,(0:Int),r_2) else
  (zCH F b_1).bind fun r_3 =>
  (bif (decide ((((b_1).length:Nat):Int)>(2000:Int))||decide ((((r_3).length:Nat):Int)>(((r_1.Data).length:Nat):Int))) then some (r_1,(0:Int),(7:Int)) else
  ((bif (r_1.Policy==(2:Int)) then ((zDC F r_1).bind fun r_4=>some (decide ((((r_3).length:Nat):Int)>r_4))) else (some false))).bind fun (p_1:Bool) =>
  (bif p_1 then some (r_1,(0:Int),(6:Int)) else
  (bif (decide ((zJ (r_1.End+(((r_3).length:Nat):Int)))>(1000000000000000:Int))||decide ((zJ (r_1.Next+(1:Int)))>(1000000000000000:Int))) then some (r_1,(0:Int),(2:Int)) else
  (nK F r_1).bind fun r_5=>(zAj F r_5).bind fun r_6 =>
  (zBJ F r_3 r_6 F (0:Int) (zJ ((((r_1.Data).length:Nat):Int) - (zJ (r_1.End - r_1.Start)))) r_1.Start).bind fun (o_1:(Int×Int)) =>
  (zCt F r_1.Data r_1.End r_3).bind fun r_8 =>
  some ((⟨r_1.Policy,r_8,o_1.2,zJ (r_1.End+(((r_3).length:Nat):Int)),zJ (r_1.First+o_1.1),zJ (r_1.Next+(1:Int))⟩:zO),o_1.1,(0:Int))))))
def zD2 (F:Nat) (p_1:zG) (e_1:zL):Option (zG×Int) :=
  (zBt F p_1).bind fun r_1 =>
  (((bif (r_1==(0:Int)) then (zAK F e_1).bind fun r_2 =>
  some r_2 else
  some r_1):Option Int)).bind fun (o_1:Int) =>
  (((bif ((o_1==(0:Int))&&decide (e_1.At<p_1.Last)) then some (11:Int) else
  some o_1):Option Int)).bind fun (o_2:Int) =>
  (bif (o_2 != (0:Int)) then some ((⟨(⟨(0:Int),([]:List Int),(0:Int)⟩:yA),[],[],(⟨(0:Int),[],(0:Int),(0:Int),(0:Int),(0:Int)⟩:zO),(0:Int),(0:Int)⟩:zG),o_2) else
  (zCN F p_1.Names p_1.Stacks e_1).bind fun r_3 =>
  (bif (r_3.2.2.2 != (0:Int)) then some ((⟨(⟨(0:Int),([]:List Int),(0:Int)⟩:yA),[],[],(⟨(0:Int),[],(0:Int),(0:Int),(0:Int),(0:Int)⟩:zO),(0:Int),(0:Int)⟩:zG),r_3.2.2.2) else
  (zFJ F p_1.Ring r_3.1).bind fun r_4 =>
  (bif (r_4.2.2 != (0:Int)) then some ((⟨(⟨(0:Int),([]:List Int),(0:Int)⟩:yA),[],[],(⟨(0:Int),[],(0:Int),(0:Int),(0:Int),(0:Int)⟩:zO),(0:Int),(0:Int)⟩:zG),r_4.2.2) else
  some ((⟨p_1.Thread,r_3.2.1,r_3.2.2.1,r_4.1,e_1.At,p_1.Sent⟩:zG),(0:Int)))))
def tT (F:Nat) (y1:List (xP)) (rec:Int→Int→(List Int)→Int→(List (List Int))→(List zN)→Int→(List Int)→Int→Int→Int→Int→Int→Int→Int→(List Int)→Int→(List (List Int))→(List zN)→Int→(List Int)→Int→Int→Int→Int→Int→Int→Option (Unit⊕Bool)) (i_1:Int) (c_1:Int) (c_2:List Int) (c_3:Int) (c_4:List (List Int)) (c_5:List zN) (c_6:Int) (c_7:List Int) (c_8:Int) (c_9:Int) (vI:Int) (vJ:Int) (vK:Int) (vL:Int) (wQ:Int) (wR:List Int) (wS:Int) (wT:List (List Int)) (wU:List zN) (wV:Int) (wW:List Int) (wX:Int) (wY:Int) (wZ:Int) (w3:Int) (w4:Int) (w5:Int):Option (Unit⊕Bool) :=
  (bif decide (i_1<(((y1).length:Nat):Int)) then (((y7 y1 i_1).bind fun x_1 =>
  (((bif x_1.Drain then (kQ F (⟨(⟨c_1,c_2,c_3⟩:yA),c_4,c_5,(⟨c_6,c_7,c_8,c_9,vI,vJ⟩:zO),vK,vL⟩:zG)).bind fun r_6 =>
  (zDZ F (⟨(⟨wQ,wR,wS⟩:yA),wT,wU,(⟨wV,wW,wX,wY,wZ,w3⟩:zO),w4,w5⟩:zG)).bind fun r_7 =>
  (((zAa F r_6.1 r_7.1).bind fun r_8=>bif !r_8 then (some true) else ((nX F (⟨(⟨c_1,c_2,c_3⟩:yA),c_4,c_5,(⟨c_6,c_7,c_8,c_9,vI,vJ⟩:zO),vK,vL⟩:zG)).bind fun r_9=>(zE5 F (⟨(⟨wQ,wR,wS⟩:yA),wT,wU,(⟨wV,wW,wX,wY,wZ,w3⟩:zO),w4,w5⟩:zG)).bind fun y4=>some (r_9 != y4)))).bind fun (p_2:Bool) =>
  (bif p_2 then some (.inr false) else
  some (.inl (r_6.2.Thread.Id,r_6.2.Thread.Name,r_6.2.Thread.Domain,r_6.2.Names,r_6.2.Stacks,r_6.2.Ring.Policy,r_6.2.Ring.Data,r_6.2.Ring.Start,r_6.2.Ring.End,r_6.2.Ring.First,r_6.2.Ring.Next,r_6.2.Last,r_6.2.Sent,r_7.2.Thread.Id,r_7.2.Thread.Name,r_7.2.Thread.Domain,r_7.2.Names,r_7.2.Stacks,r_7.2.Ring.Policy,r_7.2.Ring.Data,r_7.2.Ring.Start,r_7.2.Ring.End,r_7.2.Ring.First,r_7.2.Ring.Next,r_7.2.Last,r_7.2.Sent))) else
  (y7 y1 i_1).bind fun x_2=>(qB F (⟨(⟨c_1,c_2,c_3⟩:yA),c_4,c_5,(⟨c_6,c_7,c_8,c_9,vI,vJ⟩:zO),vK,vL⟩:zG) x_2.E).bind fun y6 =>
  (y7 y1 i_1).bind fun x_3=>(zD2 F (⟨(⟨wQ,wR,wS⟩:yA),wT,wU,(⟨wV,wW,wX,wY,wZ,w3⟩:zO),w4,w5⟩:zG) x_3.E).bind fun vM =>
  ((bif (y6.2 != vM.2) then (some true) else ((zCy F y6.1 vM.1).bind fun tH=>some (!tH)))).bind fun (p_3:Bool) =>
  (bif p_3 then some (.inr false) else
  (bif (y6.2==(0:Int)) then some (.inl (y6.1.Thread.Id,y6.1.Thread.Name,y6.1.Thread.Domain,y6.1.Names,y6.1.Stacks,y6.1.Ring.Policy,y6.1.Ring.Data,y6.1.Ring.Start,y6.1.Ring.End,y6.1.Ring.First,y6.1.Ring.Next,y6.1.Last,y6.1.Sent,vM.1.Thread.Id,vM.1.Thread.Name,vM.1.Thread.Domain,vM.1.Names,vM.1.Stacks,vM.1.Ring.Policy,vM.1.Ring.Data,vM.1.Ring.Start,vM.1.Ring.End,vM.1.Ring.First,vM.1.Ring.Next,vM.1.Last,vM.1.Sent)) else
  some (.inl (c_1,c_2,c_3,c_4,c_5,c_6,c_7,c_8,c_9,vI,vJ,vK,vL,wQ,wR,wS,wT,wU,wV,wW,wX,wY,wZ,w3,w4,w5))))):Option (zY0⊕Bool))).bind fun (o_3:zY0⊕Bool) =>
  (match o_3 with
  | (.inl q_1) =>
  (((zCy F (⟨(⟨q_1.1,q_1.2.1,q_1.2.2.1⟩:yA),q_1.2.2.2.1,q_1.2.2.2.2.1,(⟨q_1.2.2.2.2.2.1,q_1.2.2.2.2.2.2.1,q_1.2.2.2.2.2.2.2.1,q_1.2.2.2.2.2.2.2.2.1,q_1.2.2.2.2.2.2.2.2.2.1,q_1.2.2.2.2.2.2.2.2.2.2.1⟩:zO),q_1.2.2.2.2.2.2.2.2.2.2.2.1,q_1.2.2.2.2.2.2.2.2.2.2.2.2.1⟩:zG) (⟨(⟨q_1.2.2.2.2.2.2.2.2.2.2.2.2.2.1,q_1.2.2.2.2.2.2.2.2.2.2.2.2.2.2.1,q_1.2.2.2.2.2.2.2.2.2.2.2.2.2.2.2.1⟩:yA),q_1.2.2.2.2.2.2.2.2.2.2.2.2.2.2.2.2.1,q_1.2.2.2.2.2.2.2.2.2.2.2.2.2.2.2.2.2.1,(⟨q_1.2.2.2.2.2.2.2.2.2.2.2.2.2.2.2.2.2.2.1,q_1.2.2.2.2.2.2.2.2.2.2.2.2.2.2.2.2.2.2.2.1,q_1.2.2.2.2.2.2.2.2.2.2.2.2.2.2.2.2.2.2.2.2.1,q_1.2.2.2.2.2.2.2.2.2.2.2.2.2.2.2.2.2.2.2.2.2.1,q_1.2.2.2.2.2.2.2.2.2.2.2.2.2.2.2.2.2.2.2.2.2.2.1,q_1.2.2.2.2.2.2.2.2.2.2.2.2.2.2.2.2.2.2.2.2.2.2.2.1⟩:zO),q_1.2.2.2.2.2.2.2.2.2.2.2.2.2.2.2.2.2.2.2.2.2.2.2.2.1,q_1.2.2.2.2.2.2.2.2.2.2.2.2.2.2.2.2.2.2.2.2.2.2.2.2.2⟩:zG)).bind fun zGq=>bif !zGq then (some true) else ((jM F (⟨(⟨q_1.1,q_1.2.1,q_1.2.2.1⟩:yA),q_1.2.2.2.1,q_1.2.2.2.2.1,(⟨q_1.2.2.2.2.2.1,q_1.2.2.2.2.2.2.1,q_1.2.2.2.2.2.2.2.1,q_1.2.2.2.2.2.2.2.2.1,q_1.2.2.2.2.2.2.2.2.2.1,q_1.2.2.2.2.2.2.2.2.2.2.1⟩:zO),q_1.2.2.2.2.2.2.2.2.2.2.2.1,q_1.2.2.2.2.2.2.2.2.2.2.2.2.1⟩:zG)).bind fun zHc=>some (zHc != (0:Int))))).bind fun (p_4:Bool) =>
  (bif p_4 then some (.inr false) else
  some (.inl (q_1.1,q_1.2.1,q_1.2.2.1,q_1.2.2.2.1,q_1.2.2.2.2.1,q_1.2.2.2.2.2.1,q_1.2.2.2.2.2.2.1,q_1.2.2.2.2.2.2.2.1,q_1.2.2.2.2.2.2.2.2.1,q_1.2.2.2.2.2.2.2.2.2.1,q_1.2.2.2.2.2.2.2.2.2.2.1,q_1.2.2.2.2.2.2.2.2.2.2.2.1,q_1.2.2.2.2.2.2.2.2.2.2.2.2.1,q_1.2.2.2.2.2.2.2.2.2.2.2.2.2.1,q_1.2.2.2.2.2.2.2.2.2.2.2.2.2.2.1,q_1.2.2.2.2.2.2.2.2.2.2.2.2.2.2.2.1,q_1.2.2.2.2.2.2.2.2.2.2.2.2.2.2.2.2.1,q_1.2.2.2.2.2.2.2.2.2.2.2.2.2.2.2.2.2.1,q_1.2.2.2.2.2.2.2.2.2.2.2.2.2.2.2.2.2.2.1,q_1.2.2.2.2.2.2.2.2.2.2.2.2.2.2.2.2.2.2.2.1,q_1.2.2.2.2.2.2.2.2.2.2.2.2.2.2.2.2.2.2.2.2.1,q_1.2.2.2.2.2.2.2.2.2.2.2.2.2.2.2.2.2.2.2.2.2.1,q_1.2.2.2.2.2.2.2.2.2.2.2.2.2.2.2.2.2.2.2.2.2.2.1,q_1.2.2.2.2.2.2.2.2.2.2.2.2.2.2.2.2.2.2.2.2.2.2.2.1,q_1.2.2.2.2.2.2.2.2.2.2.2.2.2.2.2.2.2.2.2.2.2.2.2.2.1,q_1.2.2.2.2.2.2.2.2.2.2.2.2.2.2.2.2.2.2.2.2.2.2.2.2.2)))
  | (.inr q_2) =>
  some (.inr q_2)):Option (zY0⊕Bool))).bind fun (o_2:zY0⊕Bool) =>
  (match o_2 with
  | (.inl q_3) =>
  rec (zJ (i_1+(1:Int))) q_3.1 q_3.2.1 q_3.2.2.1 q_3.2.2.2.1 q_3.2.2.2.2.1 q_3.2.2.2.2.2.1 q_3.2.2.2.2.2.2.1 q_3.2.2.2.2.2.2.2.1 q_3.2.2.2.2.2.2.2.2.1 q_3.2.2.2.2.2.2.2.2.2.1 q_3.2.2.2.2.2.2.2.2.2.2.1 q_3.2.2.2.2.2.2.2.2.2.2.2.1 q_3.2.2.2.2.2.2.2.2.2.2.2.2.1 q_3.2.2.2.2.2.2.2.2.2.2.2.2.2.1 q_3.2.2.2.2.2.2.2.2.2.2.2.2.2.2.1 q_3.2.2.2.2.2.2.2.2.2.2.2.2.2.2.2.1 q_3.2.2.2.2.2.2.2.2.2.2.2.2.2.2.2.2.1 q_3.2.2.2.2.2.2.2.2.2.2.2.2.2.2.2.2.2.1 q_3.2.2.2.2.2.2.2.2.2.2.2.2.2.2.2.2.2.2.1 q_3.2.2.2.2.2.2.2.2.2.2.2.2.2.2.2.2.2.2.2.1 q_3.2.2.2.2.2.2.2.2.2.2.2.2.2.2.2.2.2.2.2.2.1 q_3.2.2.2.2.2.2.2.2.2.2.2.2.2.2.2.2.2.2.2.2.2.1 q_3.2.2.2.2.2.2.2.2.2.2.2.2.2.2.2.2.2.2.2.2.2.2.1 q_3.2.2.2.2.2.2.2.2.2.2.2.2.2.2.2.2.2.2.2.2.2.2.2.1 q_3.2.2.2.2.2.2.2.2.2.2.2.2.2.2.2.2.2.2.2.2.2.2.2.2.1 q_3.2.2.2.2.2.2.2.2.2.2.2.2.2.2.2.2.2.2.2.2.2.2.2.2.2
  | (.inr q_4) =>
  some (.inr q_4)) else
  some (.inl ()))
def t9 (F:Nat) (y1:List (xP)):Nat→Int→Int→(List Int)→Int→(List (List Int))→(List zN)→Int→(List Int)→Int→Int→Int→Int→Int→Int→Int→(List Int)→Int→(List (List Int))→(List zN)→Int→(List Int)→Int→Int→Int→Int→Int→Int→Option (Unit⊕Bool)
  | 0,_,_,_,_,_,_,_,_,_,_,_,_,_,_,_,_,_,_,_,_,_,_,_,_,_,_,_=>none
  | n+1,i_1,c_1,c_2,c_3,c_4,c_5,c_6,c_7,c_8,c_9,vI,vJ,vK,vL,wQ,wR,wS,wT,wU,wV,wW,wX,wY,wZ,w3,w4,w5=>tT F y1 (t9 F y1 n) i_1 c_1 c_2 c_3 c_4 c_5 c_6 c_7 c_8 c_9 vI vJ vK vL wQ wR wS wT wU wV wW wX wY wZ w3 w4 w5
def qO (F:Nat) (zZ:Int) (uR:Int) (y1:List (xP)):Option Bool :=
  (((zDN F).bind fun r_1=>bif !r_1 then (some true) else ((zEy F y1).bind fun r_2=>bif !r_2 then (some true) else (some (decide (zZ>(300:Int))))))).bind fun (p_1:Bool) =>
  (bif p_1 then (zDN F).bind fun r_3 =>
  some r_3 else
  (pC F (⟨(1:Int),([116]:List Int),(0:Int)⟩:yA) zZ uR).bind fun r_4 =>
  (zEs F (⟨(1:Int),([116]:List Int),(0:Int)⟩:yA) zZ uR).bind fun r_5 =>
  (bif ((r_4.2 != (0:Int))||(r_5.2 != (0:Int))) then some (r_4.2==r_5.2) else
  (t9 F y1 F (0:Int) r_4.1.Thread.Id r_4.1.Thread.Name r_4.1.Thread.Domain r_4.1.Names r_4.1.Stacks r_4.1.Ring.Policy r_4.1.Ring.Data r_4.1.Ring.Start r_4.1.Ring.End r_4.1.Ring.First r_4.1.Ring.Next r_4.1.Last r_4.1.Sent r_5.1.Thread.Id r_5.1.Thread.Name r_5.1.Thread.Domain r_5.1.Names r_5.1.Stacks r_5.1.Ring.Policy r_5.1.Ring.Data r_5.1.Ring.Start r_5.1.Ring.End r_5.1.Ring.First r_5.1.Ring.Next r_5.1.Last r_5.1.Sent).bind fun (o_1:Unit⊕Bool) =>
  (match o_1 with
  | (.inl q_5) =>
  some true
  | (.inr q_6) =>
  some q_6)))
abbrev x5 (a0:Int) (a1:List Int) (a2:Int) (a3:Int) (a4:Int) (a5:Int):List AV:=[Ii a0,.sl false 1 (Mb a1),Ii a2,Ii a3,Ii a4,Ii a5]
abbrev tN (a0:Int) (a1:Int) (a2:List Int) (a3:Int) (a4:Int) (a5:List (List Int)):List AV:=[Ii a0,Ii a1,.str a2,Ii a3,Ii a4,.sl false 1 (Ms a5)]
abbrev zY (a0:Int) (a1:List Int) (a2:Int) (a3:List (List Int)) (a4:List zN) (a5:Int) (a6:List Int) (a7:Int) (a8:Int) (a9:Int) (a10:Int) (a11:Int) (a12:Int):List AV:=[Ii a0,.str a1,Ii a2,.sl false 1 (Ms a3),.sl false 2 (Mp zA a4),Ii a5,.sl false 1 (Mb a6),Ii a7,Ii a8,Ii a9,Ii a10,Ii a11,Ii a12]
abbrev zMb:List Int→AV:=fun l=>AV.sl false 1 (l.map (AV.int .u8))
abbrev zL0:yA:=(⟨(0:Int),([]:List Int),(0:Int)⟩:yA)
abbrev zL1:zO:=(⟨(0:Int),[],(0:Int),(0:Int),(0:Int),(0:Int)⟩:zO)
abbrev zL2:zL:=(⟨(0:Int),(0:Int),([]:List Int),(0:Int),(0:Int),[]⟩:zL)
abbrev zL3:yP:=(⟨([]:List Int),false,false,false,false,(0:Int),(0:Int),(0:Int),(0:Int)⟩:yP)
abbrev zL4:yP:=(⟨([101,110,100]:List Int),false,false,false,false,(0:Int),(0:Int),(0:Int),(0:Int)⟩:yP)
abbrev zL5:yP:=(⟨([114,117,110]:List Int),false,true,false,false,(0:Int),(63:Int),(0:Int),(0:Int)⟩:yP)
abbrev zL6:yP:=(⟨([109,97,114,107]:List Int),true,false,false,false,(0:Int),(0:Int),(0:Int),(0:Int)⟩:yP)
abbrev zL7:yP:=(⟨([98,101,103,105,110]:List Int),true,false,false,false,(0:Int),(0:Int),(0:Int),(0:Int)⟩:yP)
abbrev zL8:yP:=(⟨([114,101,99,118]:List Int),false,true,false,false,(0:Int),(1000000000000000:Int),(0:Int),(0:Int)⟩:yP)
abbrev zL9:yP:=(⟨([115,116,111,112]:List Int),false,true,true,false,(0:Int),(3:Int),(0:Int),(1000000000000000:Int)⟩:yP)
abbrev zMH:yP:=(⟨([119,97,107,101]:List Int),false,true,false,false,(0:Int),(1000000000000000:Int),(0:Int),(0:Int)⟩:yP)
abbrev zMc:yP:=(⟨([115,101,110,100]:List Int),false,true,false,false,(0:Int),(1000000000000000:Int),(0:Int),(0:Int)⟩:yP)
abbrev zMB:yP:=(⟨([102,114,101,101]:List Int),false,true,false,false,(0:Int),(1000000000000000:Int),(0:Int),(0:Int)⟩:yP)
abbrev zMM:yP:=(⟨([115,97,109,112,108,101]:List Int),false,true,false,true,(1:Int),(1000000000000:Int),(0:Int),(0:Int)⟩:yP)
abbrev zLH:yP:=(⟨([97,108,108,111,99]:List Int),false,true,true,true,(0:Int),(1000000000000000:Int),(1:Int),(1000000000000:Int)⟩:yP)
abbrev zMU:yP:=(⟨([99,111,117,110,116]:List Int),true,true,false,false,(-1000000000000000:Int),(1000000000000000:Int),(0:Int),(0:Int)⟩:yP)
abbrev yJ:zG:=(⟨(⟨(0:Int),([]:List Int),(0:Int)⟩:yA),[],[],(⟨(0:Int),[],(0:Int),(0:Int),(0:Int),(0:Int)⟩:zO),(0:Int),(0:Int)⟩:zG)
abbrev xV:yM:=Vb 32 [Ii 0,.str ([]:List Int),Ii 0,.nilsl,.nilsl,Ii 0,.nilsl,Ii 0,Ii 0,Ii 0,Ii 0,Ii 0,Ii 0]
abbrev zKm:yM:=Vb 94 [.str ([]:List Int),.bool false,.bool false,.bool false,.bool false,Ii 0,Ii 0,Ii 0,Ii 0]
abbrev xS:yM:=Vb 45 [Ii 0,Ii 0,.str ([]:List Int),Ii 0,Ii 0,.nilsl]
abbrev xR:yM:=Vb 30 [Ii 0,.nilsl,Ii 0,Ii 0,Ii 0,Ii 0]
abbrev zB0 (t_1:yA):Bool:=(decide (t_1.Id<(0:Int))||(decide (t_1.Id>(1000000000000000:Int))||(decide (t_1.Domain<(0:Int))||decide (t_1.Domain≥(8:Int)))))
abbrev zB1 (zE:List (List Int)) (zD:List (zN)):Bool:=(decide ((lN (zE))>(1000:Int))||decide ((lN (zD))>(1000:Int)))
abbrev zB2 (r_1:zO):Bool:=(decide ((lN (r_1.Data))<(16:Int))||decide ((lN (r_1.Data))>(65536:Int)))
abbrev zB3 (e_1:zL):Bool:=((e_1.Kind==(9:Int))&&((e_1.N != (2:Int))&&(e_1.M != (0:Int))))
abbrev zB4 (e_1:zL):Bool:=(decide (e_1.At<(0:Int))||decide (e_1.At>(1000000000000:Int)))
abbrev zB5 (p_1:zG):Bool:=(decide (p_1.Sent<(0:Int))||(decide (p_1.Sent>p_1.Ring.First)||(decide (p_1.Last<(0:Int))||decide (p_1.Last>(1000000000000:Int)))))
abbrev zB6 (c_1:Int):Bool:=(bif decide (c_1≥(97:Int)) then (decide (c_1≤(122:Int))||(bif decide (c_1≥(65:Int)) then (decide (c_1≤(90:Int))||(decide (c_1≥(48:Int))&&decide (c_1≤(57:Int)))) else (decide (c_1≥(48:Int))&&decide (c_1≤(57:Int))))) else (bif decide (c_1≥(65:Int)) then (decide (c_1≤(90:Int))||(decide (c_1≥(48:Int))&&decide (c_1≤(57:Int)))) else (decide (c_1≥(48:Int))&&decide (c_1≤(57:Int)))))
abbrev zB7 (r_1:zO):Bool:=(decide ((lN (r_1.Data))<(16:Int))||(decide ((lN (r_1.Data))>(65536:Int))||(decide (r_1.Start<(0:Int))||(decide (r_1.Start>r_1.End)||(decide (r_1.End>(1000000000000000:Int))||(decide ((zJ (r_1.End - r_1.Start))>(lN (r_1.Data)))||(decide (r_1.First<(0:Int))||(decide (r_1.First>r_1.Next)||decide (r_1.Next>(1000000000000000:Int))))))))))
abbrev zB8 (a_1:zG) (b_1:zG):Bool:=((a_1.Ring.Policy != b_1.Ring.Policy)||(((lN (a_1.Ring.Data)) != (lN (b_1.Ring.Data)))||((a_1.Ring.Start != b_1.Ring.Start)||((a_1.Ring.End != b_1.Ring.End)||((a_1.Ring.First != b_1.Ring.First)||(a_1.Ring.Next != b_1.Ring.Next))))))
abbrev zB9 (e_1:zL):Bool:=(decide ((lN (e_1.Name))>(200:Int))||decide ((lN (e_1.Stack))>(60:Int)))
abbrev zQ0 (q:zY0):zG:=(⟨(⟨q.2.2.2.2.2.2.2.2.2.2.2.2.2.1,q.2.2.2.2.2.2.2.2.2.2.2.2.2.2.1,q.2.2.2.2.2.2.2.2.2.2.2.2.2.2.2.1⟩:yA),q.2.2.2.2.2.2.2.2.2.2.2.2.2.2.2.2.1,q.2.2.2.2.2.2.2.2.2.2.2.2.2.2.2.2.2.1,(⟨q.2.2.2.2.2.2.2.2.2.2.2.2.2.2.2.2.2.2.1,q.2.2.2.2.2.2.2.2.2.2.2.2.2.2.2.2.2.2.2.1,q.2.2.2.2.2.2.2.2.2.2.2.2.2.2.2.2.2.2.2.2.1,q.2.2.2.2.2.2.2.2.2.2.2.2.2.2.2.2.2.2.2.2.2.1,q.2.2.2.2.2.2.2.2.2.2.2.2.2.2.2.2.2.2.2.2.2.2.1,q.2.2.2.2.2.2.2.2.2.2.2.2.2.2.2.2.2.2.2.2.2.2.2.1⟩:zO),q.2.2.2.2.2.2.2.2.2.2.2.2.2.2.2.2.2.2.2.2.2.2.2.2.1,q.2.2.2.2.2.2.2.2.2.2.2.2.2.2.2.2.2.2.2.2.2.2.2.2.2⟩:zG)
abbrev zQ1 (q:zY0):List AV:=(zY q.2.2.2.2.2.2.2.2.2.2.2.2.2.1 q.2.2.2.2.2.2.2.2.2.2.2.2.2.2.1 q.2.2.2.2.2.2.2.2.2.2.2.2.2.2.2.1 q.2.2.2.2.2.2.2.2.2.2.2.2.2.2.2.2.1 q.2.2.2.2.2.2.2.2.2.2.2.2.2.2.2.2.2.1 q.2.2.2.2.2.2.2.2.2.2.2.2.2.2.2.2.2.2.1 q.2.2.2.2.2.2.2.2.2.2.2.2.2.2.2.2.2.2.2.1 q.2.2.2.2.2.2.2.2.2.2.2.2.2.2.2.2.2.2.2.2.1 q.2.2.2.2.2.2.2.2.2.2.2.2.2.2.2.2.2.2.2.2.2.1 q.2.2.2.2.2.2.2.2.2.2.2.2.2.2.2.2.2.2.2.2.2.2.1 q.2.2.2.2.2.2.2.2.2.2.2.2.2.2.2.2.2.2.2.2.2.2.2.1 q.2.2.2.2.2.2.2.2.2.2.2.2.2.2.2.2.2.2.2.2.2.2.2.2.1 q.2.2.2.2.2.2.2.2.2.2.2.2.2.2.2.2.2.2.2.2.2.2.2.2.2)
abbrev zQ2 (q:zY0):List AV:=(zY q.1 q.2.1 q.2.2.1 q.2.2.2.1 q.2.2.2.2.1 q.2.2.2.2.2.1 q.2.2.2.2.2.2.1 q.2.2.2.2.2.2.2.1 q.2.2.2.2.2.2.2.2.1 q.2.2.2.2.2.2.2.2.2.1 q.2.2.2.2.2.2.2.2.2.2.1 q.2.2.2.2.2.2.2.2.2.2.2.1 q.2.2.2.2.2.2.2.2.2.2.2.2.1)
abbrev zQ3 (q:zY0):zG:=(⟨(⟨q.2.2.2.2.2.2.2.2.2.2.2.2.2.1,q.2.2.2.2.2.2.2.2.2.2.2.2.2.2.1,q.2.2.2.2.2.2.2.2.2.2.2.2.2.2.2.1⟩:yA),q.2.2.2.2.2.2.2.2.2.2.2.2.2.2.2.2.1,q.2.2.2.2.2.2.2.2.2.2.2.2.2.2.2.2.2.1,(⟨q.2.2.2.2.2.2.2.2.2.2.2.2.2.2.2.2.2.2.1,q.2.2.2.2.2.2.2.2.2.2.2.2.2.2.2.2.2.2.2.1,q.2.2.2.2.2.2.2.2.2.2.2.2.2.2.2.2.2.2.2.2.1,q.2.2.2.2.2.2.2.2.2.2.2.2.2.2.2.2.2.2.2.2.2.1,q.2.2.2.2.2.2.2.2.2.2.2.2.2.2.2.2.2.2.2.2.2.2.1,q.2.2.2.2.2.2.2.2.2.2.2.2.2.2.2.2.2.2.2.2.2.2.2.1⟩:zO),q.2.2.2.2.2.2.2.2.2.2.2.2.2.2.2.2.2.2.2.2.2.2.2.2.1,q.2.2.2.2.2.2.2.2.2.2.2.2.2.2.2.2.2.2.2.2.2.2.2.2.2⟩:zG)
abbrev zQ4 (q:zY0):List AV:=(zY q.2.2.2.2.2.2.2.2.2.2.2.2.2.1 q.2.2.2.2.2.2.2.2.2.2.2.2.2.2.1 q.2.2.2.2.2.2.2.2.2.2.2.2.2.2.2.1 q.2.2.2.2.2.2.2.2.2.2.2.2.2.2.2.2.1 q.2.2.2.2.2.2.2.2.2.2.2.2.2.2.2.2.2.1 q.2.2.2.2.2.2.2.2.2.2.2.2.2.2.2.2.2.2.1 q.2.2.2.2.2.2.2.2.2.2.2.2.2.2.2.2.2.2.2.1 q.2.2.2.2.2.2.2.2.2.2.2.2.2.2.2.2.2.2.2.2.1 q.2.2.2.2.2.2.2.2.2.2.2.2.2.2.2.2.2.2.2.2.2.1 q.2.2.2.2.2.2.2.2.2.2.2.2.2.2.2.2.2.2.2.2.2.2.1 q.2.2.2.2.2.2.2.2.2.2.2.2.2.2.2.2.2.2.2.2.2.2.2.1 q.2.2.2.2.2.2.2.2.2.2.2.2.2.2.2.2.2.2.2.2.2.2.2.2.1 q.2.2.2.2.2.2.2.2.2.2.2.2.2.2.2.2.2.2.2.2.2.2.2.2.2)
abbrev zQ5 (q:zY0):zG:=(⟨(⟨q.1,q.2.1,q.2.2.1⟩:yA),q.2.2.2.1,q.2.2.2.2.1,(⟨q.2.2.2.2.2.1,q.2.2.2.2.2.2.1,q.2.2.2.2.2.2.2.1,q.2.2.2.2.2.2.2.2.1,q.2.2.2.2.2.2.2.2.2.1,q.2.2.2.2.2.2.2.2.2.2.1⟩:zO),q.2.2.2.2.2.2.2.2.2.2.2.1,q.2.2.2.2.2.2.2.2.2.2.2.2.1⟩:zG)
abbrev zQ6 (q:zY0):List AV:=(zY q.1 q.2.1 q.2.2.1 q.2.2.2.1 q.2.2.2.2.1 q.2.2.2.2.2.1 q.2.2.2.2.2.2.1 q.2.2.2.2.2.2.2.1 q.2.2.2.2.2.2.2.2.1 q.2.2.2.2.2.2.2.2.2.1 q.2.2.2.2.2.2.2.2.2.2.1 q.2.2.2.2.2.2.2.2.2.2.2.1 q.2.2.2.2.2.2.2.2.2.2.2.2.1)
abbrev zT4 {A B C D E:Type} (q:A×B×C×D×E):E:=q.2.2.2.2
abbrev zT8 {A B C D E A1 B1 C1 D1:Type} (q:A×B×C×D×A1×B1×C1×D1×E):E:=q.2.2.2.2.2.2.2.2
end Go.Ab
