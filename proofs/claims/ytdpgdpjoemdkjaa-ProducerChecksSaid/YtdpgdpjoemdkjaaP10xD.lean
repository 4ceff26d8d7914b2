/- Printed: the typed Lean functions of the Go functions, or the proofs that the Go functions meet them. No conditions but those that the theorems name. -/
import Derived.Test.YtdpgdpjoemdkjaaA35
import Derived.Test.YtdpgdpjoemdkjaaA41
namespace Go.Ab
open Go
set_option linter.unusedVariables false
structure yQ where
  Id:Int
  Name:List Int
  Domain:Int
  deriving DecidableEq,Inhabited
def y8 (s:yQ):List AV:=[.int .i64 s.Id,.str s.Name,.int .i64 s.Domain]
def xP (s:yQ):AV:=.agg (y8 s)
def kS (s_1:List Int) (c_1:Int):Option Int :=
  some (tM s_1 c_1)
def vG (s_1:List Int) (c_1:Int):Option Int :=
  (kS s_1 c_1).bind fun r_1 =>
  some r_1
def zAL (c_1:Int):Option Bool :=
  ((bif decide (c_1≥(97:Int)) then (bif decide (c_1≤(122:Int)) then (some true) else (bif decide (c_1≥(65:Int)) then (bif decide (c_1≤(90:Int)) then (some true) else (bif decide (c_1≥(48:Int)) then (bif decide (c_1≤(57:Int)) then (some true) else ((vG ([95,46,58,47,60,62,36,42,126,45]:List Int) c_1).bind fun r_1=>some (decide (r_1≥(0:Int))))) else ((vG ([95,46,58,47,60,62,36,42,126,45]:List Int) c_1).bind fun r_1=>some (decide (r_1≥(0:Int)))))) else (bif decide (c_1≥(48:Int)) then (bif decide (c_1≤(57:Int)) then (some true) else ((vG ([95,46,58,47,60,62,36,42,126,45]:List Int) c_1).bind fun r_1=>some (decide (r_1≥(0:Int))))) else ((vG ([95,46,58,47,60,62,36,42,126,45]:List Int) c_1).bind fun r_1=>some (decide (r_1≥(0:Int))))))) else (bif decide (c_1≥(65:Int)) then (bif decide (c_1≤(90:Int)) then (some true) else (bif decide (c_1≥(48:Int)) then (bif decide (c_1≤(57:Int)) then (some true) else ((vG ([95,46,58,47,60,62,36,42,126,45]:List Int) c_1).bind fun r_1=>some (decide (r_1≥(0:Int))))) else ((vG ([95,46,58,47,60,62,36,42,126,45]:List Int) c_1).bind fun r_1=>some (decide (r_1≥(0:Int)))))) else (bif decide (c_1≥(48:Int)) then (bif decide (c_1≤(57:Int)) then (some true) else ((vG ([95,46,58,47,60,62,36,42,126,45]:List Int) c_1).bind fun r_1=>some (decide (r_1≥(0:Int))))) else ((vG ([95,46,58,47,60,62,36,42,126,45]:List Int) c_1).bind fun r_1=>some (decide (r_1≥(0:Int)))))))).bind fun (p_1:Bool) =>
  some p_1
def jT (F:Nat) (s_1:List Int) (rec:Int→Option (Unit⊕Int)) (v_1:Int):Option (Unit⊕Int) :=
  (bif decide (v_1<(((s_1).length:Nat):Int)) then (y2 s_1 v_1).bind fun c_1=>(zAL c_1).bind fun r_1 =>
  (bif !r_1 then some (.inr (3:Int)) else
  rec (zI (v_1+(1:Int)))) else
  some (.inl ()))
def zAg (F:Nat) (s_1:List Int):Nat→Int→Option (Unit⊕Int)
  | 0,_=>none
  | n+1,v_1=>jT F s_1 (zAg F s_1 n) v_1
def j7 (F:Nat) (s_1:List Int):Option Int :=
  (bif ((s_1==([]:List Int))||decide ((((s_1).length:Nat):Int)>(40:Int))) then some (3:Int) else
  (zAg F s_1 F (0:Int)).bind fun (o_1:Unit⊕Int) =>
  (match o_1 with
  | (.inl q_1) =>
  some (0:Int)
  | (.inr q_2) =>
  some q_2))
def kM (F:Nat) (t_1:yQ):Option Int :=
  (bif (decide (t_1.Id<(0:Int))||(decide (t_1.Id>(1000000000000000:Int))||(decide (t_1.Domain<(0:Int))||decide (t_1.Domain≥(8:Int))))) then some (2:Int) else
  (j7 F t_1.Name).bind fun r_1 =>
  some r_1)
structure zO where
  c0:Int
  c1:Int
  deriving DecidableEq,Inhabited
def zIB (s:zO):List AV:=[.int .i64 s.c0,.int .i64 s.c1]
def zA (s:zO):AV:=.agg (zIB s)
structure zW where
  Policy:Int
  Data:List (Int)
  Start:Int
  End:Int
  First:Int
  Next:Int
  deriving DecidableEq,Inhabited
def zU (s:zW):List AV:=[.int .i64 s.Policy,.sl false 1 (List.map (AV.int .u8) s.Data),.int .i64 s.Start,.int .i64 s.End,.int .i64 s.First,.int .i64 s.Next]
def z0 (s:zW):AV:=.agg (zU s)
structure zK where
  Thread:yQ
  Names:List (List Int)
  Stacks:List (zO)
  Ring:zW
  Last:Int
  Sent:Int
  deriving DecidableEq,Inhabited
def zC (s:zK):List AV:=[.int .i64 s.Thread.Id,.str s.Thread.Name,.int .i64 s.Thread.Domain,.sl false 1 (List.map AV.str s.Names),.sl false 2 (List.map zA s.Stacks),.int .i64 s.Ring.Policy,.sl false 1 (List.map (AV.int .u8) s.Ring.Data),.int .i64 s.Ring.Start,.int .i64 s.Ring.End,.int .i64 s.Ring.First,.int .i64 s.Ring.Next,.int .i64 s.Last,.int .i64 s.Sent]
def zN (s:zK):AV:=.agg (zC s)
def zIh (yJ:Int) (p_1:Int):Option (zW×Int) :=
  (bif (decide (yJ<(16:Int))||decide (yJ>(65536:Int))) then some ((⟨(0:Int),[],(0:Int),(0:Int),(0:Int),(0:Int)⟩:zW),(2:Int)) else
  (bif ((p_1 != (1:Int))&&(p_1 != (2:Int))) then some ((⟨(0:Int),[],(0:Int),(0:Int),(0:Int),(0:Int)⟩:zW),(1:Int)) else
  (need ((0:Int)≤yJ∧((yJ).toNat) * 1≤281474976710656)).bind fun _ =>
  some ((⟨p_1,(List.replicate ((yJ).toNat) (0:Int)),(0:Int),(0:Int),(0:Int),(0:Int)⟩:zW),(0:Int))))
def zCM (F:Nat) (t_1:yQ) (yJ:Int) (p_1:Int):Option (zK×Int) :=
  (kM F t_1).bind fun r_1 =>
  (bif (r_1 != (0:Int)) then some ((⟨(⟨(0:Int),([]:List Int),(0:Int)⟩:yQ),[],[],(⟨(0:Int),[],(0:Int),(0:Int),(0:Int),(0:Int)⟩:zW),(0:Int),(0:Int)⟩:zK),r_1) else
  (zIh yJ p_1).bind fun r_2 =>
  (bif (r_2.2 != (0:Int)) then some ((⟨(⟨(0:Int),([]:List Int),(0:Int)⟩:yQ),[],[],(⟨(0:Int),[],(0:Int),(0:Int),(0:Int),(0:Int)⟩:zW),(0:Int),(0:Int)⟩:zK),r_2.2) else
  some ((⟨t_1,[],[],r_2.1,(0:Int),(0:Int)⟩:zK),(0:Int))))
structure zL where
  At:Int
  Kind:Int
  Name:List Int
  N:Int
  M:Int
  Stack:List (List Int)
  deriving DecidableEq,Inhabited
def zJ (s:zL):List AV:=[.int .i64 s.At,.int .i64 s.Kind,.str s.Name,.int .i64 s.N,.int .i64 s.M,.sl false 1 (List.map AV.str s.Stack)]
def zH (s:zL):AV:=.agg (zJ s)
def zDj (yA:Int):Option zL :=
  some (⟨yA,(3:Int),([97]:List Int),(0:Int),(0:Int),[]⟩:zL)
def vJ (F:Nat) (zE:List (List Int)) (rec:Int→(List ((List Int)×Bool))→Option (Unit⊕Int)) (v_1:Int) (zM:List ((List Int)×Bool)):Option (Unit⊕Int) :=
  (bif decide (v_1<(((zE).length:Nat):Int)) then (y2 zE v_1).bind fun x_1 =>
  (j7 F x_1).bind fun r_1 =>
  (bif (r_1 != (0:Int)) then some (.inr r_1) else
  (bif ((q8 zM x_1).getD false) then some (.inr (4:Int)) else
  (need ((zM).length<140737488355328)).bind fun _ =>
  rec (zI (v_1+(1:Int))) (jO zM x_1 true))) else
  some (.inl ()))
def tK (F:Nat) (zE:List (List Int)):Nat→Int→(List ((List Int)×Bool))→Option (Unit⊕Int)
  | 0,_,_=>none
  | n+1,v_1,zM=>vJ F zE (tK F zE n) v_1 zM
def pB (F:Nat) (zE:List (List Int)):Option Int :=
  (tK F zE F (0:Int) []).bind fun (o_1:Unit⊕Int) =>
  (match o_1 with
  | (.inl q_1) =>
  some (0:Int)
  | (.inr q_2) =>
  some q_2)
def jF (F:Nat) (zE:List (List Int)) (zD:List (zO)) (rec:Int→(List (zO×Bool))→(List Int)→Option (Unit⊕Int)) (v_1:Int) (zM:List (zO×Bool)) (x3:List Int):Option (Unit⊕Int) :=
  (bif decide (v_1<(((zD).length:Nat):Int)) then (y2 zD v_1).bind fun x_1 =>
  (bif (decide (x_1.c0<(-1:Int))||(decide (x_1.c0≥v_1)||(decide (x_1.c1<(0:Int))||decide (x_1.c1≥(((zE).length:Nat):Int))))) then some (.inr (2:Int)) else
  (bif ((q8 zM x_1).getD false) then some (.inr (4:Int)) else
  (need ((zM).length<140737488355328)).bind fun _ =>
  (y2 x3 v_1).bind fun x_2 =>
  (((bif (x_1.c0 != (-1:Int)) then (y2 ((x3).set ((v_1).toNat) (1:Int)) v_1).bind fun x_3=>(y2 ((x3).set ((v_1).toNat) (1:Int)) x_1.c0).bind fun x_4=>(y2 ((x3).set ((v_1).toNat) (1:Int)) v_1).bind fun x_5 =>
  some (((x3).set ((v_1).toNat) (1:Int)).set ((v_1).toNat) (zI (x_3+x_4))) else
  some ((x3).set ((v_1).toNat) (1:Int))):Option (List Int))).bind fun (o_2:(List Int)) =>
  (y2 o_2 v_1).bind fun x_6 =>
  (bif decide (x_6>(32:Int)) then some (.inr (7:Int)) else
  rec (zI (v_1+(1:Int))) (jO zM x_1 true) o_2))) else
  some (.inl ()))
def kO (F:Nat) (zE:List (List Int)) (zD:List (zO)):Nat→Int→(List (zO×Bool))→(List Int)→Option (Unit⊕Int)
  | 0,_,_,_=>none
  | n+1,v_1,zM,x3=>jF F zE zD (kO F zE zD n) v_1 zM x3
def kC (F:Nat) (zE:List (List Int)) (zD:List (zO)):Option Int :=
  (bif (decide ((((zE).length:Nat):Int)>(1000:Int))||decide ((((zD).length:Nat):Int)>(1000:Int))) then some (7:Int) else
  (pB F zE).bind fun r_1 =>
  (bif (r_1 != (0:Int)) then some r_1 else
  (need (((zD).length) * 8≤281474976710656)).bind fun _ =>
  (kO F zE zD F (0:Int) [] (List.replicate ((zD).length) (0:Int))).bind fun (o_1:Unit⊕Int) =>
  (match o_1 with
  | (.inl q_1) =>
  some (0:Int)
  | (.inr q_2) =>
  some q_2)))
def zAN (r_1:zW):Option (List (Int)) :=
  (need ((0:Int)≤(zI (r_1.End - r_1.Start))∧((zI (r_1.End - r_1.Start)).toNat) * 1≤281474976710656)).bind fun _ =>
  (need ((((r_1.Data).length:Nat):Int)≠(0:Int))).bind fun _ =>
  (need ((0:Int)≤(yM r_1.Start (((r_1.Data).length:Nat):Int))∧(yM r_1.Start (((r_1.Data).length:Nat):Int))≤(((r_1.Data).length:Nat):Int))).bind fun _=>(need (0≤((zI (r_1.End - r_1.Start)).toNat)∧((zI (r_1.End - r_1.Start)).toNat)≤((List.replicate ((zI (r_1.End - r_1.Start)).toNat) (0:Int))).length)).bind fun _ =>
  (need ((((min (sub r_1.Data (yM r_1.Start (((r_1.Data).length:Nat):Int)) (((r_1.Data).length:Nat):Int)).length ((zI (r_1.End - r_1.Start)).toNat - 0)):Nat):Int)≤(((zI (r_1.End - r_1.Start)).toNat:Nat):Int))).bind fun _=>(need ((min (sub r_1.Data (yM r_1.Start (((r_1.Data).length:Nat):Int)) (((r_1.Data).length:Nat):Int)).length ((zI (r_1.End - r_1.Start)).toNat - 0))≤((zI (r_1.End - r_1.Start)).toNat)∧((zI (r_1.End - r_1.Start)).toNat)≤((cpy (List.replicate ((zI (r_1.End - r_1.Start)).toNat) (0:Int)) 0 ((zI (r_1.End - r_1.Start)).toNat) (sub r_1.Data (yM r_1.Start (((r_1.Data).length:Nat):Int)) (((r_1.Data).length:Nat):Int)))).length)).bind fun _ =>
  some (cpy (cpy (List.replicate ((zI (r_1.End - r_1.Start)).toNat) (0:Int)) 0 ((zI (r_1.End - r_1.Start)).toNat) (sub r_1.Data (yM r_1.Start (((r_1.Data).length:Nat):Int)) (((r_1.Data).length:Nat):Int))) (min (sub r_1.Data (yM r_1.Start (((r_1.Data).length:Nat):Int)) (((r_1.Data).length:Nat):Int)).length ((zI (r_1.End - r_1.Start)).toNat - 0)) ((zI (r_1.End - r_1.Start)).toNat) r_1.Data)
def zAQ (u_1:Int):Option Int :=
  some (zCw .i64 (zI (zA0 .u64 u_1 (1:Int))) (zI (0 - (zI (uK .u64 u_1 (1:Int))))))
def pE (F:Nat) (b_1:List (Int)) (rec:Int→Int→Option (Unit⊕(Int×Int×Int))) (u_1:Int) (v_1:Int):Option (Unit⊕(Int×Int×Int)) :=
  (bif decide (v_1<(((b_1).length:Nat):Int)) then (y2 b_1 v_1).bind fun x_1 =>
  (bif ((v_1==(9:Int))&&decide (x_1>(1:Int))) then some (.inr ((0:Int),(0:Int),(10:Int))) else
  (need ((0:Int)≤(zI ((7:Int) * v_1)))).bind fun _ =>
  (bif decide (x_1≥(128:Int)) then rec (ior .u64 u_1 (nQ .u64 (yN (uK .u8 x_1 (127:Int))) (zI ((7:Int) * v_1)))) (zI (v_1+(1:Int))) else
  (bif ((x_1==(0:Int))&&decide (v_1>(0:Int))) then some (.inr ((0:Int),(0:Int),(10:Int))) else
  (zAQ (ior .u64 u_1 (nQ .u64 (yN (uK .u8 x_1 (127:Int))) (zI ((7:Int) * v_1))))).bind fun r_1 =>
  some (.inr (r_1,zI (v_1+(1:Int)),(0:Int)))))) else
  some (.inl ()))
def pM (F:Nat) (b_1:List (Int)):Nat→Int→Int→Option (Unit⊕(Int×Int×Int))
  | 0,_,_=>none
  | n+1,u_1,v_1=>pE F b_1 (pM F b_1 n) u_1 v_1
def zCE (F:Nat) (b_1:List (Int)):Option (Int×Int×Int) :=
  (pM F b_1 F (0:Int) (0:Int)).bind fun (o_1:Unit⊕(Int×Int×Int)) =>
  (match o_1 with
  | (.inl q_1) =>
  some ((0:Int),(0:Int),(8:Int))
  | (.inr q_2) =>
  some q_2)
def kH (F:Nat) (rec:(List Int)→(List (List (Int)))→Option ((List (List (Int)))⊕((List (List (Int)))×Bool))) (b_2:List Int) (zM:List (List (Int))):Option ((List (List (Int)))⊕((List (List (Int)))×Bool)) :=
  (bif decide ((((b_2).length:Nat):Int)>(0:Int)) then (zCE F b_2).bind fun r_1 =>
  (bif ((r_1.2.2 != (0:Int))||(decide (r_1.1<(0:Int))||(decide (r_1.1>(2000:Int))||decide ((zI (r_1.2.1+r_1.1))>(((b_2).length:Nat):Int))))) then some (.inr ([],false)) else
  (need ((0:Int)≤r_1.2.1∧r_1.2.1≤(zI (r_1.2.1+r_1.1))∧(zI (r_1.2.1+r_1.1))≤(((b_2).length:Nat):Int))).bind fun _=>(need (((zM).length+(([sub b_2 r_1.2.1 (zI (r_1.2.1+r_1.1))]:List (List (Int)))).length) * 24≤140737488355328)).bind fun _ =>
  (need ((0:Int)≤(zI (r_1.2.1+r_1.1))∧(zI (r_1.2.1+r_1.1))≤(((b_2).length:Nat):Int))).bind fun _ =>
  rec (sub b_2 (zI (r_1.2.1+r_1.1)) (((b_2).length:Nat):Int)) (zM++([sub b_2 r_1.2.1 (zI (r_1.2.1+r_1.1))]:List (List (Int))))) else
  some (.inl zM))
def zAP (F:Nat):Nat→(List Int)→(List (List (Int)))→Option ((List (List (Int)))⊕((List (List (Int)))×Bool))
  | 0,_,_=>none
  | n+1,b_2,zM=>kH F (zAP F n) b_2 zM
def zCP (F:Nat) (b_1:List (Int)):Option ((List (List (Int)))×Bool) :=
  (zAP F F b_1 []).bind fun (o_1:(List (List (Int)))⊕((List (List (Int)))×Bool)) =>
  (match o_1 with
  | (.inl q_1) =>
  some (q_1,true)
  | (.inr q_2) =>
  some q_2)
def zBl (F:Nat) (r_1:zW):Option ((List (List (Int)))×Int) :=
  (((bif ((r_1.Policy != (1:Int))&&(r_1.Policy != (2:Int))) then some (.inr ([],(1:Int))) else
  (bif (decide ((((r_1.Data).length:Nat):Int)<(16:Int))||decide ((((r_1.Data).length:Nat):Int)>(65536:Int))) then some (.inr ([],(2:Int))) else
  (bif decide (r_1.Start<(0:Int)) then some (.inr ([],(2:Int))) else
  (bif decide (r_1.End<r_1.Start) then some (.inr ([],(2:Int))) else
  (bif decide (r_1.End>(1000000000000000:Int)) then some (.inr ([],(2:Int))) else
  (bif decide ((zI (r_1.End - r_1.Start))>(((r_1.Data).length:Nat):Int)) then some (.inr ([],(2:Int))) else
  (bif decide (r_1.First<(0:Int)) then some (.inr ([],(2:Int))) else
  (bif decide (r_1.Next<r_1.First) then some (.inr ([],(2:Int))) else
  (bif decide (r_1.Next>(1000000000000000:Int)) then some (.inr ([],(2:Int))) else
  some (.inl ())))))))))):Option (Unit⊕((List (List (Int)))×Int)))).bind fun (o_1:Unit⊕((List (List (Int)))×Int)) =>
  (match o_1 with
  | (.inl q_1) =>
  (zAN r_1).bind fun r_2=>(zCP F r_2).bind fun r_3 =>
  (bif (!r_3.2||((((r_3.1).length:Nat):Int) != (zI (r_1.Next - r_1.First)))) then some ([],(10:Int)) else
  some (r_3.1,(0:Int)))
  | (.inr q_2) =>
  some q_2)
def zCY (F:Nat) (r_1:zW):Option Int :=
  (zBl F r_1).bind fun r_2 =>
  some r_2.2
def zCF (F:Nat) (r_1:zW):Option ((List (List (Int)))×zW) :=
  (zBl F r_1).bind fun r_2 =>
  (bif (r_2.2 != (0:Int)) then some ([],r_1) else
  some (r_2.1,(⟨r_1.Policy,r_1.Data,r_1.End,r_1.End,r_1.Next,r_1.Next⟩:zW)))
structure xJ where
  b:List (Int)
  used:Int
  fault:Int
  deriving DecidableEq,Inhabited
def yV (s:xJ):List AV:=[.sl false 1 (List.map (AV.int .u8) s.b),.int .i64 s.used,.int .i64 s.fault]
def wZ (F:Nat) (x_1:xJ):Option (Int×xJ) :=
  (bif (x_1.fault != (0:Int)) then some ((0:Int),x_1) else
  (need ((0:Int)≤x_1.used∧x_1.used≤(((x_1.b).length:Nat):Int))).bind fun _=>(zCE F (sub x_1.b x_1.used (((x_1.b).length:Nat):Int))).bind fun r_1 =>
  some (r_1.1,(⟨x_1.b,zI (x_1.used+r_1.2.1),r_1.2.2⟩:xJ)))
def zCj (k_1:Int):Option (Bool×Bool×Bool×Bool) :=
  some (((k_1==(1:Int))||((k_1==(3:Int))||(k_1==(4:Int)))),decide (k_1≥(4:Int)),((k_1==(9:Int))||(k_1==(11:Int))),((k_1==(5:Int))||(k_1==(11:Int))))
def w6 (F:Nat) (rec:Int→Int→(List (List Int))→Option (List (List Int))) (i_1:Int) (j_1:Int) (zM:List (List Int)):Option (List (List Int)) :=
  (bif decide (i_1<j_1) then (y2 zM j_1).bind fun x_1=>(y2 zM i_1).bind fun x_2=>(y2 zM i_1).bind fun x_3=>(y2 ((zM).set ((i_1).toNat) x_1) j_1).bind fun x_4 =>
  rec (zI (i_1+(1:Int))) (zI (j_1 - (1:Int))) (((zM).set ((i_1).toNat) x_1).set ((j_1).toNat) x_2) else
  some zM)
def w5 (F:Nat):Nat→Int→Int→(List (List Int))→Option (List (List Int))
  | 0,_,_,_=>none
  | n+1,i_1,j_1,zM=>w6 F (w5 F n) i_1 j_1 zM
def uD (F:Nat) (s_1:List (List Int)):Option (List (List Int)) :=
  (w5 F F (0:Int) (zI ((((s_1).length:Nat):Int) - (1:Int))) s_1).bind fun (o_1:(List (List Int))) =>
  some o_1
def uL (F:Nat) (zE:List (List Int)) (zD:List (zO)) (rec:Int→(List (List Int))→Option (List (List Int))) (i_2:Int) (zM:List (List Int)):Option (List (List Int)) :=
  (bif (i_2 != (-1:Int)) then (y2 zD i_2).bind fun x_1=>(y2 zE x_1.c1).bind fun x_2=>(need (((zM).length+(([x_2]:List (List Int))).length) * 16≤140737488355328)).bind fun _ =>
  (y2 zD i_2).bind fun x_3 =>
  rec x_3.c0 (zM++([x_2]:List (List Int))) else
  some zM)
def nC (F:Nat) (zE:List (List Int)) (zD:List (zO)):Nat→Int→(List (List Int))→Option (List (List Int))
  | 0,_,_=>none
  | n+1,i_2,zM=>uL F zE zD (nC F zE zD n) i_2 zM
def n5 (F:Nat) (zE:List (List Int)) (zD:List (zO)) (i_1:Int):Option ((List (List Int))×Int) :=
  (kC F zE zD).bind fun r_1 =>
  (bif (r_1 != (0:Int)) then some ([],(1:Int)) else
  (bif (decide (i_1<(-1:Int))||decide (i_1≥(((zD).length:Nat):Int))) then some ([],(2:Int)) else
  (nC F zE zD F i_1 []).bind fun (o_1:(List (List Int))) =>
  (uD F o_1).bind fun r_2=>(need ((r_2).length=(o_1).length)).bind fun _ =>
  some (r_2,(0:Int))))
structure yL where
  word:List Int
  name:Bool
  n:Bool
  m:Bool
  stack:Bool
  least:Int
  most:Int
  mLeast:Int
  mMost:Int
  deriving DecidableEq,Inhabited
def yS (s:yL):List AV:=[.str s.word,.bool s.name,.bool s.n,.bool s.m,.bool s.stack,.int .i64 s.least,.int .i64 s.most,.int .i64 s.mLeast,.int .i64 s.mMost]
def x8 (s:yL):AV:=.agg (yS s)
def zAW:Option (List (yL)) :=
  some ([(⟨([]:List Int),false,false,false,false,(0:Int),(0:Int),(0:Int),(0:Int)⟩:yL),(⟨([98,101,103,105,110]:List Int),true,false,false,false,(0:Int),(0:Int),(0:Int),(0:Int)⟩:yL),(⟨([101,110,100]:List Int),false,false,false,false,(0:Int),(0:Int),(0:Int),(0:Int)⟩:yL),(⟨([109,97,114,107]:List Int),true,false,false,false,(0:Int),(0:Int),(0:Int),(0:Int)⟩:yL),(⟨([99,111,117,110,116]:List Int),true,true,false,false,(-1000000000000000:Int),(1000000000000000:Int),(0:Int),(0:Int)⟩:yL),(⟨([115,97,109,112,108,101]:List Int),false,true,false,true,(1:Int),(1000000000000:Int),(0:Int),(0:Int)⟩:yL),(⟨([115,101,110,100]:List Int),false,true,false,false,(0:Int),(1000000000000000:Int),(0:Int),(0:Int)⟩:yL),(⟨([114,101,99,118]:List Int),false,true,false,false,(0:Int),(1000000000000000:Int),(0:Int),(0:Int)⟩:yL),(⟨([114,117,110]:List Int),false,true,false,false,(0:Int),(63:Int),(0:Int),(0:Int)⟩:yL),(⟨([115,116,111,112]:List Int),false,true,true,false,(0:Int),(3:Int),(0:Int),(1000000000000000:Int)⟩:yL),(⟨([119,97,107,101]:List Int),false,true,false,false,(0:Int),(1000000000000000:Int),(0:Int),(0:Int)⟩:yL),(⟨([97,108,108,111,99]:List Int),false,true,true,true,(0:Int),(1000000000000000:Int),(1:Int),(1000000000000:Int)⟩:yL),(⟨([102,114,101,101]:List Int),false,true,false,false,(0:Int),(1000000000000000:Int),(0:Int),(0:Int)⟩:yL)]:List yL)
def zA8 (k_1:Int):Option (yL×Bool) :=
  (zAW ).bind fun r_1 =>
  (bif (decide (k_1<(1:Int))||decide (k_1≥(((r_1).length:Nat):Int))) then some ((⟨([]:List Int),false,false,false,false,(0:Int),(0:Int),(0:Int),(0:Int)⟩:yL),false) else
  (y2 r_1 k_1).bind fun x_1 =>
  some (x_1,true))
def qW (F:Nat) (l_1:List (List Int)) (rec:Int→Option (Unit⊕Int)) (v_1:Int):Option (Unit⊕Int) :=
  (bif decide (v_1<(((l_1).length:Nat):Int)) then (y2 l_1 v_1).bind fun x_1 =>
  (j7 F x_1).bind fun r_1 =>
  (bif (r_1 != (0:Int)) then some (.inr r_1) else
  rec (zI (v_1+(1:Int)))) else
  some (.inl ()))
def pW (F:Nat) (l_1:List (List Int)):Nat→Int→Option (Unit⊕Int)
  | 0,_=>none
  | n+1,v_1=>qW F l_1 (pW F l_1 n) v_1
def nA (F:Nat) (l_1:List (List Int)):Option Int :=
  (bif decide ((((l_1).length:Nat):Int)>(32:Int)) then some (7:Int) else
  (pW F l_1 F (0:Int)).bind fun (o_1:Unit⊕Int) =>
  (match o_1 with
  | (.inl q_1) =>
  some (0:Int)
  | (.inr q_2) =>
  some q_2))
def zCh (F:Nat) (f_1:yL) (e_1:zL):Option Int :=
  (bif f_1.name then (j7 F e_1.Name).bind fun r_1 =>
  some r_1 else
  (nA F e_1.Stack).bind fun r_2 =>
  some r_2)
def pG (F:Nat) (e_1:zL):Option Int :=
  (bif (decide (e_1.At<(0:Int))||decide (e_1.At>(1000000000000:Int))) then some (2:Int) else
  (zA8 e_1.Kind).bind fun r_1 =>
  ((bif !r_1.2 then (some true) else (bif !r_1.1.name then (bif !(e_1.Name==([]:List Int)) then (some true) else (bif !r_1.1.n then (bif (e_1.N != (0:Int)) then (some true) else (bif !r_1.1.m then (bif (e_1.M != (0:Int)) then (some true) else (bif !r_1.1.stack then (some (decide ((((e_1.Stack).length:Nat):Int)>(0:Int)))) else (some false))) else (bif !r_1.1.stack then (some (decide ((((e_1.Stack).length:Nat):Int)>(0:Int)))) else (some false)))) else (bif !r_1.1.m then (bif (e_1.M != (0:Int)) then (some true) else (bif !r_1.1.stack then (some (decide ((((e_1.Stack).length:Nat):Int)>(0:Int)))) else (some false))) else (bif !r_1.1.stack then (some (decide ((((e_1.Stack).length:Nat):Int)>(0:Int)))) else (some false))))) else (bif !r_1.1.n then (bif (e_1.N != (0:Int)) then (some true) else (bif !r_1.1.m then (bif (e_1.M != (0:Int)) then (some true) else (bif !r_1.1.stack then (some (decide ((((e_1.Stack).length:Nat):Int)>(0:Int)))) else (some false))) else (bif !r_1.1.stack then (some (decide ((((e_1.Stack).length:Nat):Int)>(0:Int)))) else (some false)))) else (bif !r_1.1.m then (bif (e_1.M != (0:Int)) then (some true) else (bif !r_1.1.stack then (some (decide ((((e_1.Stack).length:Nat):Int)>(0:Int)))) else (some false))) else (bif !r_1.1.stack then (some (decide ((((e_1.Stack).length:Nat):Int)>(0:Int)))) else (some false))))))).bind fun (p_1:Bool) =>
  (bif p_1 then some (1:Int) else
  (zCh F r_1.1 e_1).bind fun r_2 =>
  (bif (r_2 != (0:Int)) then some r_2 else
  (bif (r_1.1.n&&(decide (e_1.N<r_1.1.least)||decide (e_1.N>r_1.1.most))) then some (2:Int) else
  (bif ((e_1.Kind==(9:Int))&&((e_1.N != (2:Int))&&(e_1.M != (0:Int)))) then some (1:Int) else
  (bif (r_1.1.m&&(bif decide (e_1.M<r_1.1.mLeast) then ((e_1.Kind != (9:Int))||(e_1.N==(2:Int))) else (decide (e_1.M>r_1.1.mMost)&&((e_1.Kind != (9:Int))||(e_1.N==(2:Int)))))) then some (2:Int) else
  some (0:Int)))))))
def zAM (F:Nat) (zE:List (List Int)) (zD:List (zO)) (b_1:List (Int)):Option (zL×Int×Int) :=
  (kC F zE zD).bind fun r_1 =>
  (bif (r_1 != (0:Int)) then some ((⟨(0:Int),(0:Int),([]:List Int),(0:Int),(0:Int),[]⟩:zL),(0:Int),(1:Int)) else
  (wZ F (⟨b_1,(0:Int),(0:Int)⟩:xJ)).bind fun r_2 =>
  (wZ F r_2.2).bind fun r_3 =>
  (((bif ((r_3.2.fault==(0:Int))&&(decide (r_2.1<(1:Int))||decide (r_2.1>(12:Int)))) then some (10:Int) else
  some r_3.2.fault):Option Int)).bind fun (o_1:Int) =>
  (zCj r_2.1).bind fun r_4 =>
  (((bif r_4.1 then (wZ F (⟨r_3.2.b,r_3.2.used,o_1⟩:xJ)).bind fun r_5 =>
  some (r_5.1,r_5.2.b,r_5.2.used,r_5.2.fault) else
  some ((0:Int),r_3.2.b,r_3.2.used,o_1)):Option (Int×(List Int)×Int×Int))).bind fun (o_2:(Int×(List Int)×Int×Int)) =>
  (((bif r_4.2.1 then (wZ F (⟨o_2.2.1,o_2.2.2.1,o_2.2.2.2⟩:xJ)).bind fun r_6 =>
  some (r_6.2.b,r_6.2.used,r_6.2.fault,r_6.1) else
  some (o_2.2.1,o_2.2.2.1,o_2.2.2.2,(0:Int))):Option ((List Int)×Int×Int×Int))).bind fun (o_3:((List Int)×Int×Int×Int)) =>
  (((bif r_4.2.2.1 then (wZ F (⟨o_3.1,o_3.2.1,o_3.2.2.1⟩:xJ)).bind fun r_7 =>
  some (r_7.2.b,r_7.2.used,r_7.2.fault,r_7.1) else
  some (o_3.1,o_3.2.1,o_3.2.2.1,(0:Int))):Option ((List Int)×Int×Int×Int))).bind fun (o_4:((List Int)×Int×Int×Int)) =>
  (((bif r_4.2.2.2 then (wZ F (⟨o_4.1,o_4.2.1,o_4.2.2.1⟩:xJ)).bind fun r_8 =>
  some (r_8.1,r_8.2.b,r_8.2.used,r_8.2.fault) else
  some ((-1:Int),o_4.1,o_4.2.1,o_4.2.2.1)):Option (Int×(List Int)×Int×Int))).bind fun (o_5:(Int×(List Int)×Int×Int)) =>
  (((bif (o_5.2.2.2 != (0:Int)) then some (.inr ((⟨(0:Int),(0:Int),([]:List Int),(0:Int),(0:Int),[]⟩:zL),(0:Int),o_5.2.2.2)) else
  (bif (r_4.1&&(decide (o_2.1<(0:Int))||decide (o_2.1≥(((zE).length:Nat):Int)))) then some (.inr ((⟨(0:Int),(0:Int),([]:List Int),(0:Int),(0:Int),[]⟩:zL),(0:Int),(2:Int))) else
  (bif (decide (o_5.1<(-1:Int))||decide (o_5.1≥(((zD).length:Nat):Int))) then some (.inr ((⟨(0:Int),(0:Int),([]:List Int),(0:Int),(0:Int),[]⟩:zL),(0:Int),(2:Int))) else
  some (.inl ())))):Option (Unit⊕(zL×Int×Int)))).bind fun (o_6:Unit⊕(zL×Int×Int)) =>
  (match o_6 with
  | (.inl q_1) =>
  (((bif r_4.1 then (y2 zE o_2.1).bind fun x_1 =>
  some x_1 else
  some ([]:List Int)):Option (List Int))).bind fun (o_7:(List Int)) =>
  (n5 F zE zD o_5.1).bind fun r_9 =>
  (pG F (⟨r_3.1,r_2.1,o_7,o_3.2.2.2,o_4.2.2.2,r_9.1⟩:zL)).bind fun yZ =>
  (bif (yZ != (0:Int)) then some ((⟨(0:Int),(0:Int),([]:List Int),(0:Int),(0:Int),[]⟩:zL),(0:Int),(10:Int)) else
  some ((⟨r_3.1,r_2.1,o_7,o_3.2.2.2,o_4.2.2.2,r_9.1⟩:zL),o_5.2.2.1,(0:Int)))
  | (.inr q_2) =>
  some q_2))
def tS (F:Nat) (p_1:zK) (r_1:(List (List (Int)))×zW) (rec:Int→(List zL)→Option ((List zL)⊕((List (zL))×Bool))) (v_1:Int) (zM:List zL):Option ((List zL)⊕((List (zL))×Bool)) :=
  (bif decide (v_1<(((r_1.1).length:Nat):Int)) then (y2 r_1.1 v_1).bind fun x_1 =>
  (zAM F p_1.Names p_1.Stacks x_1).bind fun r_2 =>
  (bif ((r_2.2.2 != (0:Int))||(r_2.2.1 != (((x_1).length:Nat):Int))) then some (.inr ([],false)) else
  (need (((zM).length+(([r_2.1]:List zL)).length) * 72≤140737488355328)).bind fun _ =>
  rec (zI (v_1+(1:Int))) (zM++([r_2.1]:List zL))) else
  some (.inl zM))
def kI (F:Nat) (p_1:zK) (r_1:(List (List (Int)))×zW):Nat→Int→(List zL)→Option ((List zL)⊕((List (zL))×Bool))
  | 0,_,_=>none
  | n+1,v_1,zM=>tS F p_1 r_1 (kI F p_1 r_1 n) v_1 zM
def nK (F:Nat) (p_1:zK):Option ((List (zL))×Bool) :=
  (zCF F p_1.Ring).bind fun r_1 =>
  (kI F p_1 r_1 F (0:Int) []).bind fun (o_1:(List zL)⊕((List (zL))×Bool)) =>
  (match o_1 with
  | (.inl q_1) =>
  some (q_1,true)
  | (.inr q_2) =>
  some q_2)
def tH (F:Nat) (r_4:(List (zL))×Bool) (rec:Bool→Int→Int→Option (Bool×Int)) (zAD:Bool) (tT:Int) (v_1:Int):Option (Bool×Int) :=
  (bif decide (v_1<(((r_4.1).length:Nat):Int)) then (y2 r_4.1 v_1).bind fun x_1 =>
  rec (zAD&&decide (x_1.At≥tT)) x_1.At (zI (v_1+(1:Int))) else
  some (zAD,tT))
def qB (F:Nat) (r_4:(List (zL))×Bool):Nat→Bool→Int→Int→Option (Bool×Int)
  | 0,_,_,_=>none
  | n+1,zAD,tT,v_1=>tH F r_4 (qB F r_4 n) zAD tT v_1
def j5 (F:Nat) (p_1:zK):Option ((List (zL))×Int) :=
  (kM F p_1.Thread).bind fun r_1 =>
  (bif (r_1 != (0:Int)) then some ([],r_1) else
  (kC F p_1.Names p_1.Stacks).bind fun r_2 =>
  (bif (r_2 != (0:Int)) then some ([],r_2) else
  (zCY F p_1.Ring).bind fun r_3 =>
  (bif (r_3 != (0:Int)) then some ([],r_3) else
  (bif (decide (p_1.Sent<(0:Int))||(decide (p_1.Sent>p_1.Ring.First)||(decide (p_1.Last<(0:Int))||decide (p_1.Last>(1000000000000:Int))))) then some ([],(2:Int)) else
  (nK F p_1).bind fun r_4 =>
  (qB F r_4 F r_4.2 (0:Int) (0:Int)).bind fun (o_1:(Bool×Int)) =>
  (bif (!o_1.1||decide (o_1.2>p_1.Last)) then some ([],(10:Int)) else
  some (r_4.1,(0:Int)))))))
def jZ (F:Nat) (p_1:zK):Option Int :=
  (j5 F p_1).bind fun r_1 =>
  some r_1.2
def zBf (n_1:Int):Option Int :=
  some (zCw .u64 (nQ .u64 (yN n_1) (1:Int)) (yN (zA0 .i64 n_1 (63:Int))))
def uO (F:Nat) (rec:Int→Int→(List Int)→Option (Int×(List Int))) (yJ:Int) (u_1:Int) (zM:List Int):Option (Int×(List Int)) :=
  (need ((0:Int)≤yJ∧yJ<((10:Nat):Int))).bind fun _=>((zM)[(yJ).toNat]?).bind fun x_1 =>
  (bif decide (u_1<(128:Int)) then some (zI (yJ+(1:Int)),(zM).set ((yJ).toNat) (wH (uK .u64 u_1 (127:Int)))) else
  (need ((0:Int)≤(zI ((zI (yJ+(1:Int))) - (1:Int)))∧(zI ((zI (yJ+(1:Int))) - (1:Int)))<((10:Nat):Int))).bind fun _=>(((zM).set ((yJ).toNat) (wH (uK .u64 u_1 (127:Int))))[(zI ((zI (yJ+(1:Int))) - (1:Int))).toNat]?).bind fun x_2=>(need ((0:Int)≤(zI ((zI (yJ+(1:Int))) - (1:Int)))∧(zI ((zI (yJ+(1:Int))) - (1:Int)))<((10:Nat):Int))).bind fun _=>(((zM).set ((yJ).toNat) (wH (uK .u64 u_1 (127:Int))))[(zI ((zI (yJ+(1:Int))) - (1:Int))).toNat]?).bind fun x_3 =>
  rec (zI (yJ+(1:Int))) (zA0 .u64 u_1 (7:Int)) (((zM).set ((yJ).toNat) (wH (uK .u64 u_1 (127:Int)))).set ((zI ((zI (yJ+(1:Int))) - (1:Int))).toNat) (ior .u8 x_2 (128:Int))))
def t7 (F:Nat):Nat→Int→Int→(List Int)→Option (Int×(List Int))
  | 0,_,_,_=>none
  | n+1,yJ,u_1,zM=>uO F (t7 F n) yJ u_1 zM
def wU (F:Nat) (b_1:List (Int)) (n_1:Int):Option (List (Int)) :=
  (zBf n_1).bind fun r_1 =>
  (t7 F F (0:Int) r_1 (List.replicate 10 (0:Int))).bind fun (o_1:(Int×(List Int))) =>
  (need ((0:Int)≤o_1.1∧o_1.1≤((10:Nat):Int)∧10≤(o_1.2).length)).bind fun _=>(need (0≤((o_1.1).toNat)∧((o_1.1).toNat)≤(o_1.2).length)).bind fun _=>(need (((sub b_1 (0:Int) (((b_1).length:Nat):Int)).length+(((o_1.2).take ((o_1.1).toNat)).drop 0).length) * 1≤140737488355328)).bind fun _=>(need (0<(((o_1.2).take ((o_1.1).toNat)).drop 0).length∨(sub b_1 (0:Int) (((b_1).length:Nat):Int)).length=0)).bind fun _ =>
  some ((sub b_1 (0:Int) (((b_1).length:Nat):Int))++(((o_1.2).take ((o_1.1).toNat)).drop 0))
def wB (F:Nat) (s_1:List (List Int)) (a_1:List Int) (rec:Int→Option (Unit⊕Int)) (v_1:Int):Option (Unit⊕Int) :=
  (bif decide (v_1<(((s_1).length:Nat):Int)) then (y2 s_1 v_1).bind fun x_1 =>
  (bif (a_1==x_1) then some (.inr v_1) else
  rec (zI (v_1+(1:Int)))) else
  some (.inl ()))
def v7 (F:Nat) (s_1:List (List Int)) (a_1:List Int):Nat→Int→Option (Unit⊕Int)
  | 0,_=>none
  | n+1,v_1=>wB F s_1 a_1 (v7 F s_1 a_1 n) v_1
def uQ (F:Nat) (s_1:List (List Int)) (a_1:List Int):Option Int :=
  (v7 F s_1 a_1 F (0:Int)).bind fun (o_1:Unit⊕Int) =>
  (match o_1 with
  | (.inl q_1) =>
  some (-1:Int)
  | (.inr q_2) =>
  some q_2)
def qI (s_1:List (List Int)):Option (List (List Int)) :=
  (need (((([]:List (List Int))).length+(s_1).length) * 16≤140737488355328)).bind fun _ =>
  some ([]++s_1)
def zBq (F:Nat) (zE:List (List Int)) (s_1:List Int):Option (Int×(List (List Int))×Int) :=
  (j7 F s_1).bind fun r_1 =>
  (bif (r_1 != (0:Int)) then some ((0:Int),zE,r_1) else
  (uQ F zE s_1).bind fun r_2 =>
  (bif decide (r_2≥(0:Int)) then some (r_2,zE,(0:Int)) else
  (bif decide ((((zE).length:Nat):Int)≥(1000:Int)) then some ((0:Int),zE,(6:Int)) else
  (qI zE).bind fun r_3=>(need (((r_3).length+(([s_1]:List (List Int))).length) * 16≤140737488355328)).bind fun _ =>
  some ((((zE).length:Nat):Int),(r_3++([s_1]:List (List Int))),(0:Int)))))
def jC (s_1:List (zO)):Option (List (zO)) :=
  (need (((([]:List zO)).length+(s_1).length) * 16≤140737488355328)).bind fun _ =>
  some ([]++s_1)
def wF (F:Nat) (s_1:List (zO)) (a_1:zO) (rec:Int→Option (Unit⊕Int)) (v_1:Int):Option (Unit⊕Int) :=
  (bif decide (v_1<(((s_1).length:Nat):Int)) then (y2 s_1 v_1).bind fun x_1 =>
  (bif (decide (a_1=x_1)) then some (.inr v_1) else
  rec (zI (v_1+(1:Int)))) else
  some (.inl ()))
def uI (F:Nat) (s_1:List (zO)) (a_1:zO):Nat→Int→Option (Unit⊕Int)
  | 0,_=>none
  | n+1,v_1=>wF F s_1 a_1 (uI F s_1 a_1 n) v_1
def tC (F:Nat) (s_1:List (zO)) (a_1:zO):Option Int :=
  (uI F s_1 a_1 F (0:Int)).bind fun (o_1:Unit⊕Int) =>
  (match o_1 with
  | (.inl q_1) =>
  some (-1:Int)
  | (.inr q_2) =>
  some q_2)
def tP (F:Nat) (zE:List (List Int)) (zD:List (zO)) (l_1:List (List Int)) (rec:Int→(List (List Int))→Int→(List zO)→Option ((Int×(List (List Int))×(List zO))⊕(Int×(List (List Int))×(List (zO))×Int))) (yA:Int) (n_1:List (List Int)) (v_1:Int) (zM:List zO):Option ((Int×(List (List Int))×(List zO))⊕(Int×(List (List Int))×(List (zO))×Int)) :=
  (bif decide (v_1<(((l_1).length:Nat):Int)) then (y2 l_1 v_1).bind fun x_1 =>
  (zBq F n_1 x_1).bind fun r_3 =>
  (bif (r_3.2.2 != (0:Int)) then some (.inr ((0:Int),zE,zD,r_3.2.2)) else
  (tC F zM (⟨yA,r_3.1⟩:zO)).bind fun r_4 =>
  (bif decide (r_4≥(0:Int)) then rec r_4 r_3.2.1 (zI (v_1+(1:Int))) zM else
  (bif decide ((((zM).length:Nat):Int)≥(1000:Int)) then some (.inr ((0:Int),zE,zD,(6:Int))) else
  (need (((zM).length+(([(⟨yA,r_3.1⟩:zO)]:List zO)).length) * 16≤140737488355328)).bind fun _ =>
  rec (((zM).length:Nat):Int) r_3.2.1 (zI (v_1+(1:Int))) (zM++([(⟨yA,r_3.1⟩:zO)]:List zO))))) else
  some (.inl (yA,n_1,zM)))
def qV (F:Nat) (zE:List (List Int)) (zD:List (zO)) (l_1:List (List Int)):Nat→Int→(List (List Int))→Int→(List zO)→Option ((Int×(List (List Int))×(List zO))⊕(Int×(List (List Int))×(List (zO))×Int))
  | 0,_,_,_,_=>none
  | n+1,yA,n_1,v_1,zM=>tP F zE zD l_1 (qV F zE zD l_1 n) yA n_1 v_1 zM
def kJ (F:Nat) (zE:List (List Int)) (zD:List (zO)) (l_1:List (List Int)):Option (Int×(List (List Int))×(List (zO))×Int) :=
  (nA F l_1).bind fun r_1 =>
  (bif (r_1 != (0:Int)) then some ((0:Int),zE,zD,r_1) else
  (jC zD).bind fun r_2 =>
  (qV F zE zD l_1 F (-1:Int) zE (0:Int) r_2).bind fun (o_1:(Int×(List (List Int))×(List zO))⊕(Int×(List (List Int))×(List (zO))×Int)) =>
  (match o_1 with
  | (.inl q_1) =>
  some (q_1.1,q_1.2.1,q_1.2.2,(0:Int))
  | (.inr q_2) =>
  some q_2))
abbrev zY1:Type:=((List (Int))×(List (List Int))×(List (zO))×Int)
def zAR (F:Nat) (zE:List (List Int)) (zD:List (zO)) (e_1:zL):Option zY1 :=
  (kC F zE zD).bind fun r_1 =>
  (bif (r_1 != (0:Int)) then some ([],[],[],(1:Int)) else
  (pG F e_1).bind fun r_2 =>
  (bif (r_2 != (0:Int)) then some ([],[],[],r_2) else
  (zCj e_1.Kind).bind fun r_3 =>
  (wU F [] e_1.Kind).bind fun r_4=>(wU F r_4 e_1.At).bind fun r_5 =>
  (((bif r_3.1 then (zBq F zE e_1.Name).bind fun r_6 =>
  (bif (r_6.2.2 != (0:Int)) then some (.inr ([],[],[],r_6.2.2)) else
  (wU F r_5 r_6.1).bind fun r_7 =>
  some (.inl (r_6.2.1,r_7))) else
  some (.inl (zE,r_5))):Option (((List (List Int))×(List Int))⊕zY1))).bind fun (o_1:((List (List Int))×(List Int))⊕zY1) =>
  (match o_1 with
  | (.inl q_1) =>
  (((bif r_3.2.1 then (wU F q_1.2 e_1.N).bind fun r_8 =>
  some r_8 else
  some q_1.2):Option (List Int))).bind fun (o_2:(List Int)) =>
  (((bif r_3.2.2.1 then (wU F o_2 e_1.M).bind fun r_9 =>
  some r_9 else
  some o_2):Option (List Int))).bind fun (o_3:(List Int)) =>
  (((bif r_3.2.2.2 then (kJ F q_1.1 zD e_1.Stack).bind fun yZ =>
  (bif (yZ.2.2.2 != (0:Int)) then some (.inr ([],[],[],yZ.2.2.2)) else
  (wU F o_3 yZ.1).bind fun xK =>
  some (.inl (yZ.2.1,yZ.2.2.1,xK))) else
  some (.inl (q_1.1,zD,o_3))):Option (((List (List Int))×(List zO)×(List Int))⊕zY1))).bind fun (o_4:((List (List Int))×(List zO)×(List Int))⊕zY1) =>
  (match o_4 with
  | (.inl q_3) =>
  some (q_3.2.2,q_3.1,q_3.2.1,(0:Int))
  | (.inr q_4) =>
  some q_4)
  | (.inr q_2) =>
  some q_2)))
def qC (s_1:List (Int)):Option (List (Int)) :=
  (need (((([]:List Int)).length+(s_1).length) * 1≤140737488355328)).bind fun _ =>
  some ([]++s_1)
def qL (F:Nat) (b_1:List (Int)) (r_2:(List (List (Int)))×Int) (r_3:(List (Int))) (rec:Int→Int→Int→Option (Int×Int)) (vH:Int) (xB:Int) (c_1:Int):Option (Int×Int) :=
  (bif decide (((((r_3++b_1)).length:Nat):Int)>vH) then (y2 r_2.1 xB).bind fun x_1=>(wU F [] (((x_1).length:Nat):Int)).bind fun r_4=>(y2 r_2.1 xB).bind fun x_2 =>
  rec (zI (vH+(zI ((((r_4).length:Nat):Int)+(((x_2).length:Nat):Int))))) (zI (xB+(1:Int))) (zI (c_1+(zI ((((r_4).length:Nat):Int)+(((x_2).length:Nat):Int))))) else
  some (xB,c_1))
def zAY (F:Nat) (b_1:List (Int)) (r_2:(List (List (Int)))×Int) (r_3:(List (Int))):Nat→Int→Int→Int→Option (Int×Int)
  | 0,_,_,_=>none
  | n+1,vH,xB,c_1=>qL F b_1 r_2 r_3 (zAY F b_1 r_2 r_3 n) vH xB c_1
def zEY (F:Nat) (r_1:zW) (b_1:List (Int)):Option (zW×Int×Int) :=
  (zBl F r_1).bind fun r_2 =>
  (bif (r_2.2 != (0:Int)) then some (r_1,(0:Int),r_2.2) else
  (wU F [] (((b_1).length:Nat):Int)).bind fun r_3=>(need (((r_3).length+(b_1).length) * 1≤140737488355328)).bind fun _ =>
  (bif (decide ((((b_1).length:Nat):Int)>(2000:Int))||decide (((((r_3++b_1)).length:Nat):Int)>(((r_1.Data).length:Nat):Int))) then some (r_1,(0:Int),(7:Int)) else
  (bif ((r_1.Policy==(2:Int))&&decide (((((r_3++b_1)).length:Nat):Int)>(zI ((((r_1.Data).length:Nat):Int) - (zI (r_1.End - r_1.Start)))))) then some (r_1,(0:Int),(6:Int)) else
  (bif (decide ((zI (r_1.End+((((r_3++b_1)).length:Nat):Int)))>(1000000000000000:Int))||decide (r_1.Next≥(1000000000000000:Int))) then some (r_1,(0:Int),(2:Int)) else
  (zAY F b_1 r_2 r_3 F (zI ((((r_1.Data).length:Nat):Int) - (zI (r_1.End - r_1.Start)))) (0:Int) r_1.Start).bind fun (o_1:(Int×Int)) =>
  (qC r_1.Data).bind fun r_5 =>
  (need ((((r_5).length:Nat):Int)≠(0:Int))).bind fun _=>(need ((0:Int)≤(yM r_1.End (((r_5).length:Nat):Int))∧(yM r_1.End (((r_5).length:Nat):Int))≤(((r_5).length:Nat):Int))).bind fun _=>(need (((yM r_1.End (((r_5).length:Nat):Int)).toNat)≤((r_5).length)∧((r_5).length)≤(r_5).length)).bind fun _ =>
  (need ((((min ((r_3++b_1)).length ((r_5).length - (yM r_1.End (((r_5).length:Nat):Int)).toNat)):Nat):Int)≤((((r_3++b_1)).length:Nat):Int))).bind fun _=>(need ((min ((r_3++b_1)).length ((r_5).length - (yM r_1.End (((r_5).length:Nat):Int)).toNat))≤(((r_3++b_1)).length)∧(((r_3++b_1)).length)≤((r_3++b_1)).length)).bind fun _=>(need (0≤((r_5).length)∧((r_5).length)≤((cpy r_5 ((yM r_1.End (((r_5).length:Nat):Int)).toNat) ((r_5).length) (r_3++b_1))).length)).bind fun _ =>
  some ((⟨r_1.Policy,(cpy (cpy r_5 ((yM r_1.End (((r_5).length:Nat):Int)).toNat) ((r_5).length) (r_3++b_1)) 0 ((r_5).length) ((((r_3++b_1)).take (((r_3++b_1)).length)).drop (min ((r_3++b_1)).length ((r_5).length - (yM r_1.End (((r_5).length:Nat):Int)).toNat)))),o_1.2,zI (r_1.End+((((r_3++b_1)).length:Nat):Int)),zI (r_1.First+o_1.1),zI (r_1.Next+(1:Int))⟩:zW),o_1.1,(0:Int))))))
def tJ (F:Nat) (p_1:zK) (e_1:zL):Option (zK×Int) :=
  (jZ F p_1).bind fun r_1 =>
  (bif (r_1 != (0:Int)) then some ((⟨(⟨(0:Int),([]:List Int),(0:Int)⟩:yQ),[],[],(⟨(0:Int),[],(0:Int),(0:Int),(0:Int),(0:Int)⟩:zW),(0:Int),(0:Int)⟩:zK),r_1) else
  (pG F e_1).bind fun r_2 =>
  (bif (r_2 != (0:Int)) then some ((⟨(⟨(0:Int),([]:List Int),(0:Int)⟩:yQ),[],[],(⟨(0:Int),[],(0:Int),(0:Int),(0:Int),(0:Int)⟩:zW),(0:Int),(0:Int)⟩:zK),r_2) else
  (bif decide (e_1.At<p_1.Last) then some ((⟨(⟨(0:Int),([]:List Int),(0:Int)⟩:yQ),[],[],(⟨(0:Int),[],(0:Int),(0:Int),(0:Int),(0:Int)⟩:zW),(0:Int),(0:Int)⟩:zK),(11:Int)) else
  (zAR F p_1.Names p_1.Stacks e_1).bind fun r_3 =>
  (bif (r_3.2.2.2 != (0:Int)) then some ((⟨(⟨(0:Int),([]:List Int),(0:Int)⟩:yQ),[],[],(⟨(0:Int),[],(0:Int),(0:Int),(0:Int),(0:Int)⟩:zW),(0:Int),(0:Int)⟩:zK),r_3.2.2.2) else
  (zEY F p_1.Ring r_3.1).bind fun r_4 =>
  (bif (r_4.2.2 != (0:Int)) then some ((⟨(⟨(0:Int),([]:List Int),(0:Int)⟩:yQ),[],[],(⟨(0:Int),[],(0:Int),(0:Int),(0:Int),(0:Int)⟩:zW),(0:Int),(0:Int)⟩:zK),r_4.2.2) else
  some ((⟨p_1.Thread,r_3.2.1,r_3.2.2.1,r_4.1,e_1.At,p_1.Sent⟩:zK),(0:Int)))))))
structure z5 where
  Thread:Int
  Serial:Int
  Lost:Int
  Events:List (zL)
  deriving DecidableEq,Inhabited
def zJ0 (s:z5):List AV:=[.int .i64 s.Thread,.int .i64 s.Serial,.int .i64 s.Lost,.sl false 6 (List.map zH s.Events)]
def zG (s:z5):AV:=.agg (zJ0 s)
def vZ (F:Nat) (p_1:zK) (rec:(List zL)→Int→Int→(List z5)→Option (List z5)) (l_1:List zL) (vB:Int) (xB:Int) (zM:List z5):Option (List z5) :=
  (bif decide ((((l_1).length:Nat):Int)>(0:Int)) then (need ((0:Int)≤(wS (((l_1).length:Nat):Int) (1000:Int))∧(wS (((l_1).length:Nat):Int) (1000:Int))≤(((l_1).length:Nat):Int))).bind fun _=>(need (((zM).length+(([(⟨p_1.Thread.Id,vB,xB,sub l_1 (0:Int) (wS (((l_1).length:Nat):Int) (1000:Int))⟩:z5)]:List z5)).length) * 48≤140737488355328)).bind fun _ =>
  (need ((0:Int)≤(wS (((l_1).length:Nat):Int) (1000:Int))∧(wS (((l_1).length:Nat):Int) (1000:Int))≤(((l_1).length:Nat):Int))).bind fun _ =>
  rec (sub l_1 (wS (((l_1).length:Nat):Int) (1000:Int)) (((l_1).length:Nat):Int)) (zI (vB+(wS (((l_1).length:Nat):Int) (1000:Int)))) (0:Int) (zM++([(⟨p_1.Thread.Id,vB,xB,sub l_1 (0:Int) (wS (((l_1).length:Nat):Int) (1000:Int))⟩:z5)]:List z5)) else
  some zM)
def tV (F:Nat) (p_1:zK):Nat→(List zL)→Int→Int→(List z5)→Option (List z5)
  | 0,_,_,_,_=>none
  | n+1,l_1,vB,xB,zM=>vZ F p_1 (tV F p_1 n) l_1 vB xB zM
def j2 (F:Nat) (p_1:zK):Option ((List (z5))×zK) :=
  (j5 F p_1).bind fun r_1 =>
  (bif (r_1.2 != (0:Int)) then some ([],p_1) else
  (tV F p_1 F r_1.1 p_1.Ring.First (zI (p_1.Ring.First - p_1.Sent)) []).bind fun (o_1:(List z5)) =>
  (zCF F p_1.Ring).bind fun r_2 =>
  some (o_1,(⟨p_1.Thread,p_1.Names,p_1.Stacks,r_2.2,p_1.Last,r_2.2.Next⟩:zK)))
def p8 (F:Nat) (p_1:zK):Option Int :=
  (jZ F p_1).bind fun r_1 =>
  (bif (r_1 != (0:Int)) then some (0:Int) else
  some (zI (p_1.Ring.First - p_1.Sent)))
abbrev zY0:Type:=(Int×(List Int)×Int×(List (List Int))×(List zO)×Int×(List Int)×Int×Int×Int×Int×Int×Int×Int×(List Int)×Int×(List (List Int))×(List zO)×Int×(List Int)×Int×Int×Int×Int×Int×Int)
def zBH (F:Nat) (rec:Int→Int→(List Int)→Int→(List (List Int))→(List zO)→Int→(List Int)→Int→Int→Int→Int→Int→Int→Int→(List Int)→Int→(List (List Int))→(List zO)→Int→(List Int)→Int→Int→Int→Int→Int→Int→Option (zY0⊕Bool)) (yA:Int) (c_1:Int) (c_2:List Int) (c_3:Int) (c_4:List (List Int)) (c_5:List zO) (c_6:Int) (c_7:List Int) (c_8:Int) (c_9:Int) (zCx:Int) (zCy:Int) (zCz:Int) (zCA:Int) (zBM:Int) (zBN:List Int) (zBO:Int) (zBP:List (List Int)) (zBQ:List zO) (zBR:Int) (zBS:List Int) (zBT:Int) (zBU:Int) (zBV:Int) (zBW:Int) (zBX:Int) (zBY:Int):Option (zY0⊕Bool) :=
  (bif decide (yA≤(4:Int)) then (zDj yA).bind fun r_3=>(tJ F (⟨(⟨c_1,c_2,c_3⟩:yQ),c_4,c_5,(⟨c_6,c_7,c_8,c_9,zCx,zCy⟩:zW),zCz,zCA⟩:zK) r_3).bind fun r_4 =>
  (zDj yA).bind fun r_5=>(tJ F (⟨(⟨zBM,zBN,zBO⟩:yQ),zBP,zBQ,(⟨zBR,zBS,zBT,zBU,zBV,zBW⟩:zW),zBX,zBY⟩:zK) r_5).bind fun r_6 =>
  (bif ((r_4.2 != (0:Int))||(r_6.2 != (0:Int))) then some (.inr false) else
  rec (zI (yA+(1:Int))) r_4.1.Thread.Id r_4.1.Thread.Name r_4.1.Thread.Domain r_4.1.Names r_4.1.Stacks r_4.1.Ring.Policy r_4.1.Ring.Data r_4.1.Ring.Start r_4.1.Ring.End r_4.1.Ring.First r_4.1.Ring.Next r_4.1.Last r_4.1.Sent r_6.1.Thread.Id r_6.1.Thread.Name r_6.1.Thread.Domain r_6.1.Names r_6.1.Stacks r_6.1.Ring.Policy r_6.1.Ring.Data r_6.1.Ring.Start r_6.1.Ring.End r_6.1.Ring.First r_6.1.Ring.Next r_6.1.Last r_6.1.Sent) else
  some (.inl (c_1,c_2,c_3,c_4,c_5,c_6,c_7,c_8,c_9,zCx,zCy,zCz,zCA,zBM,zBN,zBO,zBP,zBQ,zBR,zBS,zBT,zBU,zBV,zBW,zBX,zBY)))
def zCZ (F:Nat):Nat→Int→Int→(List Int)→Int→(List (List Int))→(List zO)→Int→(List Int)→Int→Int→Int→Int→Int→Int→Int→(List Int)→Int→(List (List Int))→(List zO)→Int→(List Int)→Int→Int→Int→Int→Int→Int→Option (zY0⊕Bool)
  | 0,_,_,_,_,_,_,_,_,_,_,_,_,_,_,_,_,_,_,_,_,_,_,_,_,_,_,_=>none
  | n+1,yA,c_1,c_2,c_3,c_4,c_5,c_6,c_7,c_8,c_9,zCx,zCy,zCz,zCA,zBM,zBN,zBO,zBP,zBQ,zBR,zBS,zBT,zBU,zBV,zBW,zBX,zBY=>zBH F (zCZ F n) yA c_1 c_2 c_3 c_4 c_5 c_6 c_7 c_8 c_9 zCx zCy zCz zCA zBM zBN zBO zBP zBQ zBR zBS zBT zBU zBV zBW zBX zBY
def zDV (F:Nat):Option Bool :=
  (zCM F (⟨(3:Int),([109,97,105,110]:List Int),(0:Int)⟩:yQ) (16:Int) (1:Int)).bind fun r_1 =>
  (zCM F (⟨(3:Int),([109,97,105,110]:List Int),(0:Int)⟩:yQ) (16:Int) (2:Int)).bind fun r_2 =>
  (bif ((r_1.2 != (0:Int))||(r_2.2 != (0:Int))) then some false else
  (zCZ F F (1:Int) r_1.1.Thread.Id r_1.1.Thread.Name r_1.1.Thread.Domain r_1.1.Names r_1.1.Stacks r_1.1.Ring.Policy r_1.1.Ring.Data r_1.1.Ring.Start r_1.1.Ring.End r_1.1.Ring.First r_1.1.Ring.Next r_1.1.Last r_1.1.Sent r_2.1.Thread.Id r_2.1.Thread.Name r_2.1.Thread.Domain r_2.1.Names r_2.1.Stacks r_2.1.Ring.Policy r_2.1.Ring.Data r_2.1.Ring.Start r_2.1.Ring.End r_2.1.Ring.First r_2.1.Ring.Next r_2.1.Last r_2.1.Sent).bind fun (o_1:zY0⊕Bool) =>
  (match o_1 with
  | (.inl q_1) =>
  (zDj (5:Int)).bind fun r_7=>(tJ F (⟨(⟨q_1.2.2.2.2.2.2.2.2.2.2.2.2.2.1,q_1.2.2.2.2.2.2.2.2.2.2.2.2.2.2.1,q_1.2.2.2.2.2.2.2.2.2.2.2.2.2.2.2.1⟩:yQ),q_1.2.2.2.2.2.2.2.2.2.2.2.2.2.2.2.2.1,q_1.2.2.2.2.2.2.2.2.2.2.2.2.2.2.2.2.2.1,(⟨q_1.2.2.2.2.2.2.2.2.2.2.2.2.2.2.2.2.2.2.1,q_1.2.2.2.2.2.2.2.2.2.2.2.2.2.2.2.2.2.2.2.1,q_1.2.2.2.2.2.2.2.2.2.2.2.2.2.2.2.2.2.2.2.2.1,q_1.2.2.2.2.2.2.2.2.2.2.2.2.2.2.2.2.2.2.2.2.2.1,q_1.2.2.2.2.2.2.2.2.2.2.2.2.2.2.2.2.2.2.2.2.2.2.1,q_1.2.2.2.2.2.2.2.2.2.2.2.2.2.2.2.2.2.2.2.2.2.2.2.1⟩:zW),q_1.2.2.2.2.2.2.2.2.2.2.2.2.2.2.2.2.2.2.2.2.2.2.2.2.1,q_1.2.2.2.2.2.2.2.2.2.2.2.2.2.2.2.2.2.2.2.2.2.2.2.2.2⟩:zK) r_7).bind fun r_8 =>
  (zDj (5:Int)).bind fun r_9=>(tJ F (⟨(⟨q_1.1,q_1.2.1,q_1.2.2.1⟩:yQ),q_1.2.2.2.1,q_1.2.2.2.2.1,(⟨q_1.2.2.2.2.2.1,q_1.2.2.2.2.2.2.1,q_1.2.2.2.2.2.2.2.1,q_1.2.2.2.2.2.2.2.2.1,q_1.2.2.2.2.2.2.2.2.2.1,q_1.2.2.2.2.2.2.2.2.2.2.1⟩:zW),q_1.2.2.2.2.2.2.2.2.2.2.2.1,q_1.2.2.2.2.2.2.2.2.2.2.2.2.1⟩:zK) r_9).bind fun yZ =>
  (j2 F yZ.1).bind fun xK =>
  (j2 F (⟨(⟨q_1.2.2.2.2.2.2.2.2.2.2.2.2.2.1,q_1.2.2.2.2.2.2.2.2.2.2.2.2.2.2.1,q_1.2.2.2.2.2.2.2.2.2.2.2.2.2.2.2.1⟩:yQ),q_1.2.2.2.2.2.2.2.2.2.2.2.2.2.2.2.2.1,q_1.2.2.2.2.2.2.2.2.2.2.2.2.2.2.2.2.2.1,(⟨q_1.2.2.2.2.2.2.2.2.2.2.2.2.2.2.2.2.2.2.1,q_1.2.2.2.2.2.2.2.2.2.2.2.2.2.2.2.2.2.2.2.1,q_1.2.2.2.2.2.2.2.2.2.2.2.2.2.2.2.2.2.2.2.2.1,q_1.2.2.2.2.2.2.2.2.2.2.2.2.2.2.2.2.2.2.2.2.2.1,q_1.2.2.2.2.2.2.2.2.2.2.2.2.2.2.2.2.2.2.2.2.2.2.1,q_1.2.2.2.2.2.2.2.2.2.2.2.2.2.2.2.2.2.2.2.2.2.2.2.1⟩:zW),q_1.2.2.2.2.2.2.2.2.2.2.2.2.2.2.2.2.2.2.2.2.2.2.2.2.1,q_1.2.2.2.2.2.2.2.2.2.2.2.2.2.2.2.2.2.2.2.2.2.2.2.2.2⟩:zK)).bind fun t6 =>
  ((bif (yZ.2==(0:Int)) then (bif (r_8.2==(6:Int)) then ((p8 F yZ.1).bind fun uV=>bif (uV==(1:Int)) then (bif ((((xK.1).length:Nat):Int)==(1:Int)) then ((y2 xK.1 (0:Int)).bind fun x_1=>bif (x_1.Thread==(3:Int)) then ((y2 xK.1 (0:Int)).bind fun x_2=>bif (x_2.Serial==(1:Int)) then ((y2 xK.1 (0:Int)).bind fun x_3=>bif (x_3.Lost==(1:Int)) then ((y2 xK.1 (0:Int)).bind fun x_4=>bif ((((x_4.Events).length:Nat):Int)==(4:Int)) then (bif ((((t6.1).length:Nat):Int)==(1:Int)) then ((y2 t6.1 (0:Int)).bind fun x_5=>bif (x_5.Serial==(0:Int)) then ((y2 t6.1 (0:Int)).bind fun x_6=>some ((((x_6.Events).length:Nat):Int)==(4:Int))) else (some false)) else (some false)) else (some false)) else (some false)) else (some false)) else (some false)) else (some false)) else (some false)) else (some false)) else (some false))).bind fun (p_1:Bool) =>
  some p_1
  | (.inr q_2) =>
  some q_2))
def tB (F:Nat) (c_1:Int) (rec:Int→Option (Unit⊕Bool)) (i_1:Int):Option (Unit⊕Bool) :=
  (bif decide (i_1<(((([95,46,58,47,60,62,36,42,126,45]:List Int)).length:Nat):Int)) then (y2 ([95,46,58,47,60,62,36,42,126,45]:List Int) i_1).bind fun c_2 =>
  (bif (c_2==c_1) then some (.inr true) else
  rec (zI (i_1+(1:Int)))) else
  some (.inl ()))
def jK (F:Nat) (c_1:Int):Nat→Int→Option (Unit⊕Bool)
  | 0,_=>none
  | n+1,i_1=>tB F c_1 (jK F c_1 n) i_1
def zCW (F:Nat) (c_1:Int):Option Bool :=
  (bif (bif decide (c_1≥(97:Int)) then (decide (c_1≤(122:Int))||(bif decide (c_1≥(65:Int)) then (decide (c_1≤(90:Int))||(decide (c_1≥(48:Int))&&decide (c_1≤(57:Int)))) else (decide (c_1≥(48:Int))&&decide (c_1≤(57:Int))))) else (bif decide (c_1≥(65:Int)) then (decide (c_1≤(90:Int))||(decide (c_1≥(48:Int))&&decide (c_1≤(57:Int)))) else (decide (c_1≥(48:Int))&&decide (c_1≤(57:Int))))) then some true else
  (jK F c_1 F (0:Int)).bind fun (o_1:Unit⊕Bool) =>
  (match o_1 with
  | (.inl q_1) =>
  some false
  | (.inr q_2) =>
  some q_2))
def pR (F:Nat) (s_1:List Int) (rec:Int→Option (Unit⊕Int)) (i_1:Int):Option (Unit⊕Int) :=
  (bif decide (i_1<(((s_1).length:Nat):Int)) then (y2 s_1 i_1).bind fun c_1=>(zCW F c_1).bind fun r_1 =>
  (bif !r_1 then some (.inr (3:Int)) else
  rec (zI (i_1+(1:Int)))) else
  some (.inl ()))
def zCe (F:Nat) (s_1:List Int):Nat→Int→Option (Unit⊕Int)
  | 0,_=>none
  | n+1,i_1=>pR F s_1 (zCe F s_1 n) i_1
def zAy (F:Nat) (s_1:List Int):Option Int :=
  (bif (decide ((((s_1).length:Nat):Int)<(1:Int))||decide ((((s_1).length:Nat):Int)>(40:Int))) then some (3:Int) else
  (zCe F s_1 F (0:Int)).bind fun (o_1:Unit⊕Int) =>
  (match o_1 with
  | (.inl q_1) =>
  some (0:Int)
  | (.inr q_2) =>
  some q_2))
def zCK (F:Nat) (t_1:yQ):Option Int :=
  (bif (decide (t_1.Id<(0:Int))||(decide (t_1.Id>(1000000000000000:Int))||(decide (t_1.Domain<(0:Int))||decide (t_1.Domain≥(8:Int))))) then some (2:Int) else
  (zAy F t_1.Name).bind fun r_1 =>
  some r_1)
def uB (F:Nat) (a_1:List (List Int)) (b_1:List (List Int)) (rec:Int→Option (Unit⊕Bool)) (i_1:Int):Option (Unit⊕Bool) :=
  (bif decide (i_1<(((a_1).length:Nat):Int)) then (y2 a_1 i_1).bind fun x_1=>(y2 b_1 i_1).bind fun x_2 =>
  (bif !(x_1==x_2) then some (.inr false) else
  rec (zI (i_1+(1:Int)))) else
  some (.inl ()))
def pK (F:Nat) (a_1:List (List Int)) (b_1:List (List Int)):Nat→Int→Option (Unit⊕Bool)
  | 0,_=>none
  | n+1,i_1=>uB F a_1 b_1 (pK F a_1 b_1 n) i_1
def zAJ (F:Nat) (a_1:List (List Int)) (b_1:List (List Int)):Option Bool :=
  (bif ((((a_1).length:Nat):Int) != (((b_1).length:Nat):Int)) then some false else
  (pK F a_1 b_1 F (0:Int)).bind fun (o_1:Unit⊕Bool) =>
  (match o_1 with
  | (.inl q_1) =>
  some true
  | (.inr q_2) =>
  some q_2))
def v4 (F:Nat) (a_1:List (zO)) (b_1:List (zO)) (rec:Int→Option (Unit⊕Bool)) (i_1:Int):Option (Unit⊕Bool) :=
  (bif decide (i_1<(((a_1).length:Nat):Int)) then (y2 a_1 i_1).bind fun x_1=>(y2 b_1 i_1).bind fun x_2 =>
  (bif (!(decide (x_1=x_2))) then some (.inr false) else
  rec (zI (i_1+(1:Int)))) else
  some (.inl ()))
def k9 (F:Nat) (a_1:List (zO)) (b_1:List (zO)):Nat→Int→Option (Unit⊕Bool)
  | 0,_=>none
  | n+1,i_1=>v4 F a_1 b_1 (k9 F a_1 b_1 n) i_1
def zAd (F:Nat) (a_1:List (zO)) (b_1:List (zO)):Option Bool :=
  (bif ((((a_1).length:Nat):Int) != (((b_1).length:Nat):Int)) then some false else
  (k9 F a_1 b_1 F (0:Int)).bind fun (o_1:Unit⊕Bool) =>
  (match o_1 with
  | (.inl q_1) =>
  some true
  | (.inr q_2) =>
  some q_2))
def jA (F:Nat) (r_1:zW) (rec:Int→(List Int)→Option (List Int)) (p_1:Int) (zM:List Int):Option (List Int) :=
  (bif decide (p_1<r_1.End) then (need ((((r_1.Data).length:Nat):Int)≠(0:Int))).bind fun _=>(y2 r_1.Data (yM p_1 (((r_1.Data).length:Nat):Int))).bind fun x_1=>(need (((zM).length+(([x_1]:List Int)).length) * 1≤140737488355328)).bind fun _ =>
  rec (zI (p_1+(1:Int))) (zM++([x_1]:List Int)) else
  some zM)
def kQ (F:Nat) (r_1:zW):Nat→Int→(List Int)→Option (List Int)
  | 0,_,_=>none
  | n+1,p_1,zM=>jA F r_1 (kQ F r_1 n) p_1 zM
def pV (F:Nat) (r_1:zW):Option (List (Int)) :=
  (kQ F r_1 F r_1.Start []).bind fun (o_1:(List Int)) =>
  some o_1
def zCl (u_1:Int):Option Int :=
  (bif ((yM u_1 (2:Int))==(1:Int)) then some (zI ((zI (0 - (zI (zEL .u64 u_1 (2:Int))))) - (1:Int))) else
  some (zI (zEL .u64 u_1 (2:Int))))
def nL (F:Nat) (b_1:List (Int)) (rec:Int→Int→Int→Option (Unit⊕(Int×Int×Int))) (u_1:Int) (w3:Int) (i_1:Int):Option (Unit⊕(Int×Int×Int)) :=
  (bif decide (i_1<(10:Int)) then (bif decide (i_1≥(((b_1).length:Nat):Int)) then some (.inr ((0:Int),(0:Int),(8:Int))) else
  (y2 b_1 i_1).bind fun x_1 =>
  (bif ((i_1==(9:Int))&&decide ((yN x_1)>(1:Int))) then some (.inr ((0:Int),(0:Int),(10:Int))) else
  (bif (decide ((yN x_1)<(128:Int))&&(((yN x_1)==(0:Int))&&decide (i_1>(0:Int)))) then some (.inr ((0:Int),(0:Int),(10:Int))) else
  (bif decide ((yN x_1)<(128:Int)) then (zCl (yN (u_1+(yN ((yM (yN x_1) (128:Int)) * w3))))).bind fun r_1 =>
  some (.inr (r_1,zI (i_1+(1:Int)),(0:Int))) else
  rec (yN (u_1+(yN ((yM (yN x_1) (128:Int)) * w3)))) (yN (w3 * (128:Int))) (zI (i_1+(1:Int))))))) else
  some (.inl ()))
def zAz (F:Nat) (b_1:List (Int)):Nat→Int→Int→Int→Option (Unit⊕(Int×Int×Int))
  | 0,_,_,_=>none
  | n+1,u_1,w3,i_1=>nL F b_1 (zAz F b_1 n) u_1 w3 i_1
def zEn (F:Nat) (b_1:List (Int)):Option (Int×Int×Int) :=
  (zAz F b_1 F (0:Int) (1:Int) (0:Int)).bind fun (o_1:Unit⊕(Int×Int×Int)) =>
  (match o_1 with
  | (.inl q_1) =>
  some ((0:Int),(0:Int),(10:Int))
  | (.inr q_2) =>
  some q_2)
def jS (F:Nat) (rec:(List Int)→(List (List (Int)))→Option ((List (List (Int)))⊕((List (List (Int)))×Bool))) (b_2:List Int) (zM:List (List (Int))):Option ((List (List (Int)))⊕((List (List (Int)))×Bool)) :=
  (bif decide ((((b_2).length:Nat):Int)>(0:Int)) then (zEn F b_2).bind fun r_1 =>
  (bif ((r_1.2.2 != (0:Int))||(decide (r_1.1<(0:Int))||(decide (r_1.1>(2000:Int))||decide (r_1.1>(zI ((((b_2).length:Nat):Int) - r_1.2.1)))))) then some (.inr ([],false)) else
  (need ((0:Int)≤r_1.2.1∧r_1.2.1≤(zI (r_1.2.1+r_1.1))∧(zI (r_1.2.1+r_1.1))≤(((b_2).length:Nat):Int))).bind fun _=>(need (((zM).length+(([sub b_2 r_1.2.1 (zI (r_1.2.1+r_1.1))]:List (List (Int)))).length) * 24≤140737488355328)).bind fun _ =>
  (need ((0:Int)≤(zI (r_1.2.1+r_1.1))∧(zI (r_1.2.1+r_1.1))≤(((b_2).length:Nat):Int))).bind fun _ =>
  rec (sub b_2 (zI (r_1.2.1+r_1.1)) (((b_2).length:Nat):Int)) (zM++([sub b_2 r_1.2.1 (zI (r_1.2.1+r_1.1))]:List (List (Int))))) else
  some (.inl zM))
def nX (F:Nat):Nat→(List Int)→(List (List (Int)))→Option ((List (List (Int)))⊕((List (List (Int)))×Bool))
  | 0,_,_=>none
  | n+1,b_2,zM=>jS F (nX F n) b_2 zM
def nN (F:Nat) (b_1:List (Int)):Option ((List (List (Int)))×Bool) :=
  (nX F F b_1 []).bind fun (o_1:(List (List (Int)))⊕((List (List (Int)))×Bool)) =>
  (match o_1 with
  | (.inl q_1) =>
  some (q_1,true)
  | (.inr q_2) =>
  some q_2)
def zAo (F:Nat) (r_1:zW):Option Int :=
  (bif ((r_1.Policy != (1:Int))&&(r_1.Policy != (2:Int))) then some (1:Int) else
  (bif (decide ((((r_1.Data).length:Nat):Int)<(16:Int))||(decide ((((r_1.Data).length:Nat):Int)>(65536:Int))||(decide (r_1.Start<(0:Int))||(decide (r_1.Start>r_1.End)||(decide (r_1.End>(1000000000000000:Int))||(decide ((zI (r_1.End - r_1.Start))>(((r_1.Data).length:Nat):Int))||(decide (r_1.First<(0:Int))||(decide (r_1.First>r_1.Next)||decide (r_1.Next>(1000000000000000:Int)))))))))) then some (2:Int) else
  (pV F r_1).bind fun r_2=>(nN F r_2).bind fun r_3 =>
  (bif (!r_3.2||((((r_3.1).length:Nat):Int) != (zI (r_1.Next - r_1.First)))) then some (10:Int) else
  some (0:Int))))
def zA9 (F:Nat) (r_1:zW):Option ((List (List (Int)))×zW) :=
  (zAo F r_1).bind fun r_2 =>
  (bif (r_2 != (0:Int)) then some ([],r_1) else
  (pV F r_1).bind fun r_3=>(nN F r_3).bind fun r_4 =>
  some (r_4.1,(⟨r_1.Policy,r_1.Data,r_1.End,r_1.End,r_1.Next,r_1.Next⟩:zW)))
def qN (F:Nat) (r_3:(List (List (Int)))×zW) (r_4:(List (List (Int)))×zW) (rec:Int→Option (Unit⊕Bool)) (i_1:Int):Option (Unit⊕Bool) :=
  (bif decide (i_1<(((r_3.1).length:Nat):Int)) then (y2 r_3.1 i_1).bind fun x_1=>(y2 r_4.1 i_1).bind fun x_2 =>
  (bif !(x_1==x_2) then some (.inr false) else
  rec (zI (i_1+(1:Int)))) else
  some (.inl ()))
def zCk (F:Nat) (r_3:(List (List (Int)))×zW) (r_4:(List (List (Int)))×zW):Nat→Int→Option (Unit⊕Bool)
  | 0,_=>none
  | n+1,i_1=>qN F r_3 r_4 (zCk F r_3 r_4 n) i_1
def zDw (F:Nat) (a_1:zK) (b_1:zK):Option Bool :=
  ((bif (!(decide (a_1.Thread=b_1.Thread))) then (some true) else ((zAJ F a_1.Names b_1.Names).bind fun r_1=>bif !r_1 then (some true) else ((zAd F a_1.Stacks b_1.Stacks).bind fun r_2=>bif !r_2 then (some true) else (bif (a_1.Last != b_1.Last) then (some true) else (some (a_1.Sent != b_1.Sent))))))).bind fun (p_1:Bool) =>
  (bif p_1 then some false else
  (bif ((a_1.Ring.Policy != b_1.Ring.Policy)||(((((a_1.Ring.Data).length:Nat):Int) != (((b_1.Ring.Data).length:Nat):Int))||((a_1.Ring.Start != b_1.Ring.Start)||((a_1.Ring.End != b_1.Ring.End)||((a_1.Ring.First != b_1.Ring.First)||(a_1.Ring.Next != b_1.Ring.Next)))))) then some false else
  (zA9 F a_1.Ring).bind fun r_3 =>
  (zA9 F b_1.Ring).bind fun r_4 =>
  (bif ((((r_3.1).length:Nat):Int) != (((r_4.1).length:Nat):Int)) then some false else
  (zCk F r_3 r_4 F (0:Int)).bind fun (o_1:Unit⊕Bool) =>
  (match o_1 with
  | (.inl q_1) =>
  some true
  | (.inr q_2) =>
  some q_2))))
structure zA1 where
  Drain:Bool
  E:zL
  deriving DecidableEq,Inhabited
def tZ (F:Nat) (e_1:zL) (rec:Int→Option (Unit⊕Bool)) (i_1:Int):Option (Unit⊕Bool) :=
  (bif decide (i_1<(((e_1.Stack).length:Nat):Int)) then (y2 e_1.Stack i_1).bind fun x_1 =>
  (bif decide ((((x_1).length:Nat):Int)>(200:Int)) then some (.inr false) else
  rec (zI (i_1+(1:Int)))) else
  some (.inl ()))
def pT (F:Nat) (e_1:zL):Nat→Int→Option (Unit⊕Bool)
  | 0,_=>none
  | n+1,i_1=>tZ F e_1 (pT F e_1 n) i_1
def zD1 (F:Nat) (e_1:zL):Option Bool :=
  (bif (decide ((((e_1.Name).length:Nat):Int)>(200:Int))||decide ((((e_1.Stack).length:Nat):Int)>(60:Int))) then some false else
  (pT F e_1 F (0:Int)).bind fun (o_1:Unit⊕Bool) =>
  (match o_1 with
  | (.inl q_1) =>
  some true
  | (.inr q_2) =>
  some q_2))
def qP (F:Nat) (l_1:List (List Int)) (s_1:List Int) (rec:Int→Option (Unit⊕Int)) (i_1:Int):Option (Unit⊕Int) :=
  (bif decide (i_1<(((l_1).length:Nat):Int)) then (y2 l_1 i_1).bind fun x_1 =>
  (bif (x_1==s_1) then some (.inr i_1) else
  rec (zI (i_1+(1:Int)))) else
  some (.inl ()))
def zCd (F:Nat) (l_1:List (List Int)) (s_1:List Int):Nat→Int→Option (Unit⊕Int)
  | 0,_=>none
  | n+1,i_1=>qP F l_1 s_1 (zCd F l_1 s_1 n) i_1
def zDi (F:Nat) (l_1:List (List Int)) (s_1:List Int):Option Int :=
  (zCd F l_1 s_1 F (0:Int)).bind fun (o_1:Unit⊕Int) =>
  (match o_1 with
  | (.inl q_1) =>
  some (-1:Int)
  | (.inr q_2) =>
  some q_2)
def uE (F:Nat) (l_1:List (zO)) (p_1:zO) (rec:Int→Option (Unit⊕Int)) (i_1:Int):Option (Unit⊕Int) :=
  (bif decide (i_1<(((l_1).length:Nat):Int)) then (y2 l_1 i_1).bind fun x_1 =>
  (bif (decide (x_1=p_1)) then some (.inr i_1) else
  rec (zI (i_1+(1:Int)))) else
  some (.inl ()))
def pP (F:Nat) (l_1:List (zO)) (p_1:zO):Nat→Int→Option (Unit⊕Int)
  | 0,_=>none
  | n+1,i_1=>uE F l_1 p_1 (pP F l_1 p_1 n) i_1
def p9 (F:Nat) (l_1:List (zO)) (p_1:zO):Option Int :=
  (pP F l_1 p_1 F (0:Int)).bind fun (o_1:Unit⊕Int) =>
  (match o_1 with
  | (.inl q_1) =>
  some (-1:Int)
  | (.inr q_2) =>
  some q_2)
def tY (F:Nat) (zD:List (zO)) (rec:Int→Int→Option Int) (i_2:Int) (n_1:Int):Option Int :=
  (bif decide (i_2≥(0:Int)) then (y2 zD i_2).bind fun x_1 =>
  rec x_1.c0 (zI (n_1+(1:Int))) else
  some n_1)
def nY (F:Nat) (zD:List (zO)):Nat→Int→Int→Option Int
  | 0,_,_=>none
  | n+1,i_2,n_1=>tY F zD (nY F zD n) i_2 n_1
def zFc (F:Nat) (zD:List (zO)) (i_1:Int):Option Int :=
  (nY F zD F i_1 (0:Int)).bind fun (o_1:Int) =>
  some o_1
def tW (F:Nat) (zE:List (List Int)) (rec:Int→Option (Unit⊕Int)) (i_1:Int):Option (Unit⊕Int) :=
  (bif decide (i_1<(((zE).length:Nat):Int)) then (y2 zE i_1).bind fun x_1=>(zAy F x_1).bind fun r_1 =>
  (bif (r_1 != (0:Int)) then some (.inr (3:Int)) else
  (need ((0:Int)≤i_1∧i_1≤(((zE).length:Nat):Int))).bind fun _=>(y2 zE i_1).bind fun x_2=>(zDi F (sub zE (0:Int) i_1) x_2).bind fun r_2 =>
  (bif decide (r_2≥(0:Int)) then some (.inr (4:Int)) else
  rec (zI (i_1+(1:Int))))) else
  some (.inl ()))
def zAf (F:Nat) (zE:List (List Int)):Nat→Int→Option (Unit⊕Int)
  | 0,_=>none
  | n+1,i_1=>tW F zE (zAf F zE n) i_1
def k8 (F:Nat) (zE:List (List Int)) (zD:List (zO)) (rec:Int→Option (Unit⊕Int)) (i_2:Int):Option (Unit⊕Int) :=
  (bif decide (i_2<(((zD).length:Nat):Int)) then (y2 zD i_2).bind fun x_3 =>
  (bif (decide (x_3.c0<(-1:Int))||(decide (x_3.c0≥i_2)||(decide (x_3.c1<(0:Int))||decide (x_3.c1≥(((zE).length:Nat):Int))))) then some (.inr (2:Int)) else
  (need ((0:Int)≤i_2∧i_2≤(((zD).length:Nat):Int))).bind fun _=>(p9 F (sub zD (0:Int) i_2) x_3).bind fun r_3 =>
  (bif decide (r_3≥(0:Int)) then some (.inr (4:Int)) else
  (zFc F zD i_2).bind fun r_4 =>
  (bif decide (r_4>(32:Int)) then some (.inr (7:Int)) else
  rec (zI (i_2+(1:Int)))))) else
  some (.inl ()))
def zAb (F:Nat) (zE:List (List Int)) (zD:List (zO)):Nat→Int→Option (Unit⊕Int)
  | 0,_=>none
  | n+1,i_2=>k8 F zE zD (zAb F zE zD n) i_2
def kE (F:Nat) (zE:List (List Int)) (zD:List (zO)):Option Int :=
  (bif (decide ((((zE).length:Nat):Int)>(1000:Int))||decide ((((zD).length:Nat):Int)>(1000:Int))) then some (7:Int) else
  (zAf F zE F (0:Int)).bind fun (o_1:Unit⊕Int) =>
  (match o_1 with
  | (.inl q_1) =>
  (zAb F zE zD F (0:Int)).bind fun (o_2:Unit⊕Int) =>
  (match o_2 with
  | (.inl q_3) =>
  some (0:Int)
  | (.inr q_4) =>
  some q_4)
  | (.inr q_2) =>
  some q_2))
def qM (F:Nat) (b_1:List (Int)) (vQ:Int) (rec:Int→Int→(List Int)→Option ((Int×(List Int))⊕((List (Int))×Int×Int))) (yA:Int) (i_1:Int) (zM:List Int):Option ((Int×(List Int))⊕((List (Int))×Int×Int)) :=
  (bif decide (i_1<vQ) then (need ((0:Int)≤yA∧yA≤(((b_1).length:Nat):Int))).bind fun _=>(zEn F (sub b_1 yA (((b_1).length:Nat):Int))).bind fun r_1 =>
  (bif (r_1.2.2 != (0:Int)) then some (.inr ([],(0:Int),r_1.2.2)) else
  (need (((zM).length+(([r_1.1]:List Int)).length) * 8≤140737488355328)).bind fun _ =>
  rec (zI (yA+r_1.2.1)) (zI (i_1+(1:Int))) (zM++([r_1.1]:List Int))) else
  some (.inl (yA,zM)))
def zAU (F:Nat) (b_1:List (Int)) (vQ:Int):Nat→Int→Int→(List Int)→Option ((Int×(List Int))⊕((List (Int))×Int×Int))
  | 0,_,_,_=>none
  | n+1,yA,i_1,zM=>qM F b_1 vQ (zAU F b_1 vQ n) yA i_1 zM
def zCp (F:Nat) (b_1:List (Int)) (vQ:Int):Option ((List (Int))×Int×Int) :=
  (zAU F b_1 vQ F (0:Int) (0:Int) []).bind fun (o_1:(Int×(List Int))⊕((List (Int))×Int×Int)) =>
  (match o_1 with
  | (.inl q_1) =>
  some (q_1.2,q_1.1,(0:Int))
  | (.inr q_2) =>
  some q_2)
def zDm (k_1:Int):Option (Bool×Bool×Bool×Bool) :=
  (((bif (k_1==(1:Int)) then some (k_1==(1:Int)) else
  some (k_1==(3:Int))):Option Bool)).bind fun (o_1:Bool) =>
  (bif o_1 then some (true,false,false,false) else
  (bif (k_1==(4:Int)) then some (true,true,false,false) else
  (bif (k_1==(5:Int)) then some (false,true,false,true) else
  (((bif (k_1==(6:Int)) then some (k_1==(6:Int)) else
  (bif (k_1==(7:Int)) then some (k_1==(7:Int)) else
  (bif (k_1==(8:Int)) then some (k_1==(8:Int)) else
  (bif (k_1==(10:Int)) then some (k_1==(10:Int)) else
  some (k_1==(12:Int)))))):Option Bool)).bind fun (o_2:Bool) =>
  (bif o_2 then some (false,true,false,false) else
  (bif (k_1==(9:Int)) then some (false,true,true,false) else
  (bif (k_1==(11:Int)) then some (false,true,true,true) else
  some (false,false,false,false)))))))
def zDv (b_1:Bool):Option Int :=
  (bif b_1 then some (1:Int) else
  some (0:Int))
def tX (F:Nat) (zE:List (List Int)) (zD:List (zO)) (rec:Int→(List (List Int))→Option (List (List Int))) (i_2:Int) (l_1:List (List Int)):Option (List (List Int)) :=
  (bif decide (i_2≥(0:Int)) then (y2 zD i_2).bind fun x_1=>(y2 zE x_1.c1).bind fun x_2=>(need (((([x_2]:List (List Int))).length+(l_1).length) * 16≤140737488355328)).bind fun _ =>
  (y2 zD i_2).bind fun x_3 =>
  rec x_3.c0 (([x_2]:List (List Int))++l_1) else
  some l_1)
def zBg (F:Nat) (zE:List (List Int)) (zD:List (zO)):Nat→Int→(List (List Int))→Option (List (List Int))
  | 0,_,_=>none
  | n+1,i_2,l_1=>tX F zE zD (zBg F zE zD n) i_2 l_1
def zDW (F:Nat) (zE:List (List Int)) (zD:List (zO)) (i_1:Int):Option ((List (List Int))×Int) :=
  (kE F zE zD).bind fun r_1 =>
  (bif (r_1 != (0:Int)) then some ([],(1:Int)) else
  (bif (decide (i_1<(-1:Int))||decide (i_1≥(((zD).length:Nat):Int))) then some ([],(2:Int)) else
  (zBg F zE zD F i_1 []).bind fun (o_1:(List (List Int))) =>
  some (o_1,(0:Int))))
def zGa (k_1:Int):Option (Bool×Bool×Bool×Bool) :=
  some (((k_1==(1:Int))||((k_1==(3:Int))||(k_1==(4:Int)))),decide (k_1≥(4:Int)),((k_1==(9:Int))||(k_1==(11:Int))),((k_1==(5:Int))||(k_1==(11:Int))))
def kF (F:Nat) (l_1:List (List Int)) (rec:Int→Option (Unit⊕Int)) (i_1:Int):Option (Unit⊕Int) :=
  (bif decide (i_1<(((l_1).length:Nat):Int)) then (y2 l_1 i_1).bind fun x_1=>(zAy F x_1).bind fun r_1 =>
  (bif (r_1 != (0:Int)) then some (.inr (3:Int)) else
  rec (zI (i_1+(1:Int)))) else
  some (.inl ()))
def zAG (F:Nat) (l_1:List (List Int)):Nat→Int→Option (Unit⊕Int)
  | 0,_=>none
  | n+1,i_1=>kF F l_1 (zAG F l_1 n) i_1
def zBz (F:Nat) (l_1:List (List Int)):Option Int :=
  (bif decide ((((l_1).length:Nat):Int)>(32:Int)) then some (7:Int) else
  (zAG F l_1 F (0:Int)).bind fun (o_1:Unit⊕Int) =>
  (match o_1 with
  | (.inl q_1) =>
  some (0:Int)
  | (.inr q_2) =>
  some q_2))
def jE (n_1:Int) (zCo:Int) (zAl:Int):Option Int :=
  (bif (decide (n_1<zCo)||decide (n_1>zAl)) then some (2:Int) else
  some (0:Int))
def zBZ (e_1:zL):Option Int :=
  (((((bif (e_1.Kind==(1:Int)) then some (e_1.Kind==(1:Int)) else
  (bif (e_1.Kind==(2:Int)) then some (e_1.Kind==(2:Int)) else
  some (e_1.Kind==(3:Int)))):Option Bool)).bind fun (o_2:Bool) =>
  (bif o_2 then some (.inr (0:Int)) else
  (bif (e_1.Kind==(4:Int)) then (jE e_1.N (-1000000000000000:Int) (1000000000000000:Int)).bind fun r_1 =>
  some (.inr r_1) else
  (bif (e_1.Kind==(5:Int)) then (jE e_1.N (1:Int) (1000000000000:Int)).bind fun r_2 =>
  some (.inr r_2) else
  (bif (e_1.Kind==(8:Int)) then (jE e_1.N (0:Int) (63:Int)).bind fun r_3 =>
  some (.inr r_3) else
  (bif (e_1.Kind==(9:Int)) then (jE e_1.N (0:Int) (3:Int)).bind fun r_4 =>
  (bif ((r_4==(0:Int))&&(e_1.N==(2:Int))) then (jE e_1.M (0:Int) (1000000000000000:Int)).bind fun r_5 =>
  some (.inr r_5) else
  (bif ((r_4==(0:Int))&&(e_1.M != (0:Int))) then some (.inr (1:Int)) else
  some (.inr r_4))) else
  some (.inl ())))))):Option (Unit⊕Int))).bind fun (o_1:Unit⊕Int) =>
  (match o_1 with
  | (.inl q_1) =>
  (jE e_1.N (0:Int) (1000000000000000:Int)).bind fun r_6 =>
  (bif ((r_6==(0:Int))&&(e_1.Kind==(11:Int))) then (jE e_1.M (1:Int) (1000000000000:Int)).bind fun r_7 =>
  some r_7 else
  some r_6)
  | (.inr q_2) =>
  some q_2)
def zAm (F:Nat) (e_1:zL):Option Int :=
  (bif (decide (e_1.At<(0:Int))||decide (e_1.At>(1000000000000:Int))) then some (2:Int) else
  (bif (decide (e_1.Kind<(1:Int))||decide (e_1.Kind>(12:Int))) then some (1:Int) else
  (zGa e_1.Kind).bind fun r_1 =>
  ((bif !r_1.1 then (bif !(e_1.Name==([]:List Int)) then (some true) else (bif !r_1.2.1 then (bif (e_1.N != (0:Int)) then (some true) else (bif !r_1.2.2.1 then (bif (e_1.M != (0:Int)) then (some true) else (bif !r_1.2.2.2 then (some (decide ((((e_1.Stack).length:Nat):Int)>(0:Int)))) else (some false))) else (bif !r_1.2.2.2 then (some (decide ((((e_1.Stack).length:Nat):Int)>(0:Int)))) else (some false)))) else (bif !r_1.2.2.1 then (bif (e_1.M != (0:Int)) then (some true) else (bif !r_1.2.2.2 then (some (decide ((((e_1.Stack).length:Nat):Int)>(0:Int)))) else (some false))) else (bif !r_1.2.2.2 then (some (decide ((((e_1.Stack).length:Nat):Int)>(0:Int)))) else (some false))))) else (bif !r_1.2.1 then (bif (e_1.N != (0:Int)) then (some true) else (bif !r_1.2.2.1 then (bif (e_1.M != (0:Int)) then (some true) else (bif !r_1.2.2.2 then (some (decide ((((e_1.Stack).length:Nat):Int)>(0:Int)))) else (some false))) else (bif !r_1.2.2.2 then (some (decide ((((e_1.Stack).length:Nat):Int)>(0:Int)))) else (some false)))) else (bif !r_1.2.2.1 then (bif (e_1.M != (0:Int)) then (some true) else (bif !r_1.2.2.2 then (some (decide ((((e_1.Stack).length:Nat):Int)>(0:Int)))) else (some false))) else (bif !r_1.2.2.2 then (some (decide ((((e_1.Stack).length:Nat):Int)>(0:Int)))) else (some false)))))).bind fun (p_1:Bool) =>
  (bif p_1 then some (1:Int) else
  (((bif r_1.1 then (zAy F e_1.Name).bind fun r_2 =>
  some r_2 else
  some (0:Int)):Option Int)).bind fun (o_1:Int) =>
  (((bif r_1.2.2.2 then (zBz F e_1.Stack).bind fun r_3 =>
  some r_3 else
  some o_1):Option Int)).bind fun (o_2:Int) =>
  (bif (o_2 != (0:Int)) then some o_2 else
  (zBZ e_1).bind fun r_4 =>
  some r_4))))
def zCR (F:Nat) (zE:List (List Int)) (zD:List (zO)) (b_1:List (Int)):Option (zL×Int×Int) :=
  (kE F zE zD).bind fun r_1 =>
  (bif (r_1 != (0:Int)) then some ((⟨(0:Int),(0:Int),([]:List Int),(0:Int),(0:Int),[]⟩:zL),(0:Int),(1:Int)) else
  (zCp F b_1 (2:Int)).bind fun r_2 =>
  (bif (r_2.2.2 != (0:Int)) then some ((⟨(0:Int),(0:Int),([]:List Int),(0:Int),(0:Int),[]⟩:zL),(0:Int),r_2.2.2) else
  (((y2 r_2.1 (0:Int)).bind fun x_1=>bif decide (x_1<(1:Int)) then (some true) else ((y2 r_2.1 (0:Int)).bind fun x_2=>some (decide (x_2>(12:Int)))))).bind fun (p_1:Bool) =>
  (bif p_1 then some ((⟨(0:Int),(0:Int),([]:List Int),(0:Int),(0:Int),[]⟩:zL),(0:Int),(10:Int)) else
  (y2 r_2.1 (0:Int)).bind fun x_3=>(zDm x_3).bind fun r_3 =>
  (zDv r_3.1).bind fun r_4=>(zDv r_3.2.1).bind fun r_5=>(zDv r_3.2.2.1).bind fun r_6=>(zDv r_3.2.2.2).bind fun r_7=>(zCp F b_1 (zI ((zI ((zI ((zI ((2:Int)+r_4))+r_5))+r_6))+r_7))).bind fun r_8 =>
  (bif (r_8.2.2 != (0:Int)) then some ((⟨(0:Int),(0:Int),([]:List Int),(0:Int),(0:Int),[]⟩:zL),(0:Int),r_8.2.2) else
  (y2 r_8.1 (0:Int)).bind fun x_4=>(y2 r_8.1 (1:Int)).bind fun x_5 =>
  (((bif r_3.1 then (((y2 r_8.1 (2:Int)).bind fun x_6=>bif decide (x_6<(0:Int)) then (some true) else ((y2 r_8.1 (2:Int)).bind fun x_7=>some (decide (x_7≥(((zE).length:Nat):Int)))))).bind fun (p_2:Bool) =>
  (bif p_2 then some (.inr ((⟨(0:Int),(0:Int),([]:List Int),(0:Int),(0:Int),[]⟩:zL),(0:Int),(2:Int))) else
  (y2 r_8.1 (2:Int)).bind fun x_8=>(y2 zE x_8).bind fun x_9 =>
  some (.inl (zI ((2:Int)+(1:Int)),x_9))) else
  some (.inl ((2:Int),([]:List Int)))):Option ((Int×(List Int))⊕(zL×Int×Int)))).bind fun (o_1:(Int×(List Int))⊕(zL×Int×Int)) =>
  (match o_1 with
  | (.inl q_1) =>
  (((bif r_3.2.1 then (y2 r_8.1 q_1.1).bind fun x_10 =>
  some (zI (q_1.1+(1:Int)),x_10) else
  some (q_1.1,(0:Int))):Option (Int×Int))).bind fun (o_2:(Int×Int)) =>
  (((bif r_3.2.2.1 then (y2 r_8.1 o_2.1).bind fun x_11 =>
  some (zI (o_2.1+(1:Int)),x_11) else
  some (o_2.1,(0:Int))):Option (Int×Int))).bind fun (o_3:(Int×Int)) =>
  (((bif r_3.2.2.2 then (y2 r_8.1 o_3.1).bind fun zGY=>(zDW F zE zD zGY).bind fun r_9 =>
  (bif (r_9.2 != (0:Int)) then some (.inr ((⟨(0:Int),(0:Int),([]:List Int),(0:Int),(0:Int),[]⟩:zL),(0:Int),(2:Int))) else
  some (.inl r_9.1)) else
  some (.inl [])):Option ((List (List Int))⊕(zL×Int×Int)))).bind fun (o_4:(List (List Int))⊕(zL×Int×Int)) =>
  (match o_4 with
  | (.inl q_3) =>
  (zAm F (⟨x_5,x_4,q_1.2,o_2.2,o_3.2,q_3⟩:zL)).bind fun yZ =>
  (bif (yZ != (0:Int)) then some ((⟨(0:Int),(0:Int),([]:List Int),(0:Int),(0:Int),[]⟩:zL),(0:Int),(10:Int)) else
  some ((⟨x_5,x_4,q_1.2,o_2.2,o_3.2,q_3⟩:zL),r_8.2.1,(0:Int)))
  | (.inr q_4) =>
  some q_4)
  | (.inr q_2) =>
  some q_2)))))
def kA (F:Nat) (p_1:zK) (r_1:(List (List (Int)))×zW) (rec:Int→(List zL)→Option ((List zL)⊕((List (zL))×Bool))) (i_1:Int) (zM:List zL):Option ((List zL)⊕((List (zL))×Bool)) :=
  (bif decide (i_1<(((r_1.1).length:Nat):Int)) then (y2 r_1.1 i_1).bind fun x_1=>(zCR F p_1.Names p_1.Stacks x_1).bind fun r_2 =>
  ((bif (r_2.2.2 != (0:Int)) then (some true) else ((y2 r_1.1 i_1).bind fun x_2=>some (r_2.2.1 != (((x_2).length:Nat):Int))))).bind fun (p_2:Bool) =>
  (bif p_2 then some (.inr ([],false)) else
  (need (((zM).length+(([r_2.1]:List zL)).length) * 72≤140737488355328)).bind fun _ =>
  rec (zI (i_1+(1:Int))) (zM++([r_2.1]:List zL))) else
  some (.inl zM))
def zAH (F:Nat) (p_1:zK) (r_1:(List (List (Int)))×zW):Nat→Int→(List zL)→Option ((List zL)⊕((List (zL))×Bool))
  | 0,_,_=>none
  | n+1,i_1,zM=>kA F p_1 r_1 (zAH F p_1 r_1 n) i_1 zM
def zBy (F:Nat) (p_1:zK):Option ((List (zL))×Bool) :=
  (zA9 F p_1.Ring).bind fun r_1 =>
  (zAH F p_1 r_1 F (0:Int) []).bind fun (o_1:(List zL)⊕((List (zL))×Bool)) =>
  (match o_1 with
  | (.inl q_1) =>
  some (q_1,true)
  | (.inr q_2) =>
  some q_2)
def pD (F:Nat) (p_1:zK) (r_4:(List (zL))×Bool) (rec:Int→Option (Unit⊕Int)) (i_1:Int):Option (Unit⊕Int) :=
  (bif decide (i_1<(((r_4.1).length:Nat):Int)) then (((y2 r_4.1 i_1).bind fun x_1=>bif decide (x_1.At>p_1.Last) then (some true) else (bif decide (i_1>(0:Int)) then ((y2 r_4.1 i_1).bind fun x_2=>(y2 r_4.1 (zI (i_1 - (1:Int)))).bind fun x_3=>some (decide (x_2.At<x_3.At))) else (some false)))).bind fun (p_2:Bool) =>
  (bif p_2 then some (.inr (10:Int)) else
  rec (zI (i_1+(1:Int)))) else
  some (.inl ()))
def n6 (F:Nat) (p_1:zK) (r_4:(List (zL))×Bool):Nat→Int→Option (Unit⊕Int)
  | 0,_=>none
  | n+1,i_1=>pD F p_1 r_4 (n6 F p_1 r_4 n) i_1
def zAn (F:Nat) (p_1:zK):Option Int :=
  (zCK F p_1.Thread).bind fun r_1 =>
  (((bif (r_1==(0:Int)) then (kE F p_1.Names p_1.Stacks).bind fun r_2 =>
  some r_2 else
  some r_1):Option Int)).bind fun (o_1:Int) =>
  (((bif (o_1==(0:Int)) then (zAo F p_1.Ring).bind fun r_3 =>
  some r_3 else
  some o_1):Option Int)).bind fun (o_2:Int) =>
  (bif (o_2 != (0:Int)) then some o_2 else
  (bif (decide (p_1.Sent<(0:Int))||(decide (p_1.Sent>p_1.Ring.First)||(decide (p_1.Last<(0:Int))||decide (p_1.Last>(1000000000000:Int))))) then some (2:Int) else
  (zBy F p_1).bind fun r_4 =>
  (bif !r_4.2 then some (10:Int) else
  (n6 F p_1 r_4 F (0:Int)).bind fun (o_3:Unit⊕Int) =>
  (match o_3 with
  | (.inl q_1) =>
  some (0:Int)
  | (.inr q_2) =>
  some q_2))))
def tU (F:Nat) (p_1:zK) (r_2:(List (zL))×Bool) (rec:Int→(List z5)→Option (List z5)) (i_1:Int) (zM:List z5):Option (List z5) :=
  (bif decide (i_1<(((r_2.1).length:Nat):Int)) then (((((bif (i_1==(0:Int)) then some (zI (p_1.Ring.First - p_1.Sent)) else
  some (0:Int)):Option Int)).bind fun (o_3:Int) =>
  (need ((0:Int)≤i_1∧i_1≤(wS (((r_2.1).length:Nat):Int) (zI (i_1+(1000:Int))))∧(wS (((r_2.1).length:Nat):Int) (zI (i_1+(1000:Int))))≤(((r_2.1).length:Nat):Int))).bind fun _=>(need (((zM).length+(([(⟨p_1.Thread.Id,zI (p_1.Ring.First+i_1),o_3,sub r_2.1 i_1 (wS (((r_2.1).length:Nat):Int) (zI (i_1+(1000:Int))))⟩:z5)]:List z5)).length) * 48≤140737488355328)).bind fun _ =>
  some (zM++([(⟨p_1.Thread.Id,zI (p_1.Ring.First+i_1),o_3,sub r_2.1 i_1 (wS (((r_2.1).length:Nat):Int) (zI (i_1+(1000:Int))))⟩:z5)]:List z5)):Option (List z5))).bind fun (o_2:(List z5)) =>
  rec (zI (i_1+(1000:Int))) o_2 else
  some zM)
def nV (F:Nat) (p_1:zK) (r_2:(List (zL))×Bool):Nat→Int→(List z5)→Option (List z5)
  | 0,_,_=>none
  | n+1,i_1,zM=>tU F p_1 r_2 (nV F p_1 r_2 n) i_1 zM
def zDP (F:Nat) (p_1:zK):Option ((List (z5))×zK) :=
  (zAn F p_1).bind fun r_1 =>
  (bif (r_1 != (0:Int)) then some ([],p_1) else
  (zBy F p_1).bind fun r_2 =>
  (nV F p_1 r_2 F (0:Int) []).bind fun (o_1:(List z5)) =>
  (zA9 F p_1.Ring).bind fun r_3 =>
  some (o_1,(⟨p_1.Thread,p_1.Names,p_1.Stacks,r_3.2,p_1.Last,r_3.2.Next⟩:zK)))
def t3 (F:Nat) (a_1:List (List Int)) (b_1:List (List Int)) (rec:Int→Option (Unit⊕Bool)) (i_1:Int):Option (Unit⊕Bool) :=
  (bif decide (i_1<(((a_1).length:Nat):Int)) then (y2 a_1 i_1).bind fun x_1=>(y2 b_1 i_1).bind fun x_2 =>
  (bif !(x_1==x_2) then some (.inr false) else
  rec (zI (i_1+(1:Int)))) else
  some (.inl ()))
def zBb (F:Nat) (a_1:List (List Int)) (b_1:List (List Int)):Nat→Int→Option (Unit⊕Bool)
  | 0,_=>none
  | n+1,i_1=>t3 F a_1 b_1 (zBb F a_1 b_1 n) i_1
def zDN (F:Nat) (a_1:List (List Int)) (b_1:List (List Int)):Option Bool :=
  (bif ((((a_1).length:Nat):Int) != (((b_1).length:Nat):Int)) then some false else
  (zBb F a_1 b_1 F (0:Int)).bind fun (o_1:Unit⊕Bool) =>
  (match o_1 with
  | (.inl q_1) =>
  some true
  | (.inr q_2) =>
  some q_2))
def zEz (F:Nat) (a_1:zL) (b_1:zL):Option Bool :=
  ((bif (a_1.At==b_1.At) then (bif (a_1.Kind==b_1.Kind) then (bif (a_1.Name==b_1.Name) then (bif (a_1.N==b_1.N) then (bif (a_1.M==b_1.M) then ((zDN F a_1.Stack b_1.Stack).bind fun r_1=>some r_1) else (some false)) else (some false)) else (some false)) else (some false)) else (some false))).bind fun (p_1:Bool) =>
  some p_1
def uU (F:Nat) (a_1:List (zL)) (b_1:List (zL)) (rec:Int→Option (Unit⊕Bool)) (i_1:Int):Option (Unit⊕Bool) :=
  (bif decide (i_1<(((a_1).length:Nat):Int)) then (y2 a_1 i_1).bind fun x_1=>(y2 b_1 i_1).bind fun x_2=>(zEz F x_1 x_2).bind fun r_1 =>
  (bif !r_1 then some (.inr false) else
  rec (zI (i_1+(1:Int)))) else
  some (.inl ()))
def n7 (F:Nat) (a_1:List (zL)) (b_1:List (zL)):Nat→Int→Option (Unit⊕Bool)
  | 0,_=>none
  | n+1,i_1=>uU F a_1 b_1 (n7 F a_1 b_1 n) i_1
def zCc (F:Nat) (a_1:List (zL)) (b_1:List (zL)):Option Bool :=
  (bif ((((a_1).length:Nat):Int) != (((b_1).length:Nat):Int)) then some false else
  (n7 F a_1 b_1 F (0:Int)).bind fun (o_1:Unit⊕Bool) =>
  (match o_1 with
  | (.inl q_1) =>
  some true
  | (.inr q_2) =>
  some q_2))
def vS (F:Nat) (a_1:List (z5)) (b_1:List (z5)) (rec:Int→Option (Unit⊕Bool)) (i_1:Int):Option (Unit⊕Bool) :=
  (bif decide (i_1<(((a_1).length:Nat):Int)) then (((y2 a_1 i_1).bind fun x_1=>(y2 b_1 i_1).bind fun x_2=>bif (x_1.Thread != x_2.Thread) then (some true) else ((y2 a_1 i_1).bind fun x_3=>(y2 b_1 i_1).bind fun x_4=>bif (x_3.Serial != x_4.Serial) then (some true) else ((y2 a_1 i_1).bind fun x_5=>(y2 b_1 i_1).bind fun x_6=>bif (x_5.Lost != x_6.Lost) then (some true) else ((y2 a_1 i_1).bind fun x_7=>(y2 b_1 i_1).bind fun x_8=>(zCc F x_7.Events x_8.Events).bind fun r_1=>some (!r_1)))))).bind fun (p_1:Bool) =>
  (bif p_1 then some (.inr false) else
  rec (zI (i_1+(1:Int)))) else
  some (.inl ()))
def kB (F:Nat) (a_1:List (z5)) (b_1:List (z5)):Nat→Int→Option (Unit⊕Bool)
  | 0,_=>none
  | n+1,i_1=>vS F a_1 b_1 (kB F a_1 b_1 n) i_1
def nB (F:Nat) (a_1:List (z5)) (b_1:List (z5)):Option Bool :=
  (bif ((((a_1).length:Nat):Int) != (((b_1).length:Nat):Int)) then some false else
  (kB F a_1 b_1 F (0:Int)).bind fun (o_1:Unit⊕Bool) =>
  (match o_1 with
  | (.inl q_1) =>
  some true
  | (.inr q_2) =>
  some q_2))
def zEB (F:Nat) (p_1:zK):Option Int :=
  (zAn F p_1).bind fun r_1 =>
  (bif (r_1 != (0:Int)) then some (0:Int) else
  some (zI (p_1.Ring.First - p_1.Sent)))
def zEq (F:Nat) (zE:List (List Int)) (s_1:List Int):Option (Int×(List (List Int))×Int) :=
  (zAy F s_1).bind fun r_1 =>
  (bif (r_1 != (0:Int)) then some ((0:Int),zE,(3:Int)) else
  (zDi F zE s_1).bind fun r_2 =>
  (bif decide (r_2≥(0:Int)) then some (r_2,zE,(0:Int)) else
  (bif decide ((((zE).length:Nat):Int)≥(1000:Int)) then some ((0:Int),zE,(6:Int)) else
  (need (((([]:List (List Int))).length+(zE).length) * 16≤140737488355328)).bind fun _=>(need (((([]++zE)).length+(([s_1]:List (List Int))).length) * 16≤140737488355328)).bind fun _ =>
  some ((((zE).length:Nat):Int),(([]++zE)++([s_1]:List (List Int))),(0:Int)))))
def q7 (F:Nat) (zE:List (List Int)) (zD:List (zO)) (l_1:List (List Int)) (rec:Int→(List (List Int))→Int→(List zO)→Option ((Int×(List (List Int))×(List zO))⊕(Int×(List (List Int))×(List (zO))×Int))) (yA:Int) (n_1:List (List Int)) (k_1:Int) (zM:List zO):Option ((Int×(List (List Int))×(List zO))⊕(Int×(List (List Int))×(List (zO))×Int)) :=
  (bif decide (k_1<(((l_1).length:Nat):Int)) then (((y2 l_1 k_1).bind fun x_1=>(zEq F n_1 x_1).bind fun r_2 =>
  (bif (r_2.2.2 != (0:Int)) then some (.inr ((0:Int),zE,zD,r_2.2.2)) else
  (p9 F zM (⟨yA,r_2.1⟩:zO)).bind fun r_3 =>
  (bif decide (r_3≥(0:Int)) then some (.inl (r_3,r_2.2.1,zM)) else
  (bif decide ((((zM).length:Nat):Int)≥(1000:Int)) then some (.inr ((0:Int),zE,zD,(6:Int))) else
  (need (((zM).length+(([(⟨yA,r_2.1⟩:zO)]:List zO)).length) * 16≤140737488355328)).bind fun _ =>
  some (.inl ((((zM).length:Nat):Int),r_2.2.1,(zM++([(⟨yA,r_2.1⟩:zO)]:List zO))))))):Option ((Int×(List (List Int))×(List zO))⊕(Int×(List (List Int))×(List (zO))×Int)))).bind fun (o_2:(Int×(List (List Int))×(List zO))⊕(Int×(List (List Int))×(List (zO))×Int)) =>
  (match o_2 with
  | (.inl q_1) =>
  rec q_1.1 q_1.2.1 (zI (k_1+(1:Int))) q_1.2.2
  | (.inr q_2) =>
  some (.inr q_2)) else
  some (.inl (yA,n_1,zM)))
def kT (F:Nat) (zE:List (List Int)) (zD:List (zO)) (l_1:List (List Int)):Nat→Int→(List (List Int))→Int→(List zO)→Option ((Int×(List (List Int))×(List zO))⊕(Int×(List (List Int))×(List (zO))×Int))
  | 0,_,_,_,_=>none
  | n+1,yA,n_1,k_1,zM=>q7 F zE zD l_1 (kT F zE zD l_1 n) yA n_1 k_1 zM
def n9 (F:Nat) (zE:List (List Int)) (zD:List (zO)) (l_1:List (List Int)):Option (Int×(List (List Int))×(List (zO))×Int) :=
  (zBz F l_1).bind fun r_1 =>
  (bif (r_1 != (0:Int)) then some ((0:Int),zE,zD,r_1) else
  (need (((([]:List zO)).length+(zD).length) * 16≤140737488355328)).bind fun _ =>
  (kT F zE zD l_1 F (-1:Int) zE (0:Int) ([]++zD)).bind fun (o_1:(Int×(List (List Int))×(List zO))⊕(Int×(List (List Int))×(List (zO))×Int)) =>
  (match o_1 with
  | (.inl q_3) =>
  some (q_3.1,q_3.2.1,q_3.2.2,(0:Int))
  | (.inr q_4) =>
  some q_4))
def zCV (n_1:Int):Option Int :=
  (bif decide (n_1<(0:Int)) then some (yN ((yN ((2:Int) * (yN (zI (0 - (zI (n_1+(1:Int))))))))+(1:Int))) else
  some (yN ((2:Int) * (yN n_1))))
def tA (F:Nat) (rec:Int→(List Int)→Option (Int×(List Int))) (u_1:Int) (zM:List Int):Option (Int×(List Int)) :=
  (bif decide (u_1≥(128:Int)) then (need (((zM).length+(([wH ((wH (yM u_1 (128:Int)))+(128:Int))]:List Int)).length) * 1≤140737488355328)).bind fun _ =>
  rec (zEL .u64 u_1 (128:Int)) (zM++([wH ((wH (yM u_1 (128:Int)))+(128:Int))]:List Int)) else
  some (u_1,zM))
def kV (F:Nat):Nat→Int→(List Int)→Option (Int×(List Int))
  | 0,_,_=>none
  | n+1,u_1,zM=>tA F (kV F n) u_1 zM
def zBv (F:Nat) (b_1:List (Int)) (n_1:Int):Option (List (Int)) :=
  (need (((([]:List Int)).length+(b_1).length) * 1≤140737488355328)).bind fun _ =>
  (zCV n_1).bind fun r_1 =>
  (kV F F r_1 ([]++b_1)).bind fun (o_1:(Int×(List Int))) =>
  (need (((o_1.2).length+(([wH o_1.1]:List Int)).length) * 1≤140737488355328)).bind fun _ =>
  some (o_1.2++([wH o_1.1]:List Int))
def tG (F:Nat) (l_1:List (Int)) (rec:(List Int)→Int→Option (List Int)) (zA6:List Int) (i_1:Int):Option (List Int) :=
  (bif decide (i_1<(((l_1).length:Nat):Int)) then (y2 l_1 i_1).bind fun x_1=>(zBv F zA6 x_1).bind fun r_1 =>
  rec r_1 (zI (i_1+(1:Int))) else
  some zA6)
def zAI (F:Nat) (l_1:List (Int)):Nat→(List Int)→Int→Option (List Int)
  | 0,_,_=>none
  | n+1,zA6,i_1=>tG F l_1 (zAI F l_1 n) zA6 i_1
def zBt (F:Nat) (l_1:List (Int)):Option (List (Int)) :=
  (zAI F l_1 F [] (0:Int)).bind fun (o_1:(List Int)) =>
  some o_1
def zCX (F:Nat) (zE:List (List Int)) (zD:List (zO)) (e_1:zL):Option zY1 :=
  (kE F zE zD).bind fun r_1 =>
  (bif (r_1 != (0:Int)) then some ([],[],[],(1:Int)) else
  (zAm F e_1).bind fun r_2 =>
  (bif (r_2 != (0:Int)) then some ([],[],[],r_2) else
  (zDm e_1.Kind).bind fun r_3 =>
  (((bif r_3.1 then (zEq F zE e_1.Name).bind fun r_4 =>
  (bif (r_4.2.2 != (0:Int)) then some (.inr ([],[],[],r_4.2.2)) else
  (need (((([e_1.Kind,e_1.At]:List Int)).length+(([r_4.1]:List Int)).length) * 8≤140737488355328)).bind fun _ =>
  some (.inl (r_4.2.1,(([e_1.Kind,e_1.At]:List Int)++([r_4.1]:List Int))))) else
  some (.inl (zE,([e_1.Kind,e_1.At]:List Int)))):Option (((List (List Int))×(List Int))⊕zY1))).bind fun (o_1:((List (List Int))×(List Int))⊕zY1) =>
  (match o_1 with
  | (.inl q_1) =>
  (((bif r_3.2.1 then (need (((q_1.2).length+(([e_1.N]:List Int)).length) * 8≤140737488355328)).bind fun _ =>
  some (q_1.2++([e_1.N]:List Int)) else
  some q_1.2):Option (List Int))).bind fun (o_2:(List Int)) =>
  (((bif r_3.2.2.1 then (need (((o_2).length+(([e_1.M]:List Int)).length) * 8≤140737488355328)).bind fun _ =>
  some (o_2++([e_1.M]:List Int)) else
  some o_2):Option (List Int))).bind fun (o_3:(List Int)) =>
  (((bif r_3.2.2.2 then (n9 F q_1.1 zD e_1.Stack).bind fun r_5 =>
  (bif (r_5.2.2.2 != (0:Int)) then some (.inr ([],[],[],r_5.2.2.2)) else
  (need (((o_3).length+(([r_5.1]:List Int)).length) * 8≤140737488355328)).bind fun _ =>
  some (.inl (r_5.2.1,r_5.2.2.1,(o_3++([r_5.1]:List Int))))) else
  some (.inl (q_1.1,zD,o_3))):Option (((List (List Int))×(List zO)×(List Int))⊕zY1))).bind fun (o_4:((List (List Int))×(List zO)×(List Int))⊕zY1) =>
  (match o_4 with
  | (.inl q_3) =>
  (zBt F q_3.2.2).bind fun r_6 =>
  some (r_6,q_3.1,q_3.2.1,(0:Int))
  | (.inr q_4) =>
  some q_4)
  | (.inr q_2) =>
  some q_2)))
def zCD (F:Nat) (b_1:List (Int)):Option (List (Int)) :=
  (zBv F [] (((b_1).length:Nat):Int)).bind fun r_1=>(need (((r_1).length+(b_1).length) * 1≤140737488355328)).bind fun _ =>
  some (r_1++b_1)
def zDh (F:Nat) (r_1:zW):Option Int :=
  (zAo F r_1).bind fun r_2 =>
  (bif (r_2 != (0:Int)) then some (0:Int) else
  some (zI ((((r_1.Data).length:Nat):Int) - (zI (r_1.End - r_1.Start)))))
def jR (F:Nat) (yA:Int) (vM:List (Int)) (rec:Int→(List Int)→Option (List Int)) (i_1:Int) (zM:List Int):Option (List Int) :=
  (bif decide (i_1<(((vM).length:Nat):Int)) then (need ((((zM).length:Nat):Int)≠(0:Int))).bind fun _=>(y2 vM i_1).bind fun x_1=>(y2 zM (yM (zI (yA+i_1)) (((zM).length:Nat):Int))).bind fun x_2 =>
  rec (zI (i_1+(1:Int))) ((zM).set ((yM (zI (yA+i_1)) (((zM).length:Nat):Int)).toNat) x_1) else
  some zM)
def pJ (F:Nat) (yA:Int) (vM:List (Int)):Nat→Int→(List Int)→Option (List Int)
  | 0,_,_=>none
  | n+1,i_1,zM=>jR F yA vM (pJ F yA vM n) i_1 zM
def zCg (F:Nat) (jG:List (Int)) (yA:Int) (vM:List (Int)):Option (List (Int)) :=
  (need (((([]:List Int)).length+(jG).length) * 1≤140737488355328)).bind fun _ =>
  (pJ F yA vM F (0:Int) ([]++jG)).bind fun (o_1:(List Int)) =>
  some o_1
def jB (F:Nat) (r_3:(List (Int))) (r_6:(List (List (Int)))×Bool) (rec:Int→Int→Int→Option (Int×Int)) (xB:Int) (vH:Int) (c_1:Int):Option (Int×Int) :=
  (bif decide (vH<(((r_3).length:Nat):Int)) then (y2 r_6.1 xB).bind fun x_1=>(zCD F x_1).bind fun r_7 =>
  rec (zI (xB+(1:Int))) (zI (vH+(((r_7).length:Nat):Int))) (zI (c_1+(((r_7).length:Nat):Int))) else
  some (xB,c_1))
def zBu (F:Nat) (r_3:(List (Int))) (r_6:(List (List (Int)))×Bool):Nat→Int→Int→Int→Option (Int×Int)
  | 0,_,_,_=>none
  | n+1,xB,vH,c_1=>jB F r_3 r_6 (zBu F r_3 r_6 n) xB vH c_1
def zFt (F:Nat) (r_1:zW) (b_1:List (Int)):Option (zW×Int×Int) :=
  (zAo F r_1).bind fun r_2 =>
  (bif (r_2 != (0:Int)) then some (r_1,(0:Int),r_2) else
  (zCD F b_1).bind fun r_3 =>
  (bif (decide ((((b_1).length:Nat):Int)>(2000:Int))||decide ((((r_3).length:Nat):Int)>(((r_1.Data).length:Nat):Int))) then some (r_1,(0:Int),(7:Int)) else
  ((bif (r_1.Policy==(2:Int)) then ((zDh F r_1).bind fun r_4=>some (decide ((((r_3).length:Nat):Int)>r_4))) else (some false))).bind fun (p_1:Bool) =>
  (bif p_1 then some (r_1,(0:Int),(6:Int)) else
  (bif (decide ((zI (r_1.End+(((r_3).length:Nat):Int)))>(1000000000000000:Int))||decide ((zI (r_1.Next+(1:Int)))>(1000000000000000:Int))) then some (r_1,(0:Int),(2:Int)) else
  (pV F r_1).bind fun r_5=>(nN F r_5).bind fun r_6 =>
  (zBu F r_3 r_6 F (0:Int) (zI ((((r_1.Data).length:Nat):Int) - (zI (r_1.End - r_1.Start)))) r_1.Start).bind fun (o_1:(Int×Int)) =>
  (zCg F r_1.Data r_1.End r_3).bind fun r_8 =>
  some ((⟨r_1.Policy,r_8,o_1.2,zI (r_1.End+(((r_3).length:Nat):Int)),zI (r_1.First+o_1.1),zI (r_1.Next+(1:Int))⟩:zW),o_1.1,(0:Int))))))
def zDO (F:Nat) (p_1:zK) (e_1:zL):Option (zK×Int) :=
  (zAn F p_1).bind fun r_1 =>
  (((bif (r_1==(0:Int)) then (zAm F e_1).bind fun r_2 =>
  some r_2 else
  some r_1):Option Int)).bind fun (o_1:Int) =>
  (((bif ((o_1==(0:Int))&&decide (e_1.At<p_1.Last)) then some (11:Int) else
  some o_1):Option Int)).bind fun (o_2:Int) =>
  (bif (o_2 != (0:Int)) then some ((⟨(⟨(0:Int),([]:List Int),(0:Int)⟩:yQ),[],[],(⟨(0:Int),[],(0:Int),(0:Int),(0:Int),(0:Int)⟩:zW),(0:Int),(0:Int)⟩:zK),o_2) else
  (zCX F p_1.Names p_1.Stacks e_1).bind fun r_3 =>
  (bif (r_3.2.2.2 != (0:Int)) then some ((⟨(⟨(0:Int),([]:List Int),(0:Int)⟩:yQ),[],[],(⟨(0:Int),[],(0:Int),(0:Int),(0:Int),(0:Int)⟩:zW),(0:Int),(0:Int)⟩:zK),r_3.2.2.2) else
  (zFt F p_1.Ring r_3.1).bind fun r_4 =>
  (bif (r_4.2.2 != (0:Int)) then some ((⟨(⟨(0:Int),([]:List Int),(0:Int)⟩:yQ),[],[],(⟨(0:Int),[],(0:Int),(0:Int),(0:Int),(0:Int)⟩:zW),(0:Int),(0:Int)⟩:zK),r_4.2.2) else
  some ((⟨p_1.Thread,r_3.2.1,r_3.2.2.1,r_4.1,e_1.At,p_1.Sent⟩:zK),(0:Int)))))
def vT (F:Nat) (p_1:zK) (rec:Int→Option (Unit⊕Bool)) (i_1:Int):Option (Unit⊕Bool) :=
  (bif decide (i_1<(((p_1.Names).length:Nat):Int)) then (y2 p_1.Names i_1).bind fun x_1 =>
  (bif decide ((((x_1).length:Nat):Int)>(200:Int)) then some (.inr true) else
  rec (zI (i_1+(1:Int)))) else
  some (.inl ()))
def vP (F:Nat) (p_1:zK):Nat→Int→Option (Unit⊕Bool)
  | 0,_=>none
  | n+1,i_1=>vT F p_1 (vP F p_1 n) i_1
def tF (F:Nat) (p_1:zK) (e_1:zL):Option Bool :=
  (((zDV F).bind fun r_1=>bif !r_1 then (some true) else ((zD1 F e_1).bind fun r_2=>bif !r_2 then (some true) else (bif decide ((((p_1.Names).length:Nat):Int)>(60:Int)) then (some true) else (bif decide ((((p_1.Stacks).length:Nat):Int)>(60:Int)) then (some true) else (bif decide ((((p_1.Ring.Data).length:Nat):Int)>(400:Int)) then (some true) else (some (decide ((((p_1.Thread.Name).length:Nat):Int)>(200:Int)))))))))).bind fun (p_2:Bool) =>
  (bif p_2 then (zDV F).bind fun r_3 =>
  some r_3 else
  (vP F p_1 F (0:Int)).bind fun (o_1:Unit⊕Bool) =>
  (match o_1 with
  | (.inl q_1) =>
  (jZ F p_1).bind fun r_4 =>
  (j2 F p_1).bind fun r_5 =>
  (zDP F p_1).bind fun r_6 =>
  (tJ F p_1 e_1).bind fun r_7 =>
  (zDO F p_1 e_1).bind fun r_8 =>
  (((zAn F p_1).bind fun r_9=>bif (r_4 != r_9) then (some true) else ((p8 F p_1).bind fun yZ=>(zEB F p_1).bind fun xK=>bif (yZ != xK) then (some true) else ((nB F r_5.1 r_6.1).bind fun t6=>bif !t6 then (some true) else (bif (r_7.2 != r_8.2) then (some true) else ((zDw F r_7.1 r_8.1).bind fun uV=>some (!uV))))))).bind fun (p_3:Bool) =>
  (bif p_3 then some false else
  ((bif (r_4 != (0:Int)) then (some true) else ((zDw F r_5.2 r_6.2).bind fun r_14=>some r_14))).bind fun (p_4:Bool) =>
  some p_4)
  | (.inr q_2) =>
  some q_2))
abbrev xY (a0:Int) (a1:List Int) (a2:Int) (a3:Int) (a4:Int) (a5:Int):List AV:=[Ii a0,.sl false 1 (Mb a1),Ii a2,Ii a3,Ii a4,Ii a5]
abbrev uS (a0:Int) (a1:Int) (a2:List Int) (a3:Int) (a4:Int) (a5:List (List Int)):List AV:=[Ii a0,Ii a1,.str a2,Ii a3,Ii a4,.sl false 1 (Ms a5)]
abbrev xC (a0:Int) (a1:List Int) (a2:Int) (a3:List (List Int)) (a4:List zO) (a5:Int) (a6:List Int) (a7:Int) (a8:Int) (a9:Int) (a10:Int) (a11:Int) (a12:Int):List AV:=[Ii a0,.str a1,Ii a2,.sl false 1 (Ms a3),.sl false 2 (Mp zA a4),Ii a5,.sl false 1 (Mb a6),Ii a7,Ii a8,Ii a9,Ii a10,Ii a11,Ii a12]
abbrev zMb:List Int→AV:=fun l=>AV.sl false 1 (l.map (AV.int .u8))
abbrev zL0:yQ:=(⟨(0:Int),([]:List Int),(0:Int)⟩:yQ)
abbrev zL1:zW:=(⟨(0:Int),[],(0:Int),(0:Int),(0:Int),(0:Int)⟩:zW)
abbrev zL2:zL:=(⟨(0:Int),(0:Int),([]:List Int),(0:Int),(0:Int),[]⟩:zL)
abbrev zL3:yL:=(⟨([]:List Int),false,false,false,false,(0:Int),(0:Int),(0:Int),(0:Int)⟩:yL)
abbrev zL4:yL:=(⟨([101,110,100]:List Int),false,false,false,false,(0:Int),(0:Int),(0:Int),(0:Int)⟩:yL)
abbrev zL5:yL:=(⟨([114,117,110]:List Int),false,true,false,false,(0:Int),(63:Int),(0:Int),(0:Int)⟩:yL)
abbrev zL6:yL:=(⟨([109,97,114,107]:List Int),true,false,false,false,(0:Int),(0:Int),(0:Int),(0:Int)⟩:yL)
abbrev zL7:yL:=(⟨([98,101,103,105,110]:List Int),true,false,false,false,(0:Int),(0:Int),(0:Int),(0:Int)⟩:yL)
abbrev zL8:yL:=(⟨([114,101,99,118]:List Int),false,true,false,false,(0:Int),(1000000000000000:Int),(0:Int),(0:Int)⟩:yL)
abbrev zL9:yL:=(⟨([115,116,111,112]:List Int),false,true,true,false,(0:Int),(3:Int),(0:Int),(1000000000000000:Int)⟩:yL)
abbrev zLO:yL:=(⟨([119,97,107,101]:List Int),false,true,false,false,(0:Int),(1000000000000000:Int),(0:Int),(0:Int)⟩:yL)
abbrev zLF:yL:=(⟨([115,101,110,100]:List Int),false,true,false,false,(0:Int),(1000000000000000:Int),(0:Int),(0:Int)⟩:yL)
abbrev zLd:yL:=(⟨([102,114,101,101]:List Int),false,true,false,false,(0:Int),(1000000000000000:Int),(0:Int),(0:Int)⟩:yL)
abbrev zMZ:yL:=(⟨([115,97,109,112,108,101]:List Int),false,true,false,true,(1:Int),(1000000000000:Int),(0:Int),(0:Int)⟩:yL)
abbrev zLW:yL:=(⟨([97,108,108,111,99]:List Int),false,true,true,true,(0:Int),(1000000000000000:Int),(1:Int),(1000000000000:Int)⟩:yL)
abbrev zMM:yL:=(⟨([99,111,117,110,116]:List Int),true,true,false,false,(-1000000000000000:Int),(1000000000000000:Int),(0:Int),(0:Int)⟩:yL)
abbrev yO:zK:=(⟨(⟨(0:Int),([]:List Int),(0:Int)⟩:yQ),[],[],(⟨(0:Int),[],(0:Int),(0:Int),(0:Int),(0:Int)⟩:zW),(0:Int),(0:Int)⟩:zK)
abbrev xW:yI:=Vb 32 [Ii 0,.str ([]:List Int),Ii 0,.nilsl,.nilsl,Ii 0,.nilsl,Ii 0,Ii 0,Ii 0,Ii 0,Ii 0,Ii 0]
abbrev zJD:yI:=Vb 94 [.str ([]:List Int),.bool false,.bool false,.bool false,.bool false,Ii 0,Ii 0,Ii 0,Ii 0]
abbrev xN:yI:=Vb 45 [Ii 0,Ii 0,.str ([]:List Int),Ii 0,Ii 0,.nilsl]
abbrev xU:yI:=Vb 30 [Ii 0,.nilsl,Ii 0,Ii 0,Ii 0,Ii 0]
abbrev zB0 (t_1:yQ):Bool:=(decide (t_1.Id<(0:Int))||(decide (t_1.Id>(1000000000000000:Int))||(decide (t_1.Domain<(0:Int))||decide (t_1.Domain≥(8:Int)))))
abbrev zB1 (zE:List (List Int)) (zD:List (zO)):Bool:=(decide ((lN (zE))>(1000:Int))||decide ((lN (zD))>(1000:Int)))
abbrev zB2 (r_1:zW):Bool:=(decide ((lN (r_1.Data))<(16:Int))||decide ((lN (r_1.Data))>(65536:Int)))
abbrev zB3 (e_1:zL):Bool:=((e_1.Kind==(9:Int))&&((e_1.N != (2:Int))&&(e_1.M != (0:Int))))
abbrev zB4 (e_1:zL):Bool:=(decide (e_1.At<(0:Int))||decide (e_1.At>(1000000000000:Int)))
abbrev zB5 (p_1:zK):Bool:=(decide (p_1.Sent<(0:Int))||(decide (p_1.Sent>p_1.Ring.First)||(decide (p_1.Last<(0:Int))||decide (p_1.Last>(1000000000000:Int)))))
abbrev zB6 (c_1:Int):Bool:=(bif decide (c_1≥(97:Int)) then (decide (c_1≤(122:Int))||(bif decide (c_1≥(65:Int)) then (decide (c_1≤(90:Int))||(decide (c_1≥(48:Int))&&decide (c_1≤(57:Int)))) else (decide (c_1≥(48:Int))&&decide (c_1≤(57:Int))))) else (bif decide (c_1≥(65:Int)) then (decide (c_1≤(90:Int))||(decide (c_1≥(48:Int))&&decide (c_1≤(57:Int)))) else (decide (c_1≥(48:Int))&&decide (c_1≤(57:Int)))))
abbrev zB7 (r_1:zW):Bool:=(decide ((lN (r_1.Data))<(16:Int))||(decide ((lN (r_1.Data))>(65536:Int))||(decide (r_1.Start<(0:Int))||(decide (r_1.Start>r_1.End)||(decide (r_1.End>(1000000000000000:Int))||(decide ((zI (r_1.End - r_1.Start))>(lN (r_1.Data)))||(decide (r_1.First<(0:Int))||(decide (r_1.First>r_1.Next)||decide (r_1.Next>(1000000000000000:Int))))))))))
abbrev zB8 (a_1:zK) (b_1:zK):Bool:=((a_1.Ring.Policy != b_1.Ring.Policy)||(((lN (a_1.Ring.Data)) != (lN (b_1.Ring.Data)))||((a_1.Ring.Start != b_1.Ring.Start)||((a_1.Ring.End != b_1.Ring.End)||((a_1.Ring.First != b_1.Ring.First)||(a_1.Ring.Next != b_1.Ring.Next))))))
abbrev zB9 (e_1:zL):Bool:=(decide ((lN (e_1.Name))>(200:Int))||decide ((lN (e_1.Stack))>(60:Int)))
abbrev zQ0 (q:zY0):zK:=(⟨(⟨q.2.2.2.2.2.2.2.2.2.2.2.2.2.1,q.2.2.2.2.2.2.2.2.2.2.2.2.2.2.1,q.2.2.2.2.2.2.2.2.2.2.2.2.2.2.2.1⟩:yQ),q.2.2.2.2.2.2.2.2.2.2.2.2.2.2.2.2.1,q.2.2.2.2.2.2.2.2.2.2.2.2.2.2.2.2.2.1,(⟨q.2.2.2.2.2.2.2.2.2.2.2.2.2.2.2.2.2.2.1,q.2.2.2.2.2.2.2.2.2.2.2.2.2.2.2.2.2.2.2.1,q.2.2.2.2.2.2.2.2.2.2.2.2.2.2.2.2.2.2.2.2.1,q.2.2.2.2.2.2.2.2.2.2.2.2.2.2.2.2.2.2.2.2.2.1,q.2.2.2.2.2.2.2.2.2.2.2.2.2.2.2.2.2.2.2.2.2.2.1,q.2.2.2.2.2.2.2.2.2.2.2.2.2.2.2.2.2.2.2.2.2.2.2.1⟩:zW),q.2.2.2.2.2.2.2.2.2.2.2.2.2.2.2.2.2.2.2.2.2.2.2.2.1,q.2.2.2.2.2.2.2.2.2.2.2.2.2.2.2.2.2.2.2.2.2.2.2.2.2⟩:zK)
abbrev zQ1 (q:zY0):List AV:=(xC q.2.2.2.2.2.2.2.2.2.2.2.2.2.1 q.2.2.2.2.2.2.2.2.2.2.2.2.2.2.1 q.2.2.2.2.2.2.2.2.2.2.2.2.2.2.2.1 q.2.2.2.2.2.2.2.2.2.2.2.2.2.2.2.2.1 q.2.2.2.2.2.2.2.2.2.2.2.2.2.2.2.2.2.1 q.2.2.2.2.2.2.2.2.2.2.2.2.2.2.2.2.2.2.1 q.2.2.2.2.2.2.2.2.2.2.2.2.2.2.2.2.2.2.2.1 q.2.2.2.2.2.2.2.2.2.2.2.2.2.2.2.2.2.2.2.2.1 q.2.2.2.2.2.2.2.2.2.2.2.2.2.2.2.2.2.2.2.2.2.1 q.2.2.2.2.2.2.2.2.2.2.2.2.2.2.2.2.2.2.2.2.2.2.1 q.2.2.2.2.2.2.2.2.2.2.2.2.2.2.2.2.2.2.2.2.2.2.2.1 q.2.2.2.2.2.2.2.2.2.2.2.2.2.2.2.2.2.2.2.2.2.2.2.2.1 q.2.2.2.2.2.2.2.2.2.2.2.2.2.2.2.2.2.2.2.2.2.2.2.2.2)
abbrev zQ2 (q:zY0):List AV:=(xC q.1 q.2.1 q.2.2.1 q.2.2.2.1 q.2.2.2.2.1 q.2.2.2.2.2.1 q.2.2.2.2.2.2.1 q.2.2.2.2.2.2.2.1 q.2.2.2.2.2.2.2.2.1 q.2.2.2.2.2.2.2.2.2.1 q.2.2.2.2.2.2.2.2.2.2.1 q.2.2.2.2.2.2.2.2.2.2.2.1 q.2.2.2.2.2.2.2.2.2.2.2.2.1)
abbrev zT4 {A B C D E:Type} (q:A×B×C×D×E):E:=q.2.2.2.2
abbrev zT8 {A B C D E A1 B1 C1 D1:Type} (q:A×B×C×D×A1×B1×C1×D1×E):E:=q.2.2.2.2.2.2.2.2
end Go.Ab
