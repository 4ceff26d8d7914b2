/- Printed: the typed Lean functions of the Go functions, or the proofs that the Go functions meet them. No conditions but those that the theorems name. -/
import Derived.Test.YtbifmbdcejggkaaA35
import Derived.Test.YtbifmbdcejggkaaA51
namespace Go.Ab
open Go
set_option linter.unusedVariables false
structure z0 where
  Id:Int
  Name:List Int
  Domain:Int
  deriving DecidableEq,Inhabited
def yI (s:z0):List AV:=[.int .i64 s.Id,.str s.Name,.int .i64 s.Domain]
def zG (s:z0):AV:=.agg (yI s)
structure zU where
  Id:Int
  Ppm:Int
  deriving DecidableEq,Inhabited
def uR (s:zU):List AV:=[.int .i64 s.Id,.int .i64 s.Ppm]
def zC (s:zU):AV:=.agg (uR s)
structure zAD where
  Lo:Int
  Hi:Int
  deriving DecidableEq,Inhabited
structure xR where
  A:Int
  AtA:Int
  B:Int
  AtB:zAD
  deriving DecidableEq,Inhabited
def vE (s:xR):List AV:=[.int .i64 s.A,.int .i64 s.AtA,.int .i64 s.B,.int .i64 s.AtB.Lo,.int .i64 s.AtB.Hi]
def zK (s:xR):AV:=.agg (vE s)
structure zL where
  Threads:List (z0)
  Domains:List (zU)
  Snaps:List (xR)
  deriving DecidableEq,Inhabited
def zN (s:zL):List AV:=[.sl false 3 (List.map zG s.Threads),.sl false 2 (List.map zC s.Domains),.sl false 5 (List.map zK s.Snaps)]
def yU (s:zL):AV:=.agg (zN s)
structure zI where
  At:Int
  Kind:Int
  Name:List Int
  N:Int
  M:Int
  Stack:List (List Int)
  deriving DecidableEq,Inhabited
def zT (s:zI):List AV:=[.int .i64 s.At,.int .i64 s.Kind,.str s.Name,.int .i64 s.N,.int .i64 s.M,.sl false 1 (List.map AV.str s.Stack)]
def zD (s:zI):AV:=.agg (zT s)
structure zB where
  Thread:Int
  Serial:Int
  Lost:Int
  Events:List (zI)
  deriving DecidableEq,Inhabited
def zX (s:zB):List AV:=[.int .i64 s.Thread,.int .i64 s.Serial,.int .i64 s.Lost,.sl false 6 (List.map zD s.Events)]
def zA (s:zB):AV:=.agg (zX s)
def tJ (F:Nat) (l_1:List (zB)) (rec:Int→Int→Option Int) (n_1:Int) (v_1:Int):Option Int :=
  (bif decide (v_1<(((l_1).length:Nat):Int)) then (y6 l_1 v_1).bind fun x_1 =>
  rec (zP (n_1+(((x_1.Events).length:Nat):Int))) (zP (v_1+(1:Int))) else
  some n_1)
def tP (F:Nat) (l_1:List (zB)):Nat→Int→Int→Option Int
  | 0,_,_=>none
  | n+1,n_1,v_1=>tJ F l_1 (tP F l_1 n) n_1 v_1
def zAj (F:Nat) (h_1:zL) (l_1:List (zB)):Option Bool :=
  (tP F l_1 F (0:Int) (0:Int)).bind fun (o_1:Int) =>
  some (decide ((((h_1.Threads).length:Nat):Int)≤(70:Int))&&(decide ((((h_1.Domains).length:Nat):Int)≤(10:Int))&&(decide ((((h_1.Snaps).length:Nat):Int)≤(20:Int))&&(decide ((((l_1).length:Nat):Int)≤(30:Int))&&decide (o_1≤(3000:Int))))))
def zAK (F:Nat) (vQ:List (Int)) (rec:Int→(List zI)→Option (List zI)) (v_1:Int) (zE:List zI):Option (List zI) :=
  (bif decide (v_1<(((vQ).length:Nat):Int)) then (y6 vQ v_1).bind fun x_1 =>
  (need (((zE).length+(([(⟨x_1,(3:Int),([97]:List Int),(0:Int),(0:Int),[]⟩:zI)]:List zI)).length) * 72≤140737488355328)).bind fun _ =>
  rec (zP (v_1+(1:Int))) (zE++([(⟨x_1,(3:Int),([97]:List Int),(0:Int),(0:Int),[]⟩:zI)]:List zI)) else
  some zE)
def zBF (F:Nat) (vQ:List (Int)):Nat→Int→(List zI)→Option (List zI)
  | 0,_,_=>none
  | n+1,v_1,zE=>zAK F vQ (zBF F vQ n) v_1 zE
def zBt (F:Nat) (w5:Int) (v6:Int) (vQ:List (Int)):Option zB :=
  (zBF F vQ F (0:Int) []).bind fun (o_1:(List zI)) =>
  some (⟨(1:Int),w5,v6,o_1⟩:zB)
def jD (s_1:List Int) (c_1:Int):Option Int :=
  some (u9 s_1 c_1)
def vF (s_1:List Int) (c_1:Int):Option Int :=
  (jD s_1 c_1).bind fun r_1 =>
  some r_1
def nS (c_1:Int):Option Bool :=
  ((bif decide (c_1≥(97:Int)) then (bif decide (c_1≤(122:Int)) then (some true) else (bif decide (c_1≥(65:Int)) then (bif decide (c_1≤(90:Int)) then (some true) else (bif decide (c_1≥(48:Int)) then (bif decide (c_1≤(57:Int)) then (some true) else ((vF ([95,46,58,47,60,62,36,42,126,45]:List Int) c_1).bind fun r_1=>some (decide (r_1≥(0:Int))))) else ((vF ([95,46,58,47,60,62,36,42,126,45]:List Int) c_1).bind fun r_1=>some (decide (r_1≥(0:Int)))))) else (bif decide (c_1≥(48:Int)) then (bif decide (c_1≤(57:Int)) then (some true) else ((vF ([95,46,58,47,60,62,36,42,126,45]:List Int) c_1).bind fun r_1=>some (decide (r_1≥(0:Int))))) else ((vF ([95,46,58,47,60,62,36,42,126,45]:List Int) c_1).bind fun r_1=>some (decide (r_1≥(0:Int))))))) else (bif decide (c_1≥(65:Int)) then (bif decide (c_1≤(90:Int)) then (some true) else (bif decide (c_1≥(48:Int)) then (bif decide (c_1≤(57:Int)) then (some true) else ((vF ([95,46,58,47,60,62,36,42,126,45]:List Int) c_1).bind fun r_1=>some (decide (r_1≥(0:Int))))) else ((vF ([95,46,58,47,60,62,36,42,126,45]:List Int) c_1).bind fun r_1=>some (decide (r_1≥(0:Int)))))) else (bif decide (c_1≥(48:Int)) then (bif decide (c_1≤(57:Int)) then (some true) else ((vF ([95,46,58,47,60,62,36,42,126,45]:List Int) c_1).bind fun r_1=>some (decide (r_1≥(0:Int))))) else ((vF ([95,46,58,47,60,62,36,42,126,45]:List Int) c_1).bind fun r_1=>some (decide (r_1≥(0:Int)))))))).bind fun (p_1:Bool) =>
  some p_1
def qR (F:Nat) (s_1:List Int) (rec:Int→Option (Unit⊕Int)) (v_1:Int):Option (Unit⊕Int) :=
  (bif decide (v_1<(((s_1).length:Nat):Int)) then (y6 s_1 v_1).bind fun c_1=>(nS c_1).bind fun r_1 =>
  (bif !r_1 then some (.inr (3:Int)) else
  rec (zP (v_1+(1:Int)))) else
  some (.inl ()))
def pG (F:Nat) (s_1:List Int):Nat→Int→Option (Unit⊕Int)
  | 0,_=>none
  | n+1,v_1=>qR F s_1 (pG F s_1 n) v_1
def kV (F:Nat) (s_1:List Int):Option Int :=
  (bif ((s_1==([]:List Int))||decide ((((s_1).length:Nat):Int)>(40:Int))) then some (3:Int) else
  (pG F s_1 F (0:Int)).bind fun (o_1:Unit⊕Int) =>
  (match o_1 with
  | (.inl q_1) =>
  some (0:Int)
  | (.inr q_2) =>
  some q_2))
def kU (F:Nat) (t_1:z0):Option Int :=
  (bif (decide (t_1.Id<(0:Int))||(decide (t_1.Id>(1000000000000000:Int))||(decide (t_1.Domain<(0:Int))||decide (t_1.Domain≥(8:Int))))) then some (2:Int) else
  (kV F t_1.Name).bind fun r_1 =>
  some r_1)
def zA3 (x_1:zU) (a_1:Int):Option Bool :=
  some (x_1.Id==a_1)
def y2 (F:Nat) (s_1:List (zU)) (c_1:Int) (rec:Int→Option (Unit⊕Int)) (v_1:Int):Option (Unit⊕Int) :=
  (bif decide (v_1<(((s_1).length:Nat):Int)) then (y6 s_1 v_1).bind fun x_1=>(zA3 x_1 c_1).bind fun r_1 =>
  (bif r_1 then some (.inr v_1) else
  rec (zP (v_1+(1:Int)))) else
  some (.inl ()))
def xU (F:Nat) (s_1:List (zU)) (c_1:Int):Nat→Int→Option (Unit⊕Int)
  | 0,_=>none
  | n+1,v_1=>y2 F s_1 c_1 (xU F s_1 c_1 n) v_1
def x3 (F:Nat) (s_1:List (zU)) (c_1:Int):Option Int :=
  (xU F s_1 c_1 F (0:Int)).bind fun (o_1:Unit⊕Int) =>
  (match o_1 with
  | (.inl q_1) =>
  some (-1:Int)
  | (.inr q_2) =>
  some q_2)
def kZ (F:Nat) (d_1:List (zU)) (yM:Int):Option Int :=
  (x3 F d_1 yM).bind fun r_1 =>
  some r_1
def v9 (F:Nat) (d_1:List (zU)) (rec:Int→Option (Unit⊕Int)) (v_1:Int):Option (Unit⊕Int) :=
  (bif decide (v_1<(((d_1).length:Nat):Int)) then (y6 d_1 v_1).bind fun x_1 =>
  (bif (decide (x_1.Id<(0:Int))||(decide (x_1.Id≥(8:Int))||(decide (x_1.Ppm<(0:Int))||decide (x_1.Ppm>(10000:Int))))) then some (.inr (2:Int)) else
  (need ((0:Int)≤v_1∧v_1≤(((d_1).length:Nat):Int))).bind fun _=>(kZ F (sub d_1 (0:Int) v_1) x_1.Id).bind fun r_1 =>
  (bif decide (r_1≥(0:Int)) then some (.inr (4:Int)) else
  rec (zP (v_1+(1:Int))))) else
  some (.inl ()))
def jT (F:Nat) (d_1:List (zU)):Nat→Int→Option (Unit⊕Int)
  | 0,_=>none
  | n+1,v_1=>v9 F d_1 (jT F d_1 n) v_1
def nQ (F:Nat) (d_1:List (zU)):Option Int :=
  (jT F d_1 F (0:Int)).bind fun (o_1:Unit⊕Int) =>
  (match o_1 with
  | (.inl q_1) =>
  some (0:Int)
  | (.inr q_2) =>
  some q_2)
def kA (n_1:Int):Option Bool :=
  some (decide (n_1≥(0:Int))&&decide (n_1≤(1000000000000:Int)))
def zBA (F:Nat) (d_1:List (zU)) (x_1:xR):Option Int :=
  (kZ F d_1 x_1.A).bind fun r_1 =>
  (((bif decide (r_1<(0:Int)) then some (decide (r_1<(0:Int))) else
  (kZ F d_1 x_1.B).bind fun r_2 =>
  some (decide (r_2<(0:Int)))):Option Bool)).bind fun (o_1:Bool) =>
  (bif o_1 then some (5:Int) else
  (bif (x_1.A==x_1.B) then some (1:Int) else
  (kA x_1.AtA).bind fun r_3 =>
  (bif !r_3 then some (2:Int) else
  (kA x_1.AtB.Lo).bind fun r_4 =>
  (bif !r_4 then some (2:Int) else
  (kA x_1.AtB.Hi).bind fun r_5 =>
  (bif !r_5 then some (2:Int) else
  (bif decide (x_1.AtB.Lo>x_1.AtB.Hi) then some (2:Int) else
  some (0:Int)))))))
def uV (F:Nat) (d_1:List (zU)) (l_1:List (xR)) (rec:Int→Option (Unit⊕Int)) (v_1:Int):Option (Unit⊕Int) :=
  (bif decide (v_1<(((l_1).length:Nat):Int)) then (y6 l_1 v_1).bind fun x_2 =>
  (zBA F d_1 x_2).bind fun r_2 =>
  (bif (r_2 != (0:Int)) then some (.inr r_2) else
  rec (zP (v_1+(1:Int)))) else
  some (.inl ()))
def pD (F:Nat) (d_1:List (zU)) (l_1:List (xR)):Nat→Int→Option (Unit⊕Int)
  | 0,_=>none
  | n+1,v_1=>uV F d_1 l_1 (pD F d_1 l_1 n) v_1
def zAZ (F:Nat) (d_1:List (zU)) (l_1:List (xR)):Option Int :=
  (bif ((((d_1).length:Nat):Int)==(0:Int)) then some (8:Int) else
  (bif (decide ((((d_1).length:Nat):Int)>(8:Int))||decide ((((l_1).length:Nat):Int)>(200:Int))) then some (7:Int) else
  (y6 d_1 (0:Int)).bind fun x_1 =>
  (bif (!(decide (x_1=(⟨(0:Int),(0:Int)⟩:zU)))) then some (10:Int) else
  (nQ F d_1).bind fun r_1 =>
  (bif (r_1 != (0:Int)) then some r_1 else
  (pD F d_1 l_1 F (0:Int)).bind fun (o_1:Unit⊕Int) =>
  (match o_1 with
  | (.inl q_1) =>
  some (0:Int)
  | (.inr q_2) =>
  some q_2)))))
def zCe (d_1:zU) (a_1:z0):Option Bool :=
  some (d_1.Id==a_1.Domain)
def y0 (F:Nat) (s_1:List (zU)) (c_1:z0) (rec:Int→Option (Unit⊕Int)) (v_1:Int):Option (Unit⊕Int) :=
  (bif decide (v_1<(((s_1).length:Nat):Int)) then (y6 s_1 v_1).bind fun x_1=>(zCe x_1 c_1).bind fun r_1 =>
  (bif r_1 then some (.inr v_1) else
  rec (zP (v_1+(1:Int)))) else
  some (.inl ()))
def xP (F:Nat) (s_1:List (zU)) (c_1:z0):Nat→Int→Option (Unit⊕Int)
  | 0,_=>none
  | n+1,v_1=>y0 F s_1 c_1 (xP F s_1 c_1 n) v_1
def xV (F:Nat) (s_1:List (zU)) (c_1:z0):Option Int :=
  (xP F s_1 c_1 F (0:Int)).bind fun (o_1:Unit⊕Int) =>
  (match o_1 with
  | (.inl q_1) =>
  some (-1:Int)
  | (.inr q_2) =>
  some q_2)
def wF (F:Nat) (s_1:List (zU)) (c_1:z0):Option Bool :=
  (xV F s_1 c_1).bind fun r_1 =>
  some (decide (r_1≥(0:Int)))
def jO (F:Nat) (h_1:zL) (rec:Int→(List (Int×Bool))→Option (Unit⊕Int)) (v_1:Int) (zE:List (Int×Bool)):Option (Unit⊕Int) :=
  (bif decide (v_1<(((h_1.Threads).length:Nat):Int)) then (y6 h_1.Threads v_1).bind fun x_1 =>
  (kU F x_1).bind fun r_1 =>
  (bif (r_1 != (0:Int)) then some (.inr r_1) else
  (bif ((yO zE x_1.Id).getD false) then some (.inr (4:Int)) else
  (need ((zE).length<140737488355328)).bind fun _ =>
  rec (zP (v_1+(1:Int))) (u1 zE x_1.Id true))) else
  some (.inl ()))
def pM (F:Nat) (h_1:zL):Nat→Int→(List (Int×Bool))→Option (Unit⊕Int)
  | 0,_,_=>none
  | n+1,v_1,zE=>jO F h_1 (pM F h_1 n) v_1 zE
def tH (F:Nat) (h_1:zL) (rec:Int→Option (Unit⊕Int)) (v_2:Int):Option (Unit⊕Int) :=
  (bif decide (v_2<(((h_1.Threads).length:Nat):Int)) then (y6 h_1.Threads v_2).bind fun x_2 =>
  (wF F h_1.Domains x_2).bind fun r_3 =>
  (bif !r_3 then some (.inr (5:Int)) else
  rec (zP (v_2+(1:Int)))) else
  some (.inl ()))
def pC (F:Nat) (h_1:zL):Nat→Int→Option (Unit⊕Int)
  | 0,_=>none
  | n+1,v_2=>tH F h_1 (pC F h_1 n) v_2
def zCs (F:Nat) (h_1:zL):Option Int :=
  (bif ((((h_1.Threads).length:Nat):Int)==(0:Int)) then some (8:Int) else
  (bif decide ((((h_1.Threads).length:Nat):Int)>(64:Int)) then some (7:Int) else
  (pM F h_1 F (0:Int) []).bind fun (o_1:Unit⊕Int) =>
  (match o_1 with
  | (.inl q_1) =>
  (zAZ F h_1.Domains h_1.Snaps).bind fun r_2 =>
  (bif (r_2 != (0:Int)) then some r_2 else
  (pC F h_1 F (0:Int)).bind fun (o_2:Unit⊕Int) =>
  (match o_2 with
  | (.inl q_3) =>
  some (0:Int)
  | (.inr q_4) =>
  some q_4))
  | (.inr q_2) =>
  some q_2)))
structure zM where
  Head:zL
  Parts:List (zB)
  deriving DecidableEq,Inhabited
def yB (s:zM):List AV:=[.sl false 3 (List.map zG s.Head.Threads),.sl false 2 (List.map zC s.Head.Domains),.sl false 5 (List.map zK s.Head.Snaps),.sl false 4 (List.map zA s.Parts)]
def z4 (s:zM):AV:=.agg (yB s)
structure xQ where
  next:Int
  last:Int
  deriving DecidableEq,Inhabited
def xY (s:xQ):List AV:=[.int .i64 s.next,.int .i64 s.last]
def xA (s:xQ):AV:=.agg (xY s)
structure zZ where
  word:List Int
  name:Bool
  n:Bool
  m:Bool
  stack:Bool
  least:Int
  most:Int
  mLeast:Int
  mMost:Int
  deriving DecidableEq,Inhabited
def yW (s:zZ):List AV:=[.str s.word,.bool s.name,.bool s.n,.bool s.m,.bool s.stack,.int .i64 s.least,.int .i64 s.most,.int .i64 s.mLeast,.int .i64 s.mMost]
def wN (s:zZ):AV:=.agg (yW s)
def zAb:Option (List (zZ)) :=
  some ([(⟨([]:List Int),false,false,false,false,(0:Int),(0:Int),(0:Int),(0:Int)⟩:zZ),(⟨([98,101,103,105,110]:List Int),true,false,false,false,(0:Int),(0:Int),(0:Int),(0:Int)⟩:zZ),(⟨([101,110,100]:List Int),false,false,false,false,(0:Int),(0:Int),(0:Int),(0:Int)⟩:zZ),(⟨([109,97,114,107]:List Int),true,false,false,false,(0:Int),(0:Int),(0:Int),(0:Int)⟩:zZ),(⟨([99,111,117,110,116]:List Int),true,true,false,false,(-1000000000000000:Int),(1000000000000000:Int),(0:Int),(0:Int)⟩:zZ),(⟨([115,97,109,112,108,101]:List Int),false,true,false,true,(1:Int),(1000000000000:Int),(0:Int),(0:Int)⟩:zZ),(⟨([115,101,110,100]:List Int),false,true,false,false,(0:Int),(1000000000000000:Int),(0:Int),(0:Int)⟩:zZ),(⟨([114,101,99,118]:List Int),false,true,false,false,(0:Int),(1000000000000000:Int),(0:Int),(0:Int)⟩:zZ),(⟨([114,117,110]:List Int),false,true,false,false,(0:Int),(63:Int),(0:Int),(0:Int)⟩:zZ),(⟨([115,116,111,112]:List Int),false,true,true,false,(0:Int),(3:Int),(0:Int),(1000000000000000:Int)⟩:zZ),(⟨([119,97,107,101]:List Int),false,true,false,false,(0:Int),(1000000000000000:Int),(0:Int),(0:Int)⟩:zZ),(⟨([97,108,108,111,99]:List Int),false,true,true,true,(0:Int),(1000000000000000:Int),(1:Int),(1000000000000:Int)⟩:zZ),(⟨([102,114,101,101]:List Int),false,true,false,false,(0:Int),(1000000000000000:Int),(0:Int),(0:Int)⟩:zZ)]:List zZ)
def zAp (k_1:Int):Option (zZ×Bool) :=
  (zAb ).bind fun r_1 =>
  (bif (decide (k_1<(1:Int))||decide (k_1≥(((r_1).length:Nat):Int))) then some ((⟨([]:List Int),false,false,false,false,(0:Int),(0:Int),(0:Int),(0:Int)⟩:zZ),false) else
  (y6 r_1 k_1).bind fun x_1 =>
  some (x_1,true))
def qA (F:Nat) (l_1:List (List Int)) (rec:Int→Option (Unit⊕Int)) (v_1:Int):Option (Unit⊕Int) :=
  (bif decide (v_1<(((l_1).length:Nat):Int)) then (y6 l_1 v_1).bind fun x_1 =>
  (kV F x_1).bind fun r_1 =>
  (bif (r_1 != (0:Int)) then some (.inr r_1) else
  rec (zP (v_1+(1:Int)))) else
  some (.inl ()))
def jX (F:Nat) (l_1:List (List Int)):Nat→Int→Option (Unit⊕Int)
  | 0,_=>none
  | n+1,v_1=>qA F l_1 (jX F l_1 n) v_1
def nU (F:Nat) (l_1:List (List Int)):Option Int :=
  (bif decide ((((l_1).length:Nat):Int)>(32:Int)) then some (7:Int) else
  (jX F l_1 F (0:Int)).bind fun (o_1:Unit⊕Int) =>
  (match o_1 with
  | (.inl q_1) =>
  some (0:Int)
  | (.inr q_2) =>
  some q_2))
def zAR (F:Nat) (f_1:zZ) (e_1:zI):Option Int :=
  (bif f_1.name then (kV F e_1.Name).bind fun r_1 =>
  some r_1 else
  (nU F e_1.Stack).bind fun r_2 =>
  some r_2)
def zAV (F:Nat) (e_1:zI):Option Int :=
  (bif (decide (e_1.At<(0:Int))||decide (e_1.At>(1000000000000:Int))) then some (2:Int) else
  (zAp e_1.Kind).bind fun r_1 =>
  ((bif !r_1.2 then (some true) else (bif !r_1.1.name then (bif !(e_1.Name==([]:List Int)) then (some true) else (bif !r_1.1.n then (bif (e_1.N != (0:Int)) then (some true) else (bif !r_1.1.m then (bif (e_1.M != (0:Int)) then (some true) else (bif !r_1.1.stack then (some (decide ((((e_1.Stack).length:Nat):Int)>(0:Int)))) else (some false))) else (bif !r_1.1.stack then (some (decide ((((e_1.Stack).length:Nat):Int)>(0:Int)))) else (some false)))) else (bif !r_1.1.m then (bif (e_1.M != (0:Int)) then (some true) else (bif !r_1.1.stack then (some (decide ((((e_1.Stack).length:Nat):Int)>(0:Int)))) else (some false))) else (bif !r_1.1.stack then (some (decide ((((e_1.Stack).length:Nat):Int)>(0:Int)))) else (some false))))) else (bif !r_1.1.n then (bif (e_1.N != (0:Int)) then (some true) else (bif !r_1.1.m then (bif (e_1.M != (0:Int)) then (some true) else (bif !r_1.1.stack then (some (decide ((((e_1.Stack).length:Nat):Int)>(0:Int)))) else (some false))) else (bif !r_1.1.stack then (some (decide ((((e_1.Stack).length:Nat):Int)>(0:Int)))) else (some false)))) else (bif !r_1.1.m then (bif (e_1.M != (0:Int)) then (some true) else (bif !r_1.1.stack then (some (decide ((((e_1.Stack).length:Nat):Int)>(0:Int)))) else (some false))) else (bif !r_1.1.stack then (some (decide ((((e_1.Stack).length:Nat):Int)>(0:Int)))) else (some false))))))).bind fun (p_1:Bool) =>
  (bif p_1 then some (1:Int) else
  (zAR F r_1.1 e_1).bind fun r_2 =>
  (bif (r_2 != (0:Int)) then some r_2 else
  (bif (r_1.1.n&&(decide (e_1.N<r_1.1.least)||decide (e_1.N>r_1.1.most))) then some (2:Int) else
  (bif ((e_1.Kind==(9:Int))&&((e_1.N != (2:Int))&&(e_1.M != (0:Int)))) then some (1:Int) else
  (bif (r_1.1.m&&(bif decide (e_1.M<r_1.1.mLeast) then ((e_1.Kind != (9:Int))||(e_1.N==(2:Int))) else (decide (e_1.M>r_1.1.mMost)&&((e_1.Kind != (9:Int))||(e_1.N==(2:Int)))))) then some (2:Int) else
  some (0:Int)))))))
def tQ (F:Nat) (l_1:List (zI)) (rec:Int→Option (Unit⊕Int)) (v_1:Int):Option (Unit⊕Int) :=
  (bif decide (v_1<(((l_1).length:Nat):Int)) then (y6 l_1 v_1).bind fun x_1 =>
  (zAV F x_1).bind fun r_1 =>
  (bif (r_1 != (0:Int)) then some (.inr r_1) else
  ((bif decide (v_1>(0:Int)) then ((y6 l_1 (zP (v_1 - (1:Int)))).bind fun x_2=>some (decide (x_1.At<x_2.At))) else (some false))).bind fun (p_1:Bool) =>
  (bif p_1 then some (.inr (11:Int)) else
  rec (zP (v_1+(1:Int))))) else
  some (.inl ()))
def qL (F:Nat) (l_1:List (zI)):Nat→Int→Option (Unit⊕Int)
  | 0,_=>none
  | n+1,v_1=>tQ F l_1 (qL F l_1 n) v_1
def pS (F:Nat) (l_1:List (zI)):Option Int :=
  (qL F l_1 F (0:Int)).bind fun (o_1:Unit⊕Int) =>
  (match o_1 with
  | (.inl q_1) =>
  some (0:Int)
  | (.inr q_2) =>
  some q_2)
def vI (F:Nat) (p_1:zB) (rec:Int→Option (Unit⊕Int)) (v_1:Int):Option (Unit⊕Int) :=
  (bif decide (v_1<((3:Nat):Int)) then (y6 ([p_1.Thread,p_1.Serial,p_1.Lost]:List Int) v_1).bind fun x_1 =>
  (bif (decide (x_1<(0:Int))||decide (x_1>(1000000000000000:Int))) then some (.inr (2:Int)) else
  rec (zP (v_1+(1:Int)))) else
  some (.inl ()))
def kI (F:Nat) (p_1:zB):Nat→Int→Option (Unit⊕Int)
  | 0,_=>none
  | n+1,v_1=>vI F p_1 (kI F p_1 n) v_1
def zAh (F:Nat) (p_1:zB):Option Int :=
  (kI F p_1 F (0:Int)).bind fun (o_1:Unit⊕Int) =>
  (match o_1 with
  | (.inl q_1) =>
  (((bif decide (p_1.Lost>p_1.Serial) then some (decide (p_1.Lost>p_1.Serial)) else
  some (decide ((zP (p_1.Serial+(((p_1.Events).length:Nat):Int)))>(1000000000000000:Int)))):Option Bool)).bind fun (o_2:Bool) =>
  (bif o_2 then some (2:Int) else
  (bif ((((p_1.Events).length:Nat):Int)==(0:Int)) then some (8:Int) else
  (bif decide ((((p_1.Events).length:Nat):Int)>(1000:Int)) then some (7:Int) else
  (pS F p_1.Events).bind fun r_1 =>
  some r_1)))
  | (.inr q_2) =>
  some q_2)
def j5 (t_1:xQ) (p_1:zB):Option Bool :=
  ((bif ((zP (p_1.Serial - p_1.Lost))==t_1.next) then ((y6 p_1.Events (0:Int)).bind fun x_1=>some (decide (x_1.At≥t_1.last))) else (some false))).bind fun (p_2:Bool) =>
  some p_2
def jS (t_1:xQ) (p_1:zB):Option xQ :=
  (y6 p_1.Events (zP ((((p_1.Events).length:Nat):Int) - (1:Int)))).bind fun x_1 =>
  some (⟨zP (p_1.Serial+(((p_1.Events).length:Nat):Int)),x_1.At⟩:xQ)
def jJ (F:Nat) (h_1:zL) (rec:Int→(List (Int×xQ))→Option (List (Int×xQ))) (v_1:Int) (zE:List (Int×xQ)):Option (List (Int×xQ)) :=
  (bif decide (v_1<(((h_1.Threads).length:Nat):Int)) then (y6 h_1.Threads v_1).bind fun x_1 =>
  (need ((zE).length<140737488355328)).bind fun _ =>
  rec (zP (v_1+(1:Int))) (u1 zE x_1.Id (⟨(0:Int),(0:Int)⟩:xQ)) else
  some zE)
def qU (F:Nat) (h_1:zL):Nat→Int→(List (Int×xQ))→Option (List (Int×xQ))
  | 0,_,_=>none
  | n+1,v_1,zE=>jJ F h_1 (qU F h_1 n) v_1 zE
def jK (F:Nat) (l_1:List (zB)) (rec:Int→Int→(List (Int×xQ))→Option (Int⊕Int)) (uF:Int) (v_2:Int) (zY:List (Int×xQ)):Option (Int⊕Int) :=
  (bif decide (v_2<(((l_1).length:Nat):Int)) then (y6 l_1 v_2).bind fun x_2 =>
  (zAh F x_2).bind fun r_1 =>
  (bif (r_1 != (0:Int)) then some (.inr r_1) else
  (zMx (yO zY x_2.Thread) (some (.inr (5:Int))) fun x_3 =>
  (j5 x_3 x_2).bind fun r_2 =>
  (bif !r_2 then some (.inr (11:Int)) else
  (jS x_3 x_2).bind fun r_3 =>
  rec (zP (uF+(((x_2.Events).length:Nat):Int))) (zP (v_2+(1:Int))) (u1 zY x_2.Thread r_3)))) else
  some (.inl uF))
def qV (F:Nat) (l_1:List (zB)):Nat→Int→Int→(List (Int×xQ))→Option (Int⊕Int)
  | 0,_,_,_=>none
  | n+1,uF,v_2,zY=>jK F l_1 (qV F l_1 n) uF v_2 zY
def zCu (F:Nat) (h_1:zL) (l_1:List (zB)):Option Int :=
  (qU F h_1 F (0:Int) ([]:List (Int×xQ))).bind fun (o_1:(List (Int×xQ))) =>
  (qV F l_1 F (0:Int) (0:Int) o_1).bind fun (o_2:Int⊕Int) =>
  (match o_2 with
  | (.inl q_1) =>
  (bif decide (q_1>(20000:Int)) then some (7:Int) else
  some (0:Int))
  | (.inr q_2) =>
  some q_2)
def z8 (s:zB):List AV:=[.int .i64 s.Thread,.int .i64 s.Serial,.int .i64 s.Lost]
def y5 (l:List zB):AV:=.tuple [.sl false 4 (List.map zA (ini l)),.bool (!l.isEmpty),.agg (z8 (lst l)),.sl false 6 (List.map zD (lst l).Events)]
def jY (F:Nat) (rec:(List zI)→(List zB)→Option (List zB)) (z5:List zI) (zE:List zB):Option (List zB) :=
  (bif decide ((((z5).length:Nat):Int)>(0:Int)) then (need ((0:Int)≤(zP ((((zE).length:Nat):Int) - (1:Int)))∧(zP ((((zE).length:Nat):Int) - (1:Int)))<(((zE).length:Nat):Int))).bind fun _ =>
  (need ((zP ((((zE).length:Nat):Int) - (1:Int))).toNat+1=(zE).length)).bind fun _ =>
  (bif ((wP (zP ((1000:Int) - ((((lst zE).Events).length:Nat):Int))) (((z5).length:Nat):Int))==(0:Int)) then (need ((zP ((((zE).length:Nat):Int) - (1:Int))).toNat+1=(zE).length)).bind fun _=>(need ((zP ((((zE).length:Nat):Int) - (1:Int))).toNat+1=(zE).length)).bind fun _=>(need (((zE).length+1) * 48≤140737488355328)).bind fun _ =>
  rec z5 (zE++[(⟨(lst zE).Thread,zP (((lst zE).Serial)+(1000:Int)),(0:Int),[]⟩:zB)]) else
  (need ((zP ((((zE).length:Nat):Int) - (1:Int))).toNat+1=(zE).length)).bind fun _=>(need ((0:Int)≤(wP (zP ((1000:Int) - ((((lst zE).Events).length:Nat):Int))) (((z5).length:Nat):Int))∧(wP (zP ((1000:Int) - ((((lst zE).Events).length:Nat):Int))) (((z5).length:Nat):Int))≤(((z5).length:Nat):Int))).bind fun _=>(need ((((lst zE).Events).length+(sub z5 (0:Int) (wP (zP ((1000:Int) - ((((lst zE).Events).length:Nat):Int))) (((z5).length:Nat):Int))).length) * 72≤140737488355328)).bind fun _=>(need ((zP ((((zE).length:Nat):Int) - (1:Int))).toNat+1=(zE).length)).bind fun _ =>
  (need ((0:Int)≤(wP (zP ((1000:Int) - ((((lst zE).Events).length:Nat):Int))) (((z5).length:Nat):Int))∧(wP (zP ((1000:Int) - ((((lst zE).Events).length:Nat):Int))) (((z5).length:Nat):Int))≤(((z5).length:Nat):Int))).bind fun _ =>
  rec (sub z5 (wP (zP ((1000:Int) - ((((lst zE).Events).length:Nat):Int))) (((z5).length:Nat):Int)) (((z5).length:Nat):Int)) ((ini zE)++[(⟨(lst zE).Thread,(lst zE).Serial,(lst zE).Lost,(((lst zE).Events)++(sub z5 (0:Int) (wP (zP ((1000:Int) - ((((lst zE).Events).length:Nat):Int))) (((z5).length:Nat):Int))))⟩:zB)])) else
  some zE)
def zA0 (F:Nat):Nat→(List zI)→(List zB)→Option (List zB)
  | 0,_,_=>none
  | n+1,z5,zE=>jY F (zA0 F n) z5 zE
def zDe (F:Nat) (uT:List (zB)) (events_1:List (zI)):Option (List (zB)) :=
  (zA0 F F events_1 uT).bind fun (o_1:(List zB)) =>
  some o_1
def pF (F:Nat) (l_1:List (zB)) (rec:Int→(List (Int×(List (zB))))→Option (List (Int×(List (zB))))) (v_1:Int) (zE:List (Int×(List (zB)))):Option (List (Int×(List (zB)))) :=
  (bif decide (v_1<(((l_1).length:Nat):Int)) then (y6 l_1 v_1).bind fun x_1 =>
  (((bif (decide (x_1.Lost>(0:Int))||((((((yO zE x_1.Thread).getD [])).length:Nat):Int)==(0:Int))) then (need (((((yO zE x_1.Thread).getD [])).length+1) * 48≤140737488355328)).bind fun _ =>
  some (((yO zE x_1.Thread).getD [])++[(⟨x_1.Thread,x_1.Serial,x_1.Lost,[]⟩:zB)]) else
  some ((yO zE x_1.Thread).getD [])):Option (List zB))).bind fun (o_2:(List zB)) =>
  (zDe F o_2 x_1.Events).bind fun r_3=>(need ((zE).length<140737488355328)).bind fun _ =>
  rec (zP (v_1+(1:Int))) (u1 zE x_1.Thread r_3) else
  some zE)
def pZ (F:Nat) (l_1:List (zB)):Nat→Int→(List (Int×(List (zB))))→Option (List (Int×(List (zB))))
  | 0,_,_=>none
  | n+1,v_1,zE=>pF F l_1 (pZ F l_1 n) v_1 zE
def pP (F:Nat) (h_1:zL) (o_1:(List (Int×(List (zB))))) (rec:Int→(List zB)→Option (List zB)) (v_2:Int) (zY:List zB):Option (List zB) :=
  (bif decide (v_2<(((h_1.Threads).length:Nat):Int)) then (y6 h_1.Threads v_2).bind fun x_2 =>
  (need (((zY).length+(((yO o_1 x_2.Id).getD [])).length) * 48≤140737488355328)).bind fun _ =>
  rec (zP (v_2+(1:Int))) (zY++((yO o_1 x_2.Id).getD [])) else
  some zY)
def zBr (F:Nat) (h_1:zL) (o_1:(List (Int×(List (zB))))):Nat→Int→(List zB)→Option (List zB)
  | 0,_,_=>none
  | n+1,v_2,zY=>pP F h_1 o_1 (zBr F h_1 o_1 n) v_2 zY
def zCF (F:Nat) (h_1:zL) (l_1:List (zB)):Option (zM×Int) :=
  (zCs F h_1).bind fun r_1 =>
  (bif (r_1 != (0:Int)) then some ((⟨(⟨[],[],[]⟩:zL),[]⟩:zM),r_1) else
  (zCu F h_1 l_1).bind fun r_2 =>
  (bif (r_2 != (0:Int)) then some ((⟨(⟨[],[],[]⟩:zL),[]⟩:zM),r_2) else
  (pZ F l_1 F (0:Int) ([]:List (Int×(List (zB))))).bind fun (o_1:(List (Int×(List (zB))))) =>
  (zBr F h_1 o_1 F (0:Int) []).bind fun (o_3:(List zB)) =>
  some ((⟨h_1,o_3⟩:zM),(0:Int))))
def y8 (F:Nat) (s1_1:List (z0)) (s2_1:List (z0)) (rec:Int→Option (Unit⊕Bool)) (v_1:Int):Option (Unit⊕Bool) :=
  (bif decide (v_1<(((s1_1).length:Nat):Int)) then (y6 s1_1 v_1).bind fun x_1=>(y6 s2_1 v_1).bind fun x_2 =>
  (bif (!(decide (x_1=x_2))) then some (.inr false) else
  rec (zP (v_1+(1:Int)))) else
  some (.inl ()))
def x6 (F:Nat) (s1_1:List (z0)) (s2_1:List (z0)):Nat→Int→Option (Unit⊕Bool)
  | 0,_=>none
  | n+1,v_1=>y8 F s1_1 s2_1 (x6 F s1_1 s2_1 n) v_1
def wC (F:Nat) (s1_1:List (z0)) (s2_1:List (z0)):Option Bool :=
  (bif ((((s1_1).length:Nat):Int) != (((s2_1).length:Nat):Int)) then some false else
  (x6 F s1_1 s2_1 F (0:Int)).bind fun (o_1:Unit⊕Bool) =>
  (match o_1 with
  | (.inl q_1) =>
  some true
  | (.inr q_2) =>
  some q_2))
def y7 (F:Nat) (s1_1:List (zU)) (s2_1:List (zU)) (rec:Int→Option (Unit⊕Bool)) (v_1:Int):Option (Unit⊕Bool) :=
  (bif decide (v_1<(((s1_1).length:Nat):Int)) then (y6 s1_1 v_1).bind fun x_1=>(y6 s2_1 v_1).bind fun x_2 =>
  (bif (!(decide (x_1=x_2))) then some (.inr false) else
  rec (zP (v_1+(1:Int)))) else
  some (.inl ()))
def x7 (F:Nat) (s1_1:List (zU)) (s2_1:List (zU)):Nat→Int→Option (Unit⊕Bool)
  | 0,_=>none
  | n+1,v_1=>y7 F s1_1 s2_1 (x7 F s1_1 s2_1 n) v_1
def wB (F:Nat) (s1_1:List (zU)) (s2_1:List (zU)):Option Bool :=
  (bif ((((s1_1).length:Nat):Int) != (((s2_1).length:Nat):Int)) then some false else
  (x7 F s1_1 s2_1 F (0:Int)).bind fun (o_1:Unit⊕Bool) =>
  (match o_1 with
  | (.inl q_1) =>
  some true
  | (.inr q_2) =>
  some q_2))
def xH (F:Nat) (s1_1:List (xR)) (s2_1:List (xR)) (rec:Int→Option (Unit⊕Bool)) (v_1:Int):Option (Unit⊕Bool) :=
  (bif decide (v_1<(((s1_1).length:Nat):Int)) then (y6 s1_1 v_1).bind fun x_1=>(y6 s2_1 v_1).bind fun x_2 =>
  (bif (!(decide (x_1=x_2))) then some (.inr false) else
  rec (zP (v_1+(1:Int)))) else
  some (.inl ()))
def wD (F:Nat) (s1_1:List (xR)) (s2_1:List (xR)):Nat→Int→Option (Unit⊕Bool)
  | 0,_=>none
  | n+1,v_1=>xH F s1_1 s2_1 (wD F s1_1 s2_1 n) v_1
def wG (F:Nat) (s1_1:List (xR)) (s2_1:List (xR)):Option Bool :=
  (bif ((((s1_1).length:Nat):Int) != (((s2_1).length:Nat):Int)) then some false else
  (wD F s1_1 s2_1 F (0:Int)).bind fun (o_1:Unit⊕Bool) =>
  (match o_1 with
  | (.inl q_1) =>
  some true
  | (.inr q_2) =>
  some q_2))
def wQ (F:Nat) (s1_1:List (List Int)) (s2_1:List (List Int)) (rec:Int→Option (Unit⊕Bool)) (v_1:Int):Option (Unit⊕Bool) :=
  (bif decide (v_1<(((s1_1).length:Nat):Int)) then (y6 s1_1 v_1).bind fun x_1=>(y6 s2_1 v_1).bind fun x_2 =>
  (bif !(x_1==x_2) then some (.inr false) else
  rec (zP (v_1+(1:Int)))) else
  some (.inl ()))
def v5 (F:Nat) (s1_1:List (List Int)) (s2_1:List (List Int)):Nat→Int→Option (Unit⊕Bool)
  | 0,_=>none
  | n+1,v_1=>wQ F s1_1 s2_1 (v5 F s1_1 s2_1 n) v_1
def uQ (F:Nat) (s1_1:List (List Int)) (s2_1:List (List Int)):Option Bool :=
  (bif ((((s1_1).length:Nat):Int) != (((s2_1).length:Nat):Int)) then some false else
  (v5 F s1_1 s2_1 F (0:Int)).bind fun (o_1:Unit⊕Bool) =>
  (match o_1 with
  | (.inl q_1) =>
  some true
  | (.inr q_2) =>
  some q_2))
def zBE (F:Nat) (a_1:zI) (b_1:zI):Option Bool :=
  ((bif (a_1.At==b_1.At) then (bif (a_1.Kind==b_1.Kind) then (bif (a_1.Name==b_1.Name) then (bif (a_1.N==b_1.N) then (bif (a_1.M==b_1.M) then ((uQ F a_1.Stack b_1.Stack).bind fun r_1=>some r_1) else (some false)) else (some false)) else (some false)) else (some false)) else (some false))).bind fun (p_1:Bool) =>
  some p_1
def yK (F:Nat) (s1_1:List (zI)) (s2_1:List (zI)) (rec:Int→Option (Unit⊕Bool)) (v_1:Int):Option (Unit⊕Bool) :=
  (bif decide (v_1<(((s1_1).length:Nat):Int)) then (y6 s1_1 v_1).bind fun x_1 =>
  (y6 s2_1 v_1).bind fun x_2 =>
  (zBE F x_1 x_2).bind fun r_1 =>
  (bif !r_1 then some (.inr false) else
  rec (zP (v_1+(1:Int)))) else
  some (.inl ()))
def yY (F:Nat) (s1_1:List (zI)) (s2_1:List (zI)):Nat→Int→Option (Unit⊕Bool)
  | 0,_=>none
  | n+1,v_1=>yK F s1_1 s2_1 (yY F s1_1 s2_1 n) v_1
def xD (F:Nat) (s1_1:List (zI)) (s2_1:List (zI)):Option Bool :=
  (bif ((((s1_1).length:Nat):Int) != (((s2_1).length:Nat):Int)) then some false else
  (yY F s1_1 s2_1 F (0:Int)).bind fun (o_1:Unit⊕Bool) =>
  (match o_1 with
  | (.inl q_1) =>
  some true
  | (.inr q_2) =>
  some q_2))
def zAW (F:Nat) (a_1:zB) (b_1:zB):Option Bool :=
  ((bif (a_1.Thread==b_1.Thread) then (bif (a_1.Serial==b_1.Serial) then (bif (a_1.Lost==b_1.Lost) then ((xD F a_1.Events b_1.Events).bind fun r_1=>some r_1) else (some false)) else (some false)) else (some false))).bind fun (p_1:Bool) =>
  some p_1
def zCP (F:Nat) (p_1:zB) (q_1:zB):Option Bool :=
  (zAW F p_1 q_1).bind fun r_1 =>
  some r_1
def yJ (F:Nat) (s1_1:List (zB)) (s2_1:List (zB)) (rec:Int→Option (Unit⊕Bool)) (v_1:Int):Option (Unit⊕Bool) :=
  (bif decide (v_1<(((s1_1).length:Nat):Int)) then (y6 s1_1 v_1).bind fun x_1 =>
  (y6 s2_1 v_1).bind fun x_2 =>
  (zCP F x_1 x_2).bind fun r_1 =>
  (bif !r_1 then some (.inr false) else
  rec (zP (v_1+(1:Int)))) else
  some (.inl ()))
def yV (F:Nat) (s1_1:List (zB)) (s2_1:List (zB)):Nat→Int→Option (Unit⊕Bool)
  | 0,_=>none
  | n+1,v_1=>yJ F s1_1 s2_1 (yV F s1_1 s2_1 n) v_1
def yX (F:Nat) (s1_1:List (zB)) (s2_1:List (zB)):Option Bool :=
  (bif ((((s1_1).length:Nat):Int) != (((s2_1).length:Nat):Int)) then some false else
  (yV F s1_1 s2_1 F (0:Int)).bind fun (o_1:Unit⊕Bool) =>
  (match o_1 with
  | (.inl q_1) =>
  some true
  | (.inr q_2) =>
  some q_2))
def zBV (F:Nat) (a_1:zM) (b_1:zM):Option Bool :=
  (((wC F a_1.Head.Threads b_1.Head.Threads).bind fun r_1=>bif r_1 then ((wB F a_1.Head.Domains b_1.Head.Domains).bind fun r_2=>bif r_2 then ((wG F a_1.Head.Snaps b_1.Head.Snaps).bind fun r_3=>bif r_3 then ((yX F a_1.Parts b_1.Parts).bind fun r_4=>some r_4) else (some false)) else (some false)) else (some false))).bind fun (p_1:Bool) =>
  some p_1
def kJ (F:Nat) (l_1:zM):Option Int :=
  (zCF F l_1.Head l_1.Parts).bind fun r_1 =>
  ((bif (r_1.2==(0:Int)) then ((zBV F r_1.1 l_1).bind fun r_2=>some (!r_2)) else (some false))).bind fun (p_1:Bool) =>
  (bif p_1 then some (10:Int) else
  some r_1.2)
structure yC where
  Thread:Int
  Serial:Int
  Count:Int
  deriving DecidableEq,Inhabited
def zGo (s:yC):List AV:=[.int .i64 s.Thread,.int .i64 s.Serial,.int .i64 s.Count]
def z9 (s:yC):AV:=.agg (zGo s)
def t9 (F:Nat) (l_1:zM) (rec:Int→(List yC)→Option (List yC)) (v_1:Int) (zE:List yC):Option (List yC) :=
  (bif decide (v_1<(((l_1.Parts).length:Nat):Int)) then (y6 l_1.Parts v_1).bind fun x_1 =>
  (bif decide (x_1.Lost>(0:Int)) then (need (((zE).length+(([(⟨x_1.Thread,zP (x_1.Serial - x_1.Lost),x_1.Lost⟩:yC)]:List yC)).length) * 24≤140737488355328)).bind fun _ =>
  rec (zP (v_1+(1:Int))) (zE++([(⟨x_1.Thread,zP (x_1.Serial - x_1.Lost),x_1.Lost⟩:yC)]:List yC)) else
  rec (zP (v_1+(1:Int))) zE) else
  some zE)
def kY (F:Nat) (l_1:zM):Nat→Int→(List yC)→Option (List yC)
  | 0,_,_=>none
  | n+1,v_1,zE=>t9 F l_1 (kY F l_1 n) v_1 zE
def zBd (F:Nat) (l_1:zM):Option (List (yC)) :=
  (kJ F l_1).bind fun r_1 =>
  (bif (r_1 != (0:Int)) then some [] else
  (kY F l_1 F (0:Int) []).bind fun (o_1:(List yC)) =>
  some o_1)
structure z6 where
  Thread:Int
  Serial:Int
  deriving DecidableEq,Inhabited
def xZ (s:z6):List AV:=[.int .i64 s.Thread,.int .i64 s.Serial]
def yA (s:z6):AV:=.agg (xZ s)
def uZ (F:Nat) (l_1:zM) (yM:z6) (rec:Int→Option (Unit⊕(zI×Bool))) (v_1:Int):Option (Unit⊕(zI×Bool)) :=
  (bif decide (v_1<(((l_1.Parts).length:Nat):Int)) then (y6 l_1.Parts v_1).bind fun x_1 =>
  (bif ((x_1.Thread==yM.Thread)&&(decide (yM.Serial≥x_1.Serial)&&decide (yM.Serial<(zP (x_1.Serial+(((x_1.Events).length:Nat):Int)))))) then (y6 x_1.Events (zP (yM.Serial - x_1.Serial))).bind fun x_2 =>
  some (.inr (x_2,true)) else
  rec (zP (v_1+(1:Int)))) else
  some (.inl ()))
def nG (F:Nat) (l_1:zM) (yM:z6):Nat→Int→Option (Unit⊕(zI×Bool))
  | 0,_=>none
  | n+1,v_1=>uZ F l_1 yM (nG F l_1 yM n) v_1
def zB2 (F:Nat) (l_1:zM) (yM:z6):Option (zI×Bool) :=
  (kJ F l_1).bind fun r_1 =>
  (bif (r_1 != (0:Int)) then some ((⟨(0:Int),(0:Int),([]:List Int),(0:Int),(0:Int),[]⟩:zI),false) else
  (nG F l_1 yM F (0:Int)).bind fun (o_1:Unit⊕(zI×Bool)) =>
  (match o_1 with
  | (.inl q_1) =>
  some ((⟨(0:Int),(0:Int),([]:List Int),(0:Int),(0:Int),[]⟩:zI),false)
  | (.inr q_2) =>
  some q_2))
def zCv (F:Nat):Option Bool :=
  (zBt F (0:Int) (0:Int) ([(1:Int),(2:Int)]:List Int)).bind fun r_1=>(zBt F (2:Int) (0:Int) ([(2:Int),(3:Int)]:List Int)).bind fun r_2=>(zCF F (⟨([(⟨(1:Int),([116,49]:List Int),(0:Int)⟩:z0)]:List z0),([(⟨(0:Int),(0:Int)⟩:zU)]:List zU),[]⟩:zL) ([r_1,r_2]:List zB)).bind fun r_3 =>
  (zBt F (3:Int) (3:Int) ([(5:Int)]:List Int)).bind fun r_4=>(zCF F (⟨([(⟨(1:Int),([116,49]:List Int),(0:Int)⟩:z0)]:List z0),([(⟨(0:Int),(0:Int)⟩:zU)]:List zU),[]⟩:zL) ([r_4]:List zB)).bind fun r_5 =>
  (zBt F (3:Int) (2:Int) ([(5:Int)]:List Int)).bind fun r_6=>(zCF F (⟨([(⟨(1:Int),([116,49]:List Int),(0:Int)⟩:z0)]:List z0),([(⟨(0:Int),(0:Int)⟩:zU)]:List zU),[]⟩:zL) ([r_6]:List zB)).bind fun r_7 =>
  (zBd F r_5.1).bind fun r_8 =>
  (zB2 F r_3.1 (⟨(1:Int),(3:Int)⟩:z6)).bind fun r_9 =>
  ((bif (r_3.2==(0:Int)) then (bif ((((r_3.1.Parts).length:Nat):Int)==(1:Int)) then ((y6 r_3.1.Parts (0:Int)).bind fun x_1=>bif ((((x_1.Events).length:Nat):Int)==(4:Int)) then (bif (r_5.2==(0:Int)) then (bif ((((r_8).length:Nat):Int)==(1:Int)) then ((y6 r_8 (0:Int)).bind fun x_2=>bif (decide (x_2=(⟨(1:Int),(0:Int),(3:Int)⟩:yC))) then (bif (r_7.2==(11:Int)) then (bif r_9.2 then (bif (r_9.1.At==(3:Int)) then ((kJ F r_3.1).bind fun wS=>some (wS==(0:Int))) else (some false)) else (some false)) else (some false)) else (some false)) else (some false)) else (some false)) else (some false)) else (some false)) else (some false))).bind fun (p_1:Bool) =>
  some p_1
def u5 (F:Nat) (c_1:Int) (rec:Int→Option (Unit⊕Bool)) (i_1:Int):Option (Unit⊕Bool) :=
  (bif decide (i_1<(((([95,46,58,47,60,62,36,42,126,45]:List Int)).length:Nat):Int)) then (y6 ([95,46,58,47,60,62,36,42,126,45]:List Int) i_1).bind fun c_2 =>
  (bif (c_2==c_1) then some (.inr true) else
  rec (zP (i_1+(1:Int)))) else
  some (.inl ()))
def qO (F:Nat) (c_1:Int):Nat→Int→Option (Unit⊕Bool)
  | 0,_=>none
  | n+1,i_1=>u5 F c_1 (qO F c_1 n) i_1
def zBL (F:Nat) (c_1:Int):Option Bool :=
  (bif (bif decide (c_1≥(97:Int)) then (decide (c_1≤(122:Int))||(bif decide (c_1≥(65:Int)) then (decide (c_1≤(90:Int))||(decide (c_1≥(48:Int))&&decide (c_1≤(57:Int)))) else (decide (c_1≥(48:Int))&&decide (c_1≤(57:Int))))) else (bif decide (c_1≥(65:Int)) then (decide (c_1≤(90:Int))||(decide (c_1≥(48:Int))&&decide (c_1≤(57:Int)))) else (decide (c_1≥(48:Int))&&decide (c_1≤(57:Int))))) then some true else
  (qO F c_1 F (0:Int)).bind fun (o_1:Unit⊕Bool) =>
  (match o_1 with
  | (.inl q_1) =>
  some false
  | (.inr q_2) =>
  some q_2))
def jZ (F:Nat) (s_1:List Int) (rec:Int→Option (Unit⊕Int)) (i_1:Int):Option (Unit⊕Int) :=
  (bif decide (i_1<(((s_1).length:Nat):Int)) then (y6 s_1 i_1).bind fun c_1=>(zBL F c_1).bind fun r_1 =>
  (bif !r_1 then some (.inr (3:Int)) else
  rec (zP (i_1+(1:Int)))) else
  some (.inl ()))
def zAP (F:Nat) (s_1:List Int):Nat→Int→Option (Unit⊕Int)
  | 0,_=>none
  | n+1,i_1=>jZ F s_1 (zAP F s_1 n) i_1
def zA6 (F:Nat) (s_1:List Int):Option Int :=
  (bif (decide ((((s_1).length:Nat):Int)<(1:Int))||decide ((((s_1).length:Nat):Int)>(40:Int))) then some (3:Int) else
  (zAP F s_1 F (0:Int)).bind fun (o_1:Unit⊕Int) =>
  (match o_1 with
  | (.inl q_1) =>
  some (0:Int)
  | (.inr q_2) =>
  some q_2))
def zBz (F:Nat) (t_1:z0):Option Int :=
  (bif (decide (t_1.Id<(0:Int))||(decide (t_1.Id>(1000000000000000:Int))||(decide (t_1.Domain<(0:Int))||decide (t_1.Domain≥(8:Int))))) then some (2:Int) else
  (zA6 F t_1.Name).bind fun r_1 =>
  some r_1)
def t5 (F:Nat) (d_1:List (zU)) (yM:Int) (rec:Int→Option (Unit⊕Int)) (i_1:Int):Option (Unit⊕Int) :=
  (bif decide (i_1<(((d_1).length:Nat):Int)) then (y6 d_1 i_1).bind fun x_1 =>
  (bif (x_1.Id==yM) then some (.inr i_1) else
  rec (zP (i_1+(1:Int)))) else
  some (.inl ()))
def zAQ (F:Nat) (d_1:List (zU)) (yM:Int):Nat→Int→Option (Unit⊕Int)
  | 0,_=>none
  | n+1,i_1=>t5 F d_1 yM (zAQ F d_1 yM n) i_1
def zAo (F:Nat) (d_1:List (zU)) (yM:Int):Option Int :=
  (zAQ F d_1 yM F (0:Int)).bind fun (o_1:Unit⊕Int) =>
  (match o_1 with
  | (.inl q_1) =>
  some (-1:Int)
  | (.inr q_2) =>
  some q_2)
def nY (n_1:Int):Option Bool :=
  some (decide (n_1≥(0:Int))&&decide (n_1≤(1000000000000:Int)))
def zC5 (F:Nat) (d_1:List (zU)) (x_1:xR):Option Int :=
  (((zAo F d_1 x_1.A).bind fun r_1=>bif decide (r_1<(0:Int)) then (some true) else ((zAo F d_1 x_1.B).bind fun r_2=>some (decide (r_2<(0:Int)))))).bind fun (p_1:Bool) =>
  (bif p_1 then some (5:Int) else
  (bif (x_1.A==x_1.B) then some (1:Int) else
  (((nY x_1.AtA).bind fun r_3=>bif !r_3 then (some true) else ((nY x_1.AtB.Lo).bind fun r_4=>bif !r_4 then (some true) else ((nY x_1.AtB.Hi).bind fun r_5=>bif !r_5 then (some true) else (some (decide (x_1.AtB.Lo>x_1.AtB.Hi))))))).bind fun (p_2:Bool) =>
  (bif p_2 then some (2:Int) else
  some (0:Int))))
def tI (F:Nat) (d_1:List (zU)) (rec:Int→Option (Unit⊕Int)) (i_1:Int):Option (Unit⊕Int) :=
  (bif decide (i_1<(((d_1).length:Nat):Int)) then (((y6 d_1 i_1).bind fun x_3=>bif decide (x_3.Id<(0:Int)) then (some true) else ((y6 d_1 i_1).bind fun x_4=>bif decide (x_4.Id≥(8:Int)) then (some true) else ((y6 d_1 i_1).bind fun x_5=>bif decide (x_5.Ppm<(0:Int)) then (some true) else ((y6 d_1 i_1).bind fun x_6=>some (decide (x_6.Ppm>(10000:Int)))))))).bind fun (p_2:Bool) =>
  (bif p_2 then some (.inr (2:Int)) else
  (y6 d_1 i_1).bind fun x_7=>(zAo F d_1 x_7.Id).bind fun r_1 =>
  (bif decide (r_1<i_1) then some (.inr (4:Int)) else
  rec (zP (i_1+(1:Int))))) else
  some (.inl ()))
def zAd (F:Nat) (d_1:List (zU)):Nat→Int→Option (Unit⊕Int)
  | 0,_=>none
  | n+1,i_1=>tI F d_1 (zAd F d_1 n) i_1
def tK (F:Nat) (d_1:List (zU)) (l_1:List (xR)) (rec:Int→Option (Unit⊕Int)) (i_2:Int):Option (Unit⊕Int) :=
  (bif decide (i_2<(((l_1).length:Nat):Int)) then (y6 l_1 i_2).bind fun x_8=>(zC5 F d_1 x_8).bind fun r_2 =>
  (bif (r_2 != (0:Int)) then some (.inr r_2) else
  rec (zP (i_2+(1:Int)))) else
  some (.inl ()))
def zAe (F:Nat) (d_1:List (zU)) (l_1:List (xR)):Nat→Int→Option (Unit⊕Int)
  | 0,_=>none
  | n+1,i_2=>tK F d_1 l_1 (zAe F d_1 l_1 n) i_2
def zBn (F:Nat) (d_1:List (zU)) (l_1:List (xR)):Option Int :=
  (bif ((((d_1).length:Nat):Int)==(0:Int)) then some (8:Int) else
  (bif (decide ((((d_1).length:Nat):Int)>(8:Int))||decide ((((l_1).length:Nat):Int)>(200:Int))) then some (7:Int) else
  (((y6 d_1 (0:Int)).bind fun x_1=>bif (x_1.Id != (0:Int)) then (some true) else ((y6 d_1 (0:Int)).bind fun x_2=>some (x_2.Ppm != (0:Int))))).bind fun (p_1:Bool) =>
  (bif p_1 then some (10:Int) else
  (zAd F d_1 F (0:Int)).bind fun (o_1:Unit⊕Int) =>
  (match o_1 with
  | (.inl q_1) =>
  (zAe F d_1 l_1 F (0:Int)).bind fun (o_2:Unit⊕Int) =>
  (match o_2 with
  | (.inl q_3) =>
  some (0:Int)
  | (.inr q_4) =>
  some q_4)
  | (.inr q_2) =>
  some q_2))))
def zD8 (F:Nat) (d_1:List (zU)) (yM:Int):Option (Int×Bool) :=
  (zAo F d_1 yM).bind fun r_1 =>
  (((zBn F d_1 []).bind fun r_2=>bif (r_2 != (0:Int)) then (some true) else (some (decide (r_1<(0:Int)))))).bind fun (p_1:Bool) =>
  (bif p_1 then some ((0:Int),false) else
  (y6 d_1 r_1).bind fun x_1 =>
  some (x_1.Ppm,true))
def t8 (F:Nat) (h_1:zL) (i_1:Int) (rec:Int→Option (Unit⊕Int)) (k_1:Int):Option (Unit⊕Int) :=
  (bif decide (k_1<i_1) then (y6 h_1.Threads k_1).bind fun x_2=>(y6 h_1.Threads i_1).bind fun x_3 =>
  (bif (x_2.Id==x_3.Id) then some (.inr (4:Int)) else
  rec (zP (k_1+(1:Int)))) else
  some (.inl ()))
def nZ (F:Nat) (h_1:zL) (i_1:Int):Nat→Int→Option (Unit⊕Int)
  | 0,_=>none
  | n+1,k_1=>t8 F h_1 i_1 (nZ F h_1 i_1 n) k_1
def t3 (F:Nat) (h_1:zL) (rec:Int→Option (Unit⊕Int)) (i_1:Int):Option (Unit⊕Int) :=
  (bif decide (i_1<(((h_1.Threads).length:Nat):Int)) then (y6 h_1.Threads i_1).bind fun x_1=>(zBz F x_1).bind fun r_1 =>
  (bif (r_1 != (0:Int)) then some (.inr r_1) else
  (nZ F h_1 i_1 F (0:Int)).bind fun (o_2:Unit⊕Int) =>
  (match o_2 with
  | (.inl q_1) =>
  rec (zP (i_1+(1:Int)))
  | (.inr q_2) =>
  some (.inr q_2))) else
  some (.inl ()))
def zAS (F:Nat) (h_1:zL):Nat→Int→Option (Unit⊕Int)
  | 0,_=>none
  | n+1,i_1=>t3 F h_1 (zAS F h_1 n) i_1
def t7 (F:Nat) (h_1:zL) (rec:Int→Option (Unit⊕Int)) (i_2:Int):Option (Unit⊕Int) :=
  (bif decide (i_2<(((h_1.Threads).length:Nat):Int)) then (y6 h_1.Threads i_2).bind fun x_4=>(zD8 F h_1.Domains x_4.Domain).bind fun r_3 =>
  (bif !r_3.2 then some (.inr (5:Int)) else
  rec (zP (i_2+(1:Int)))) else
  some (.inl ()))
def nW (F:Nat) (h_1:zL):Nat→Int→Option (Unit⊕Int)
  | 0,_=>none
  | n+1,i_2=>t7 F h_1 (nW F h_1 n) i_2
def zDb (F:Nat) (h_1:zL):Option Int :=
  (bif ((((h_1.Threads).length:Nat):Int)==(0:Int)) then some (8:Int) else
  (bif decide ((((h_1.Threads).length:Nat):Int)>(64:Int)) then some (7:Int) else
  (zAS F h_1 F (0:Int)).bind fun (o_1:Unit⊕Int) =>
  (match o_1 with
  | (.inl q_3) =>
  (zBn F h_1.Domains h_1.Snaps).bind fun r_2 =>
  (bif (r_2 != (0:Int)) then some r_2 else
  (nW F h_1 F (0:Int)).bind fun (o_3:Unit⊕Int) =>
  (match o_3 with
  | (.inl q_5) =>
  some (0:Int)
  | (.inr q_6) =>
  some q_6))
  | (.inr q_4) =>
  some q_4)))
def nF (n_1:Int):Option Bool :=
  some (decide (n_1≥(0:Int))&&decide (n_1≤(1000000000000000:Int)))
def zEF (k_1:Int):Option (Bool×Bool×Bool×Bool) :=
  some (((k_1==(1:Int))||((k_1==(3:Int))||(k_1==(4:Int)))),decide (k_1≥(4:Int)),((k_1==(9:Int))||(k_1==(11:Int))),((k_1==(5:Int))||(k_1==(11:Int))))
def q6 (F:Nat) (l_1:List (List Int)) (rec:Int→Option (Unit⊕Int)) (i_1:Int):Option (Unit⊕Int) :=
  (bif decide (i_1<(((l_1).length:Nat):Int)) then (y6 l_1 i_1).bind fun x_1=>(zA6 F x_1).bind fun r_1 =>
  (bif (r_1 != (0:Int)) then some (.inr (3:Int)) else
  rec (zP (i_1+(1:Int)))) else
  some (.inl ()))
def nP (F:Nat) (l_1:List (List Int)):Nat→Int→Option (Unit⊕Int)
  | 0,_=>none
  | n+1,i_1=>q6 F l_1 (nP F l_1 n) i_1
def zBO (F:Nat) (l_1:List (List Int)):Option Int :=
  (bif decide ((((l_1).length:Nat):Int)>(32:Int)) then some (7:Int) else
  (nP F l_1 F (0:Int)).bind fun (o_1:Unit⊕Int) =>
  (match o_1 with
  | (.inl q_1) =>
  some (0:Int)
  | (.inr q_2) =>
  some q_2))
def qI (n_1:Int) (zA4:Int) (pW:Int):Option Int :=
  (bif (decide (n_1<zA4)||decide (n_1>pW)) then some (2:Int) else
  some (0:Int))
def zAX (e_1:zI):Option Int :=
  (((((bif (e_1.Kind==(1:Int)) then some (e_1.Kind==(1:Int)) else
  (bif (e_1.Kind==(2:Int)) then some (e_1.Kind==(2:Int)) else
  some (e_1.Kind==(3:Int)))):Option Bool)).bind fun (o_2:Bool) =>
  (bif o_2 then some (.inr (0:Int)) else
  (bif (e_1.Kind==(4:Int)) then (qI e_1.N (-1000000000000000:Int) (1000000000000000:Int)).bind fun r_1 =>
  some (.inr r_1) else
  (bif (e_1.Kind==(5:Int)) then (qI e_1.N (1:Int) (1000000000000:Int)).bind fun r_2 =>
  some (.inr r_2) else
  (bif (e_1.Kind==(8:Int)) then (qI e_1.N (0:Int) (63:Int)).bind fun r_3 =>
  some (.inr r_3) else
  (bif (e_1.Kind==(9:Int)) then (qI e_1.N (0:Int) (3:Int)).bind fun r_4 =>
  (bif ((r_4==(0:Int))&&(e_1.N==(2:Int))) then (qI e_1.M (0:Int) (1000000000000000:Int)).bind fun r_5 =>
  some (.inr r_5) else
  (bif ((r_4==(0:Int))&&(e_1.M != (0:Int))) then some (.inr (1:Int)) else
  some (.inr r_4))) else
  some (.inl ())))))):Option (Unit⊕Int))).bind fun (o_1:Unit⊕Int) =>
  (match o_1 with
  | (.inl q_1) =>
  (qI e_1.N (0:Int) (1000000000000000:Int)).bind fun r_6 =>
  (bif ((r_6==(0:Int))&&(e_1.Kind==(11:Int))) then (qI e_1.M (1:Int) (1000000000000:Int)).bind fun r_7 =>
  some r_7 else
  some r_6)
  | (.inr q_2) =>
  some q_2)
def zCo (F:Nat) (e_1:zI):Option Int :=
  (bif (decide (e_1.At<(0:Int))||decide (e_1.At>(1000000000000:Int))) then some (2:Int) else
  (bif (decide (e_1.Kind<(1:Int))||decide (e_1.Kind>(12:Int))) then some (1:Int) else
  (zEF e_1.Kind).bind fun r_1 =>
  ((bif !r_1.1 then (bif !(e_1.Name==([]:List Int)) then (some true) else (bif !r_1.2.1 then (bif (e_1.N != (0:Int)) then (some true) else (bif !r_1.2.2.1 then (bif (e_1.M != (0:Int)) then (some true) else (bif !r_1.2.2.2 then (some (decide ((((e_1.Stack).length:Nat):Int)>(0:Int)))) else (some false))) else (bif !r_1.2.2.2 then (some (decide ((((e_1.Stack).length:Nat):Int)>(0:Int)))) else (some false)))) else (bif !r_1.2.2.1 then (bif (e_1.M != (0:Int)) then (some true) else (bif !r_1.2.2.2 then (some (decide ((((e_1.Stack).length:Nat):Int)>(0:Int)))) else (some false))) else (bif !r_1.2.2.2 then (some (decide ((((e_1.Stack).length:Nat):Int)>(0:Int)))) else (some false))))) else (bif !r_1.2.1 then (bif (e_1.N != (0:Int)) then (some true) else (bif !r_1.2.2.1 then (bif (e_1.M != (0:Int)) then (some true) else (bif !r_1.2.2.2 then (some (decide ((((e_1.Stack).length:Nat):Int)>(0:Int)))) else (some false))) else (bif !r_1.2.2.2 then (some (decide ((((e_1.Stack).length:Nat):Int)>(0:Int)))) else (some false)))) else (bif !r_1.2.2.1 then (bif (e_1.M != (0:Int)) then (some true) else (bif !r_1.2.2.2 then (some (decide ((((e_1.Stack).length:Nat):Int)>(0:Int)))) else (some false))) else (bif !r_1.2.2.2 then (some (decide ((((e_1.Stack).length:Nat):Int)>(0:Int)))) else (some false)))))).bind fun (p_1:Bool) =>
  (bif p_1 then some (1:Int) else
  (((bif r_1.1 then (zA6 F e_1.Name).bind fun r_2 =>
  some r_2 else
  some (0:Int)):Option Int)).bind fun (o_1:Int) =>
  (((bif r_1.2.2.2 then (zBO F e_1.Stack).bind fun r_3 =>
  some r_3 else
  some o_1):Option Int)).bind fun (o_2:Int) =>
  (bif (o_2 != (0:Int)) then some o_2 else
  (zAX e_1).bind fun r_4 =>
  some r_4))))
def qJ (F:Nat) (l_1:List (zI)) (rec:Int→Option (Unit⊕Int)) (i_1:Int):Option (Unit⊕Int) :=
  (bif decide (i_1<(((l_1).length:Nat):Int)) then (y6 l_1 i_1).bind fun x_1=>(zCo F x_1).bind fun r_1 =>
  (bif (r_1 != (0:Int)) then some (.inr r_1) else
  ((bif decide (i_1>(0:Int)) then ((y6 l_1 i_1).bind fun x_2=>(y6 l_1 (zP (i_1 - (1:Int)))).bind fun x_3=>some (decide (x_2.At<x_3.At))) else (some false))).bind fun (p_1:Bool) =>
  (bif p_1 then some (.inr (11:Int)) else
  rec (zP (i_1+(1:Int))))) else
  some (.inl ()))
def jC (F:Nat) (l_1:List (zI)):Nat→Int→Option (Unit⊕Int)
  | 0,_=>none
  | n+1,i_1=>qJ F l_1 (jC F l_1 n) i_1
def zAi (F:Nat) (l_1:List (zI)):Option Int :=
  (jC F l_1 F (0:Int)).bind fun (o_1:Unit⊕Int) =>
  (match o_1 with
  | (.inl q_1) =>
  some (0:Int)
  | (.inr q_2) =>
  some q_2)
def zCx (F:Nat) (p_1:zB):Option Int :=
  (((nF p_1.Thread).bind fun r_1=>bif !r_1 then (some true) else ((nF p_1.Serial).bind fun r_2=>bif !r_2 then (some true) else ((nF p_1.Lost).bind fun r_3=>bif !r_3 then (some true) else (some (decide (p_1.Lost>p_1.Serial))))))).bind fun (p_2:Bool) =>
  (bif p_2 then some (2:Int) else
  (bif decide (p_1.Serial>(zP ((1000000000000000:Int) - (((p_1.Events).length:Nat):Int)))) then some (2:Int) else
  (bif ((((p_1.Events).length:Nat):Int)==(0:Int)) then some (8:Int) else
  (bif decide ((((p_1.Events).length:Nat):Int)>(1000:Int)) then some (7:Int) else
  (zAi F p_1.Events).bind fun r_4 =>
  some r_4))))
def tG (F:Nat) (h_1:zL) (z7:Int) (rec:Int→Option (Unit⊕Bool)) (i_1:Int):Option (Unit⊕Bool) :=
  (bif decide (i_1<(((h_1.Threads).length:Nat):Int)) then (y6 h_1.Threads i_1).bind fun x_1 =>
  (bif (x_1.Id==z7) then some (.inr true) else
  rec (zP (i_1+(1:Int)))) else
  some (.inl ()))
def zAk (F:Nat) (h_1:zL) (z7:Int):Nat→Int→Option (Unit⊕Bool)
  | 0,_=>none
  | n+1,i_1=>tG F h_1 z7 (zAk F h_1 z7 n) i_1
def zCD (F:Nat) (h_1:zL) (z7:Int):Option Bool :=
  (zAk F h_1 z7 F (0:Int)).bind fun (o_1:Unit⊕Bool) =>
  (match o_1 with
  | (.inl q_1) =>
  some false
  | (.inr q_2) =>
  some q_2)
def kT (F:Nat) (l_1:List (zB)) (z7:Int) (rec:Int→Int→Int→Option (Int×Int)) (n_1:Int) (zAt:Int) (i_1:Int):Option (Int×Int) :=
  (bif decide (i_1<(((l_1).length:Nat):Int)) then (((y6 l_1 i_1).bind fun x_1 =>
  (bif (x_1.Thread==z7) then (y6 l_1 i_1).bind fun x_2=>(y6 l_1 i_1).bind fun x_3 =>
  (y6 l_1 i_1).bind fun x_4=>(y6 l_1 i_1).bind fun x_5=>(y6 x_4.Events (zP ((((x_5.Events).length:Nat):Int) - (1:Int)))).bind fun x_6 =>
  some (zP (x_2.Serial+(((x_3.Events).length:Nat):Int)),x_6.At) else
  some (n_1,zAt)):Option (Int×Int))).bind fun (o_2:(Int×Int)) =>
  rec o_2.1 o_2.2 (zP (i_1+(1:Int))) else
  some (n_1,zAt))
def zAz (F:Nat) (l_1:List (zB)) (z7:Int):Nat→Int→Int→Int→Option (Int×Int)
  | 0,_,_,_=>none
  | n+1,n_1,zAt,i_1=>kT F l_1 z7 (zAz F l_1 z7 n) n_1 zAt i_1
def zD6 (F:Nat) (l_1:List (zB)) (z7:Int):Option (Int×Int) :=
  (zAz F l_1 z7 F (0:Int) (0:Int) (0:Int)).bind fun (o_1:(Int×Int)) =>
  some (o_1.1,o_1.2)
def zAO (F:Nat) (l_1:List (zB)) (p_1:zB):Option Bool :=
  (zD6 F l_1 p_1.Thread).bind fun r_1 =>
  ((bif (p_1.Serial==(zP (r_1.1+p_1.Lost))) then ((y6 p_1.Events (0:Int)).bind fun x_1=>some (decide (x_1.At≥r_1.2))) else (some false))).bind fun (p_2:Bool) =>
  some p_2
def qY (F:Nat) (l_1:List (zB)) (rec:Int→Int→Option Int) (n_1:Int) (i_1:Int):Option Int :=
  (bif decide (i_1<(((l_1).length:Nat):Int)) then (y6 l_1 i_1).bind fun x_1 =>
  rec (zP (n_1+(((x_1.Events).length:Nat):Int))) (zP (i_1+(1:Int))) else
  some n_1)
def j8 (F:Nat) (l_1:List (zB)):Nat→Int→Int→Option Int
  | 0,_,_=>none
  | n+1,n_1,i_1=>qY F l_1 (j8 F l_1 n) n_1 i_1
def zBw (F:Nat) (l_1:List (zB)):Option Int :=
  (j8 F l_1 F (0:Int) (0:Int)).bind fun (o_1:Int) =>
  some o_1
def tF (F:Nat) (z7:Int) (l_1:List (zB)) (i_1:Int) (rec:Int→(List zB)→Option (List zB)) (k_1:Int) (zY:List zB):Option (List zB) :=
  (y6 l_1 i_1).bind fun x_2 =>
  (bif decide (k_1<(((x_2.Events).length:Nat):Int)) then (((((bif (k_1==(0:Int)) then (y6 l_1 i_1).bind fun x_3 =>
  some x_3.Lost else
  some (0:Int)):Option Int)).bind fun (o_5:Int) =>
  ((bif ((((zY).length:Nat):Int)==(0:Int)) then (some true) else (bif decide (o_5>(0:Int)) then (some true) else ((need ((0:Int)≤(zP ((((zY).length:Nat):Int) - (1:Int)))∧(zP ((((zY).length:Nat):Int) - (1:Int)))<(((zY).length:Nat):Int))).bind fun _=>(need ((zP ((((zY).length:Nat):Int) - (1:Int))).toNat+1=(zY).length)).bind fun _=>some (((((lst zY).Events).length:Nat):Int)==(1000:Int)))))).bind fun (p_1:Bool) =>
  (((bif p_1 then (y6 l_1 i_1).bind fun x_4=>(need (((zY).length+1) * 48≤140737488355328)).bind fun _ =>
  some (zP ((((zY).length:Nat):Int)+(1:Int)),(zY++[(⟨z7,zP (x_4.Serial+k_1),o_5,[]⟩:zB)])) else
  some ((((zY).length:Nat):Int),zY)):Option (Int×(List zB)))).bind fun (o_6:(Int×(List zB))) =>
  (need ((0:Int)≤(zP (o_6.1 - (1:Int)))∧(zP (o_6.1 - (1:Int)))<(((o_6.2).length:Nat):Int))).bind fun _=>(need ((zP (o_6.1 - (1:Int))).toNat+1=(o_6.2).length)).bind fun _=>(y6 l_1 i_1).bind fun x_5=>(y6 x_5.Events k_1).bind fun x_6=>(need ((((lst o_6.2).Events).length+(([x_6]:List zI)).length) * 72≤140737488355328)).bind fun _=>(need ((0:Int)≤(zP (o_6.1 - (1:Int)))∧(zP (o_6.1 - (1:Int)))<(((o_6.2).length:Nat):Int))).bind fun _=>(need ((zP (o_6.1 - (1:Int))).toNat+1=(o_6.2).length)).bind fun _ =>
  some ((ini o_6.2)++[(⟨(lst o_6.2).Thread,(lst o_6.2).Serial,(lst o_6.2).Lost,(((lst o_6.2).Events)++([x_6]:List zI))⟩:zB)]):Option (List zB))).bind fun (o_4:(List zB)) =>
  rec (zP (k_1+(1:Int))) o_4 else
  some zY)
def pN (F:Nat) (z7:Int) (l_1:List (zB)) (i_1:Int):Nat→Int→(List zB)→Option (List zB)
  | 0,_,_=>none
  | n+1,k_1,zY=>tF F z7 l_1 i_1 (pN F z7 l_1 i_1 n) k_1 zY
def jL (F:Nat) (z7:Int) (l_1:List (zB)) (rec:Int→(List zB)→Option (List zB)) (i_1:Int) (zE:List zB):Option (List zB) :=
  (bif decide (i_1<(((l_1).length:Nat):Int)) then (((y6 l_1 i_1).bind fun x_1 =>
  (bif (x_1.Thread != z7) then some zE else
  (pN F z7 l_1 i_1 F (0:Int) zE).bind fun (o_3:(List zB)) =>
  some o_3):Option (List zB))).bind fun (o_2:(List zB)) =>
  rec (zP (i_1+(1:Int))) o_2 else
  some zE)
def pE (F:Nat) (z7:Int) (l_1:List (zB)):Nat→Int→(List zB)→Option (List zB)
  | 0,_,_=>none
  | n+1,i_1,zE=>jL F z7 l_1 (pE F z7 l_1 n) i_1 zE
def zCw (F:Nat) (z7:Int) (l_1:List (zB)):Option (List (zB)) :=
  (pE F z7 l_1 F (0:Int) ([]:List zB)).bind fun (o_1:(List zB)) =>
  some o_1
def pJ (F:Nat) (h_1:zL) (l_1:List (zB)) (rec:Int→Option (Unit⊕(zM×Int))) (i_1:Int):Option (Unit⊕(zM×Int)) :=
  (bif decide (i_1<(((l_1).length:Nat):Int)) then (y6 l_1 i_1).bind fun x_1=>(zCx F x_1).bind fun r_2 =>
  (bif (r_2 != (0:Int)) then some (.inr ((⟨(⟨[],[],[]⟩:zL),[]⟩:zM),r_2)) else
  (y6 l_1 i_1).bind fun x_2=>(zCD F h_1 x_2.Thread).bind fun r_3 =>
  (bif !r_3 then some (.inr ((⟨(⟨[],[],[]⟩:zL),[]⟩:zM),(5:Int))) else
  (need ((0:Int)≤i_1∧i_1≤(((l_1).length:Nat):Int))).bind fun _=>(y6 l_1 i_1).bind fun x_3=>(zAO F (sub l_1 (0:Int) i_1) x_3).bind fun r_4 =>
  (bif !r_4 then some (.inr ((⟨(⟨[],[],[]⟩:zL),[]⟩:zM),(11:Int))) else
  rec (zP (i_1+(1:Int)))))) else
  some (.inl ()))
def zBk (F:Nat) (h_1:zL) (l_1:List (zB)):Nat→Int→Option (Unit⊕(zM×Int))
  | 0,_=>none
  | n+1,i_1=>pJ F h_1 l_1 (zBk F h_1 l_1 n) i_1
def pO (F:Nat) (h_1:zL) (l_1:List (zB)) (rec:Int→(List zB)→Option (List zB)) (t_1:Int) (zE:List zB):Option (List zB) :=
  (bif decide (t_1<(((h_1.Threads).length:Nat):Int)) then (y6 h_1.Threads t_1).bind fun x_4=>(zCw F x_4.Id l_1).bind fun r_6=>(need (((zE).length+(r_6).length) * 48≤140737488355328)).bind fun _ =>
  rec (zP (t_1+(1:Int))) (zE++r_6) else
  some zE)
def zBo (F:Nat) (h_1:zL) (l_1:List (zB)):Nat→Int→(List zB)→Option (List zB)
  | 0,_,_=>none
  | n+1,t_1,zE=>pO F h_1 l_1 (zBo F h_1 l_1 n) t_1 zE
def zFy (F:Nat) (h_1:zL) (l_1:List (zB)):Option (zM×Int) :=
  (zDb F h_1).bind fun r_1 =>
  (bif (r_1 != (0:Int)) then some ((⟨(⟨[],[],[]⟩:zL),[]⟩:zM),r_1) else
  (zBk F h_1 l_1 F (0:Int)).bind fun (o_1:Unit⊕(zM×Int)) =>
  (match o_1 with
  | (.inl q_1) =>
  (zBw F l_1).bind fun r_5 =>
  (bif decide (r_5>(20000:Int)) then some ((⟨(⟨[],[],[]⟩:zL),[]⟩:zM),(7:Int)) else
  (zBo F h_1 l_1 F (0:Int) []).bind fun (o_2:(List zB)) =>
  some ((⟨h_1,o_2⟩:zM),(0:Int)))
  | (.inr q_2) =>
  some q_2))
def uL (F:Nat) (a_1:zL) (b_1:zL) (rec:Int→Option (Unit⊕Bool)) (i_1:Int):Option (Unit⊕Bool) :=
  (bif decide (i_1<(((a_1.Threads).length:Nat):Int)) then (y6 a_1.Threads i_1).bind fun x_1=>(y6 b_1.Threads i_1).bind fun x_2 =>
  (bif (!(decide (x_1=x_2))) then some (.inr false) else
  rec (zP (i_1+(1:Int)))) else
  some (.inl ()))
def kL (F:Nat) (a_1:zL) (b_1:zL):Nat→Int→Option (Unit⊕Bool)
  | 0,_=>none
  | n+1,i_1=>uL F a_1 b_1 (kL F a_1 b_1 n) i_1
def uM (F:Nat) (a_1:zL) (b_1:zL) (rec:Int→Option (Unit⊕Bool)) (i_2:Int):Option (Unit⊕Bool) :=
  (bif decide (i_2<(((a_1.Domains).length:Nat):Int)) then (y6 a_1.Domains i_2).bind fun x_3=>(y6 b_1.Domains i_2).bind fun x_4 =>
  (bif (!(decide (x_3=x_4))) then some (.inr false) else
  rec (zP (i_2+(1:Int)))) else
  some (.inl ()))
def kS (F:Nat) (a_1:zL) (b_1:zL):Nat→Int→Option (Unit⊕Bool)
  | 0,_=>none
  | n+1,i_2=>uM F a_1 b_1 (kS F a_1 b_1 n) i_2
def uG (F:Nat) (a_1:zL) (b_1:zL) (rec:Int→Option (Unit⊕Bool)) (i_3:Int):Option (Unit⊕Bool) :=
  (bif decide (i_3<(((a_1.Snaps).length:Nat):Int)) then (y6 a_1.Snaps i_3).bind fun x_5=>(y6 b_1.Snaps i_3).bind fun x_6 =>
  (bif (!(decide (x_5=x_6))) then some (.inr false) else
  rec (zP (i_3+(1:Int)))) else
  some (.inl ()))
def kO (F:Nat) (a_1:zL) (b_1:zL):Nat→Int→Option (Unit⊕Bool)
  | 0,_=>none
  | n+1,i_3=>uG F a_1 b_1 (kO F a_1 b_1 n) i_3
def zAn (F:Nat) (a_1:zL) (b_1:zL):Option Bool :=
  (bif (((((a_1.Threads).length:Nat):Int) != (((b_1.Threads).length:Nat):Int))||(((((a_1.Domains).length:Nat):Int) != (((b_1.Domains).length:Nat):Int))||((((a_1.Snaps).length:Nat):Int) != (((b_1.Snaps).length:Nat):Int)))) then some false else
  (kL F a_1 b_1 F (0:Int)).bind fun (o_1:Unit⊕Bool) =>
  (match o_1 with
  | (.inl q_1) =>
  (kS F a_1 b_1 F (0:Int)).bind fun (o_2:Unit⊕Bool) =>
  (match o_2 with
  | (.inl q_3) =>
  (kO F a_1 b_1 F (0:Int)).bind fun (o_3:Unit⊕Bool) =>
  (match o_3 with
  | (.inl q_5) =>
  some true
  | (.inr q_6) =>
  some q_6)
  | (.inr q_4) =>
  some q_4)
  | (.inr q_2) =>
  some q_2))
def tL (F:Nat) (a_1:List (List Int)) (b_1:List (List Int)) (rec:Int→Option (Unit⊕Bool)) (i_1:Int):Option (Unit⊕Bool) :=
  (bif decide (i_1<(((a_1).length:Nat):Int)) then (y6 a_1 i_1).bind fun x_1=>(y6 b_1 i_1).bind fun x_2 =>
  (bif !(x_1==x_2) then some (.inr false) else
  rec (zP (i_1+(1:Int)))) else
  some (.inl ()))
def zAg (F:Nat) (a_1:List (List Int)) (b_1:List (List Int)):Nat→Int→Option (Unit⊕Bool)
  | 0,_=>none
  | n+1,i_1=>tL F a_1 b_1 (zAg F a_1 b_1 n) i_1
def zCC (F:Nat) (a_1:List (List Int)) (b_1:List (List Int)):Option Bool :=
  (bif ((((a_1).length:Nat):Int) != (((b_1).length:Nat):Int)) then some false else
  (zAg F a_1 b_1 F (0:Int)).bind fun (o_1:Unit⊕Bool) =>
  (match o_1 with
  | (.inl q_1) =>
  some true
  | (.inr q_2) =>
  some q_2))
def zDl (F:Nat) (a_1:zI) (b_1:zI):Option Bool :=
  ((bif (a_1.At==b_1.At) then (bif (a_1.Kind==b_1.Kind) then (bif (a_1.Name==b_1.Name) then (bif (a_1.N==b_1.N) then (bif (a_1.M==b_1.M) then ((zCC F a_1.Stack b_1.Stack).bind fun r_1=>some r_1) else (some false)) else (some false)) else (some false)) else (some false)) else (some false))).bind fun (p_1:Bool) =>
  some p_1
def tZ (F:Nat) (a_1:zB) (b_1:zB) (rec:Int→Option (Unit⊕Bool)) (i_1:Int):Option (Unit⊕Bool) :=
  (bif decide (i_1<(((a_1.Events).length:Nat):Int)) then (y6 a_1.Events i_1).bind fun x_1=>(y6 b_1.Events i_1).bind fun x_2=>(zDl F x_1 x_2).bind fun r_1 =>
  (bif !r_1 then some (.inr false) else
  rec (zP (i_1+(1:Int)))) else
  some (.inl ()))
def zAY (F:Nat) (a_1:zB) (b_1:zB):Nat→Int→Option (Unit⊕Bool)
  | 0,_=>none
  | n+1,i_1=>tZ F a_1 b_1 (zAY F a_1 b_1 n) i_1
def zC9 (F:Nat) (a_1:zB) (b_1:zB):Option Bool :=
  (bif ((a_1.Thread != b_1.Thread)||((a_1.Serial != b_1.Serial)||((a_1.Lost != b_1.Lost)||((((a_1.Events).length:Nat):Int) != (((b_1.Events).length:Nat):Int))))) then some false else
  (zAY F a_1 b_1 F (0:Int)).bind fun (o_1:Unit⊕Bool) =>
  (match o_1 with
  | (.inl q_1) =>
  some true
  | (.inr q_2) =>
  some q_2))
def vU (F:Nat) (a_1:List (zB)) (b_1:List (zB)) (rec:Int→Option (Unit⊕Bool)) (i_1:Int):Option (Unit⊕Bool) :=
  (bif decide (i_1<(((a_1).length:Nat):Int)) then (y6 a_1 i_1).bind fun x_1=>(y6 b_1 i_1).bind fun x_2=>(zC9 F x_1 x_2).bind fun r_1 =>
  (bif !r_1 then some (.inr false) else
  rec (zP (i_1+(1:Int)))) else
  some (.inl ()))
def qW (F:Nat) (a_1:List (zB)) (b_1:List (zB)):Nat→Int→Option (Unit⊕Bool)
  | 0,_=>none
  | n+1,i_1=>vU F a_1 b_1 (qW F a_1 b_1 n) i_1
def kG (F:Nat) (a_1:List (zB)) (b_1:List (zB)):Option Bool :=
  (bif ((((a_1).length:Nat):Int) != (((b_1).length:Nat):Int)) then some false else
  (qW F a_1 b_1 F (0:Int)).bind fun (o_1:Unit⊕Bool) =>
  (match o_1 with
  | (.inl q_1) =>
  some true
  | (.inr q_2) =>
  some q_2))
def zBZ (F:Nat) (a_1:zM) (b_1:zM):Option Bool :=
  (((zAn F a_1.Head b_1.Head).bind fun r_1=>bif r_1 then ((kG F a_1.Parts b_1.Parts).bind fun r_2=>some r_2) else (some false))).bind fun (p_1:Bool) =>
  some p_1
def pX (F:Nat) (l_1:zM):Option Int :=
  (zFy F l_1.Head l_1.Parts).bind fun r_1 =>
  (bif (r_1.2 != (0:Int)) then some r_1.2 else
  (zBZ F r_1.1 l_1).bind fun r_2 =>
  (bif !r_2 then some (10:Int) else
  some (0:Int)))
def kE (F:Nat) (l_1:zM) (yM:z6) (rec:Int→Option (Unit⊕(zI×Bool))) (i_1:Int):Option (Unit⊕(zI×Bool)) :=
  (bif decide (i_1<(((l_1.Parts).length:Nat):Int)) then (y6 l_1.Parts i_1).bind fun x_1 =>
  (bif ((x_1.Thread==yM.Thread)&&(decide (yM.Serial≥x_1.Serial)&&decide (yM.Serial<(zP (x_1.Serial+(((x_1.Events).length:Nat):Int)))))) then (y6 x_1.Events (zP (yM.Serial - x_1.Serial))).bind fun x_2 =>
  some (.inr (x_2,true)) else
  rec (zP (i_1+(1:Int)))) else
  some (.inl ()))
def zBJ (F:Nat) (l_1:zM) (yM:z6):Nat→Int→Option (Unit⊕(zI×Bool))
  | 0,_=>none
  | n+1,i_1=>kE F l_1 yM (zBJ F l_1 yM n) i_1
def zD9 (F:Nat) (l_1:zM) (yM:z6):Option (zI×Bool) :=
  (pX F l_1).bind fun r_1 =>
  (bif (r_1 != (0:Int)) then some ((⟨(0:Int),(0:Int),([]:List Int),(0:Int),(0:Int),[]⟩:zI),false) else
  (zBJ F l_1 yM F (0:Int)).bind fun (o_1:Unit⊕(zI×Bool)) =>
  (match o_1 with
  | (.inl q_1) =>
  some ((⟨(0:Int),(0:Int),([]:List Int),(0:Int),(0:Int),[]⟩:zI),false)
  | (.inr q_2) =>
  some q_2))
def j4 (F:Nat) (l_1:zM) (rec:Int→(List yC)→Option (List yC)) (i_1:Int) (zE:List yC):Option (List yC) :=
  (bif decide (i_1<(((l_1.Parts).length:Nat):Int)) then (((y6 l_1.Parts i_1).bind fun x_1 =>
  (bif decide (x_1.Lost>(0:Int)) then (need (((zE).length+(([(⟨x_1.Thread,zP (x_1.Serial - x_1.Lost),x_1.Lost⟩:yC)]:List yC)).length) * 24≤140737488355328)).bind fun _ =>
  some (zE++([(⟨x_1.Thread,zP (x_1.Serial - x_1.Lost),x_1.Lost⟩:yC)]:List yC)) else
  some zE):Option (List yC))).bind fun (o_2:(List yC)) =>
  rec (zP (i_1+(1:Int))) o_2 else
  some zE)
def zAL (F:Nat) (l_1:zM):Nat→Int→(List yC)→Option (List yC)
  | 0,_,_=>none
  | n+1,i_1,zE=>j4 F l_1 (zAL F l_1 n) i_1 zE
def zC8 (F:Nat) (l_1:zM):Option (List (yC)) :=
  (pX F l_1).bind fun r_1 =>
  (bif (r_1 != (0:Int)) then some [] else
  (zAL F l_1 F (0:Int) []).bind fun (o_1:(List yC)) =>
  some o_1)
def qF (F:Nat) (x_1:zB) (rec:Int→(List z6)→Option (List z6)) (v_2:Int) (zY:List z6):Option (List z6) :=
  (bif decide (v_2<(((x_1.Events).length:Nat):Int)) then (need (((zY).length+(([(⟨x_1.Thread,zP (x_1.Serial+v_2)⟩:z6)]:List z6)).length) * 16≤140737488355328)).bind fun _ =>
  rec (zP (v_2+(1:Int))) (zY++([(⟨x_1.Thread,zP (x_1.Serial+v_2)⟩:z6)]:List z6)) else
  some zY)
def nJ (F:Nat) (x_1:zB):Nat→Int→(List z6)→Option (List z6)
  | 0,_,_=>none
  | n+1,v_2,zY=>qF F x_1 (nJ F x_1 n) v_2 zY
def qG (F:Nat) (l_1:zM) (rec:Int→(List z6)→Option (List z6)) (v_1:Int) (zE:List z6):Option (List z6) :=
  (bif decide (v_1<(((l_1.Parts).length:Nat):Int)) then (y6 l_1.Parts v_1).bind fun x_1 =>
  (nJ F x_1 F (0:Int) zE).bind fun (o_2:(List z6)) =>
  rec (zP (v_1+(1:Int))) o_2 else
  some zE)
def nI (F:Nat) (l_1:zM):Nat→Int→(List z6)→Option (List z6)
  | 0,_,_=>none
  | n+1,v_1,zE=>qG F l_1 (nI F l_1 n) v_1 zE
def zC0 (F:Nat) (l_1:zM):Option (List (z6)) :=
  (kJ F l_1).bind fun r_1 =>
  (bif (r_1 != (0:Int)) then some [] else
  (nI F l_1 F (0:Int) []).bind fun (o_1:(List z6)) =>
  some o_1)
def kH (F:Nat) (l_1:zM) (i_1:Int) (rec:Int→(List z6)→Option (List z6)) (k_1:Int) (zY:List z6):Option (List z6) :=
  (y6 l_1.Parts i_1).bind fun x_1 =>
  (bif decide (k_1<(((x_1.Events).length:Nat):Int)) then (y6 l_1.Parts i_1).bind fun x_2=>(y6 l_1.Parts i_1).bind fun x_3=>(need (((zY).length+(([(⟨x_2.Thread,zP (x_3.Serial+k_1)⟩:z6)]:List z6)).length) * 16≤140737488355328)).bind fun _ =>
  rec (zP (k_1+(1:Int))) (zY++([(⟨x_2.Thread,zP (x_3.Serial+k_1)⟩:z6)]:List z6)) else
  some zY)
def zBG (F:Nat) (l_1:zM) (i_1:Int):Nat→Int→(List z6)→Option (List z6)
  | 0,_,_=>none
  | n+1,k_1,zY=>kH F l_1 i_1 (zBG F l_1 i_1 n) k_1 zY
def kM (F:Nat) (l_1:zM) (rec:Int→(List z6)→Option (List z6)) (i_1:Int) (zE:List z6):Option (List z6) :=
  (bif decide (i_1<(((l_1.Parts).length:Nat):Int)) then (zBG F l_1 i_1 F (0:Int) zE).bind fun (o_2:(List z6)) =>
  rec (zP (i_1+(1:Int))) o_2 else
  some zE)
def zBN (F:Nat) (l_1:zM):Nat→Int→(List z6)→Option (List z6)
  | 0,_,_=>none
  | n+1,i_1,zE=>kM F l_1 (zBN F l_1 n) i_1 zE
def zEk (F:Nat) (l_1:zM):Option (List (z6)) :=
  (pX F l_1).bind fun r_1 =>
  (bif (r_1 != (0:Int)) then some [] else
  (zBN F l_1 F (0:Int) []).bind fun (o_1:(List z6)) =>
  some o_1)
def uI (F:Nat) (wS:(List (yC))) (vJ:(List (yC))) (rec:Int→Option (Unit⊕Bool)) (v_1:Int):Option (Unit⊕Bool) :=
  (bif decide (v_1<(((wS).length:Nat):Int)) then (y6 wS v_1).bind fun x_1=>(y6 vJ v_1).bind fun x_2 =>
  (bif (!(decide (x_1=x_2))) then some (.inr false) else
  rec (zP (v_1+(1:Int)))) else
  some (.inl ()))
def jB (F:Nat) (wS:(List (yC))) (vJ:(List (yC))):Nat→Int→Option (Unit⊕Bool)
  | 0,_=>none
  | n+1,v_1=>uI F wS vJ (jB F wS vJ n) v_1
def uH (F:Nat) (wH:(List (z6))) (wU:(List (z6))) (rec:Int→Option (Unit⊕Bool)) (v_2:Int):Option (Unit⊕Bool) :=
  (bif decide (v_2<(((wH).length:Nat):Int)) then (y6 wH v_2).bind fun x_3=>(y6 wU v_2).bind fun x_4 =>
  (bif (!(decide (x_3=x_4))) then some (.inr false) else
  rec (zP (v_2+(1:Int)))) else
  some (.inl ()))
def q9 (F:Nat) (wH:(List (z6))) (wU:(List (z6))):Nat→Int→Option (Unit⊕Bool)
  | 0,_=>none
  | n+1,v_2=>uH F wH wU (q9 F wH wU n) v_2
def jU (F:Nat) (l_1:zM) (vO:zM) (yM:z6):Option Bool :=
  (((zAj F l_1.Head l_1.Parts).bind fun r_1=>bif !r_1 then (some true) else ((zAj F vO.Head vO.Parts).bind fun r_2=>some (!r_2)))).bind fun (p_1:Bool) =>
  (bif p_1 then (zCv F).bind fun r_3 =>
  some r_3 else
  (((kJ F l_1).bind fun r_4=>(pX F l_1).bind fun r_5=>bif (r_4 != r_5) then (some true) else ((zBV F l_1 vO).bind fun r_6=>(zBZ F l_1 vO).bind fun r_7=>some (!(r_6==r_7))))).bind fun (p_2:Bool) =>
  (bif p_2 then some false else
  (zB2 F l_1 yM).bind fun r_8 =>
  (zD9 F l_1 yM).bind fun r_9 =>
  (bif (!(r_8.2==r_9.2)||((r_8.1.At != r_9.1.At)||((r_8.1.Kind != r_9.1.Kind)||(!(r_8.1.Name==r_9.1.Name)||((r_8.1.N != r_9.1.N)||((r_8.1.M != r_9.1.M)||((((r_8.1.Stack).length:Nat):Int) != (((r_9.1.Stack).length:Nat):Int)))))))) then some false else
  (zBd F l_1).bind fun wS=>(zC8 F l_1).bind fun vJ =>
  (zC0 F l_1).bind fun wH=>(zEk F l_1).bind fun wU =>
  (bif (((((wS).length:Nat):Int) != (((vJ).length:Nat):Int))||((((wH).length:Nat):Int) != (((wU).length:Nat):Int))) then some false else
  (jB F wS vJ F (0:Int)).bind fun (o_1:Unit⊕Bool) =>
  (match o_1 with
  | (.inl q_1) =>
  (q9 F wH wU F (0:Int)).bind fun (o_2:Unit⊕Bool) =>
  (match o_2 with
  | (.inl q_3) =>
  (zCv F).bind fun r_14 =>
  some r_14
  | (.inr q_4) =>
  some q_4)
  | (.inr q_2) =>
  some q_2)))))
end Go.Ab
