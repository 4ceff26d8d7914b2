/- Printed: the typed Lean functions of the Go functions, or the proofs that the Go functions meet them. No conditions but those that the theorems name. -/
import Derived.Test.YtbifmbdcejggkaaA37
import Derived.Test.YtbifmbdcejggkaaA51
namespace Go.Ab
open Go
set_option linter.unusedVariables false
structure zY where
  Id:Int
  Name:List Int
  Domain:Int
  deriving DecidableEq,Inhabited
def z8 (s:zY):List AV:=[.int .i64 s.Id,.str s.Name,.int .i64 s.Domain]
def zF (s:zY):AV:=.agg (z8 s)
structure zS where
  Id:Int
  Ppm:Int
  deriving DecidableEq,Inhabited
def uD (s:zS):List AV:=[.int .i64 s.Id,.int .i64 s.Ppm]
def zC (s:zS):AV:=.agg (uD s)
structure nR where
  Lo:Int
  Hi:Int
  deriving DecidableEq,Inhabited
structure xM where
  A:Int
  AtA:Int
  B:Int
  AtB:nR
  deriving DecidableEq,Inhabited
def w9 (s:xM):List AV:=[.int .i64 s.A,.int .i64 s.AtA,.int .i64 s.B,.int .i64 s.AtB.Lo,.int .i64 s.AtB.Hi]
def zJ (s:xM):AV:=.agg (w9 s)
structure zL where
  Threads:List (zY)
  Domains:List (zS)
  Snaps:List (xM)
  deriving DecidableEq,Inhabited
def zM (s:zL):List AV:=[.sl false 3 (List.map zF s.Threads),.sl false 2 (List.map zC s.Domains),.sl false 5 (List.map zJ s.Snaps)]
def yN (s:zL):AV:=.agg (zM s)
structure zK where
  At:Int
  Kind:Int
  Name:List Int
  N:Int
  M:Int
  Stack:List (List Int)
  deriving DecidableEq,Inhabited
def zU (s:zK):List AV:=[.int .i64 s.At,.int .i64 s.Kind,.str s.Name,.int .i64 s.N,.int .i64 s.M,.sl false 1 (List.map AV.str s.Stack)]
def zD (s:zK):AV:=.agg (zU s)
structure zB where
  Thread:Int
  Serial:Int
  Lost:Int
  Events:List (zK)
  deriving DecidableEq,Inhabited
def zZ (s:zB):List AV:=[.int .i64 s.Thread,.int .i64 s.Serial,.int .i64 s.Lost,.sl false 6 (List.map zD s.Events)]
def zA (s:zB):AV:=.agg (zZ s)
def u3 (F:Nat) (l_1:List (zB)) (rec:Int→Int→Option Int) (n_1:Int) (v_1:Int):Option Int :=
  (bif decide (v_1<(((l_1).length:Nat):Int)) then (xD l_1 v_1).bind fun x_1 =>
  rec (zR (n_1+(((x_1.Events).length:Nat):Int))) (zR (v_1+(1:Int))) else
  some n_1)
def tD (F:Nat) (l_1:List (zB)):Nat→Int→Int→Option Int
  | 0,_,_=>none
  | n+1,n_1,v_1=>u3 F l_1 (tD F l_1 n) n_1 v_1
def zBQ (F:Nat) (h_1:zL) (l_1:List (zB)):Option Bool :=
  (tD F l_1 F (0:Int) (0:Int)).bind fun (o_1:Int) =>
  some (decide ((((h_1.Threads).length:Nat):Int)≤(70:Int))&&(decide ((((h_1.Domains).length:Nat):Int)≤(10:Int))&&(decide ((((h_1.Snaps).length:Nat):Int)≤(20:Int))&&(decide ((((l_1).length:Nat):Int)≤(30:Int))&&decide (o_1≤(3000:Int))))))
def zAb (F:Nat) (vH:List (Int)) (rec:Int→(List zK)→Option (List zK)) (v_1:Int) (zE:List zK):Option (List zK) :=
  (bif decide (v_1<(((vH).length:Nat):Int)) then (xD vH v_1).bind fun x_1 =>
  (need (((zE).length+(([(⟨x_1,(3:Int),([97]:List Int),(0:Int),(0:Int),[]⟩:zK)]:List zK)).length) * 72≤140737488355328)).bind fun _ =>
  rec (zR (v_1+(1:Int))) (zE++([(⟨x_1,(3:Int),([97]:List Int),(0:Int),(0:Int),[]⟩:zK)]:List zK)) else
  some zE)
def zA0 (F:Nat) (vH:List (Int)):Nat→Int→(List zK)→Option (List zK)
  | 0,_,_=>none
  | n+1,v_1,zE=>zAb F vH (zA0 F vH n) v_1 zE
def zAH (F:Nat) (wW:Int) (vR:Int) (vH:List (Int)):Option zB :=
  (zA0 F vH F (0:Int) []).bind fun (o_1:(List zK)) =>
  some (⟨(1:Int),wW,vR,o_1⟩:zB)
def qQ (s_1:List Int) (c_1:Int):Option Int :=
  some (uT s_1 c_1)
def w8 (s_1:List Int) (c_1:Int):Option Int :=
  (qQ s_1 c_1).bind fun r_1 =>
  some r_1
def pP (c_1:Int):Option Bool :=
  ((bif decide (c_1≥(97:Int)) then (bif decide (c_1≤(122:Int)) then (some true) else (bif decide (c_1≥(65:Int)) then (bif decide (c_1≤(90:Int)) then (some true) else (bif decide (c_1≥(48:Int)) then (bif decide (c_1≤(57:Int)) then (some true) else ((w8 ([95,46,58,47,60,62,36,42,126,45]:List Int) c_1).bind fun r_1=>some (decide (r_1≥(0:Int))))) else ((w8 ([95,46,58,47,60,62,36,42,126,45]:List Int) c_1).bind fun r_1=>some (decide (r_1≥(0:Int)))))) else (bif decide (c_1≥(48:Int)) then (bif decide (c_1≤(57:Int)) then (some true) else ((w8 ([95,46,58,47,60,62,36,42,126,45]:List Int) c_1).bind fun r_1=>some (decide (r_1≥(0:Int))))) else ((w8 ([95,46,58,47,60,62,36,42,126,45]:List Int) c_1).bind fun r_1=>some (decide (r_1≥(0:Int))))))) else (bif decide (c_1≥(65:Int)) then (bif decide (c_1≤(90:Int)) then (some true) else (bif decide (c_1≥(48:Int)) then (bif decide (c_1≤(57:Int)) then (some true) else ((w8 ([95,46,58,47,60,62,36,42,126,45]:List Int) c_1).bind fun r_1=>some (decide (r_1≥(0:Int))))) else ((w8 ([95,46,58,47,60,62,36,42,126,45]:List Int) c_1).bind fun r_1=>some (decide (r_1≥(0:Int)))))) else (bif decide (c_1≥(48:Int)) then (bif decide (c_1≤(57:Int)) then (some true) else ((w8 ([95,46,58,47,60,62,36,42,126,45]:List Int) c_1).bind fun r_1=>some (decide (r_1≥(0:Int))))) else ((w8 ([95,46,58,47,60,62,36,42,126,45]:List Int) c_1).bind fun r_1=>some (decide (r_1≥(0:Int)))))))).bind fun (p_1:Bool) =>
  some p_1
def qE (F:Nat) (s_1:List Int) (rec:Int→Option (Unit⊕Int)) (v_1:Int):Option (Unit⊕Int) :=
  (bif decide (v_1<(((s_1).length:Nat):Int)) then (xD s_1 v_1).bind fun c_1=>(pP c_1).bind fun r_1 =>
  (bif !r_1 then some (.inr (3:Int)) else
  rec (zR (v_1+(1:Int)))) else
  some (.inl ()))
def kO (F:Nat) (s_1:List Int):Nat→Int→Option (Unit⊕Int)
  | 0,_=>none
  | n+1,v_1=>qE F s_1 (kO F s_1 n) v_1
def j6 (F:Nat) (s_1:List Int):Option Int :=
  (bif ((s_1==([]:List Int))||decide ((((s_1).length:Nat):Int)>(40:Int))) then some (3:Int) else
  (kO F s_1 F (0:Int)).bind fun (o_1:Unit⊕Int) =>
  (match o_1 with
  | (.inl q_1) =>
  some (0:Int)
  | (.inr q_2) =>
  some q_2))
def jT (F:Nat) (t_1:zY):Option Int :=
  (bif (decide (t_1.Id<(0:Int))||(decide (t_1.Id>(1000000000000000:Int))||(decide (t_1.Domain<(0:Int))||decide (t_1.Domain≥(8:Int))))) then some (2:Int) else
  (j6 F t_1.Name).bind fun r_1 =>
  some r_1)
def zAt (x_1:zS) (a_1:Int):Option Bool :=
  some (x_1.Id==a_1)
def yS (F:Nat) (s_1:List (zS)) (c_1:Int) (rec:Int→Option (Unit⊕Int)) (v_1:Int):Option (Unit⊕Int) :=
  (bif decide (v_1<(((s_1).length:Nat):Int)) then (xD s_1 v_1).bind fun x_1=>(zAt x_1 c_1).bind fun r_1 =>
  (bif r_1 then some (.inr v_1) else
  rec (zR (v_1+(1:Int)))) else
  some (.inl ()))
def xO (F:Nat) (s_1:List (zS)) (c_1:Int):Nat→Int→Option (Unit⊕Int)
  | 0,_=>none
  | n+1,v_1=>yS F s_1 c_1 (xO F s_1 c_1 n) v_1
def xU (F:Nat) (s_1:List (zS)) (c_1:Int):Option Int :=
  (xO F s_1 c_1 F (0:Int)).bind fun (o_1:Unit⊕Int) =>
  (match o_1 with
  | (.inl q_1) =>
  some (-1:Int)
  | (.inr q_2) =>
  some q_2)
def j9 (F:Nat) (d_1:List (zS)) (xE:Int):Option Int :=
  (xU F d_1 xE).bind fun r_1 =>
  some r_1
def vW (F:Nat) (d_1:List (zS)) (rec:Int→Option (Unit⊕Int)) (v_1:Int):Option (Unit⊕Int) :=
  (bif decide (v_1<(((d_1).length:Nat):Int)) then (xD d_1 v_1).bind fun x_1 =>
  (bif (decide (x_1.Id<(0:Int))||(decide (x_1.Id≥(8:Int))||(decide (x_1.Ppm<(0:Int))||decide (x_1.Ppm>(10000:Int))))) then some (.inr (2:Int)) else
  (need ((0:Int)≤v_1∧v_1≤(((d_1).length:Nat):Int))).bind fun _=>(j9 F (sub d_1 (0:Int) v_1) x_1.Id).bind fun r_1 =>
  (bif decide (r_1≥(0:Int)) then some (.inr (4:Int)) else
  rec (zR (v_1+(1:Int))))) else
  some (.inl ()))
def jG (F:Nat) (d_1:List (zS)):Nat→Int→Option (Unit⊕Int)
  | 0,_=>none
  | n+1,v_1=>vW F d_1 (jG F d_1 n) v_1
def pN (F:Nat) (d_1:List (zS)):Option Int :=
  (jG F d_1 F (0:Int)).bind fun (o_1:Unit⊕Int) =>
  (match o_1 with
  | (.inl q_1) =>
  some (0:Int)
  | (.inr q_2) =>
  some q_2)
def jM (n_1:Int):Option Bool :=
  some (decide (n_1≥(0:Int))&&decide (n_1≤(1000000000000:Int)))
def zA7 (F:Nat) (d_1:List (zS)) (x_1:xM):Option Int :=
  (j9 F d_1 x_1.A).bind fun r_1 =>
  (((bif decide (r_1<(0:Int)) then some (decide (r_1<(0:Int))) else
  (j9 F d_1 x_1.B).bind fun r_2 =>
  some (decide (r_2<(0:Int)))):Option Bool)).bind fun (o_1:Bool) =>
  (bif o_1 then some (5:Int) else
  (bif (x_1.A==x_1.B) then some (1:Int) else
  (jM x_1.AtA).bind fun r_3 =>
  (bif !r_3 then some (2:Int) else
  (jM x_1.AtB.Lo).bind fun r_4 =>
  (bif !r_4 then some (2:Int) else
  (jM x_1.AtB.Hi).bind fun r_5 =>
  (bif !r_5 then some (2:Int) else
  (bif decide (x_1.AtB.Lo>x_1.AtB.Hi) then some (2:Int) else
  some (0:Int)))))))
def uG (F:Nat) (d_1:List (zS)) (l_1:List (xM)) (rec:Int→Option (Unit⊕Int)) (v_1:Int):Option (Unit⊕Int) :=
  (bif decide (v_1<(((l_1).length:Nat):Int)) then (xD l_1 v_1).bind fun x_2 =>
  (zA7 F d_1 x_2).bind fun r_2 =>
  (bif (r_2 != (0:Int)) then some (.inr r_2) else
  rec (zR (v_1+(1:Int)))) else
  some (.inl ()))
def kN (F:Nat) (d_1:List (zS)) (l_1:List (xM)):Nat→Int→Option (Unit⊕Int)
  | 0,_=>none
  | n+1,v_1=>uG F d_1 l_1 (kN F d_1 l_1 n) v_1
def zAl (F:Nat) (d_1:List (zS)) (l_1:List (xM)):Option Int :=
  (bif ((((d_1).length:Nat):Int)==(0:Int)) then some (8:Int) else
  (bif (decide ((((d_1).length:Nat):Int)>(8:Int))||decide ((((l_1).length:Nat):Int)>(200:Int))) then some (7:Int) else
  (xD d_1 (0:Int)).bind fun x_1 =>
  (bif (!(decide (x_1=(⟨(0:Int),(0:Int)⟩:zS)))) then some (10:Int) else
  (pN F d_1).bind fun r_1 =>
  (bif (r_1 != (0:Int)) then some r_1 else
  (kN F d_1 l_1 F (0:Int)).bind fun (o_1:Unit⊕Int) =>
  (match o_1 with
  | (.inl q_1) =>
  some (0:Int)
  | (.inr q_2) =>
  some q_2)))))
def zBL (d_1:zS) (a_1:zY):Option Bool :=
  some (d_1.Id==a_1.Domain)
def yR (F:Nat) (s_1:List (zS)) (c_1:zY) (rec:Int→Option (Unit⊕Int)) (v_1:Int):Option (Unit⊕Int) :=
  (bif decide (v_1<(((s_1).length:Nat):Int)) then (xD s_1 v_1).bind fun x_1=>(zBL x_1 c_1).bind fun r_1 =>
  (bif r_1 then some (.inr v_1) else
  rec (zR (v_1+(1:Int)))) else
  some (.inl ()))
def xK (F:Nat) (s_1:List (zS)) (c_1:zY):Nat→Int→Option (Unit⊕Int)
  | 0,_=>none
  | n+1,v_1=>yR F s_1 c_1 (xK F s_1 c_1 n) v_1
def xP (F:Nat) (s_1:List (zS)) (c_1:zY):Option Int :=
  (xK F s_1 c_1 F (0:Int)).bind fun (o_1:Unit⊕Int) =>
  (match o_1 with
  | (.inl q_1) =>
  some (-1:Int)
  | (.inr q_2) =>
  some q_2)
def x9 (F:Nat) (s_1:List (zS)) (c_1:zY):Option Bool :=
  (xP F s_1 c_1).bind fun r_1 =>
  some (decide (r_1≥(0:Int)))
def q7 (F:Nat) (h_1:zL) (rec:Int→(List (Int×Bool))→Option (Unit⊕Int)) (v_1:Int) (zE:List (Int×Bool)):Option (Unit⊕Int) :=
  (bif decide (v_1<(((h_1.Threads).length:Nat):Int)) then (xD h_1.Threads v_1).bind fun x_1 =>
  (jT F x_1).bind fun r_1 =>
  (bif (r_1 != (0:Int)) then some (.inr r_1) else
  (bif ((yI zE x_1.Id).getD false) then some (.inr (4:Int)) else
  (need ((zE).length<140737488355328)).bind fun _ =>
  rec (zR (v_1+(1:Int))) (uK zE x_1.Id true))) else
  some (.inl ()))
def kK (F:Nat) (h_1:zL):Nat→Int→(List (Int×Bool))→Option (Unit⊕Int)
  | 0,_,_=>none
  | n+1,v_1,zE=>q7 F h_1 (kK F h_1 n) v_1 zE
def u5 (F:Nat) (h_1:zL) (rec:Int→Option (Unit⊕Int)) (v_2:Int):Option (Unit⊕Int) :=
  (bif decide (v_2<(((h_1.Threads).length:Nat):Int)) then (xD h_1.Threads v_2).bind fun x_2 =>
  (x9 F h_1.Domains x_2).bind fun r_3 =>
  (bif !r_3 then some (.inr (5:Int)) else
  rec (zR (v_2+(1:Int)))) else
  some (.inl ()))
def kL (F:Nat) (h_1:zL):Nat→Int→Option (Unit⊕Int)
  | 0,_=>none
  | n+1,v_2=>u5 F h_1 (kL F h_1 n) v_2
def zB0 (F:Nat) (h_1:zL):Option Int :=
  (bif ((((h_1.Threads).length:Nat):Int)==(0:Int)) then some (8:Int) else
  (bif decide ((((h_1.Threads).length:Nat):Int)>(64:Int)) then some (7:Int) else
  (kK F h_1 F (0:Int) []).bind fun (o_1:Unit⊕Int) =>
  (match o_1 with
  | (.inl q_1) =>
  (zAl F h_1.Domains h_1.Snaps).bind fun r_2 =>
  (bif (r_2 != (0:Int)) then some r_2 else
  (kL F h_1 F (0:Int)).bind fun (o_2:Unit⊕Int) =>
  (match o_2 with
  | (.inl q_3) =>
  some (0:Int)
  | (.inr q_4) =>
  some q_4))
  | (.inr q_2) =>
  some q_2)))
structure zQ where
  Head:zL
  Parts:List (zB)
  deriving DecidableEq,Inhabited
def wD (s:zQ):List AV:=[.sl false 3 (List.map zF s.Head.Threads),.sl false 2 (List.map zC s.Head.Domains),.sl false 5 (List.map zJ s.Head.Snaps),.sl false 4 (List.map zA s.Parts)]
def yE (s:zQ):AV:=.agg (wD s)
structure xL where
  next:Int
  last:Int
  deriving DecidableEq,Inhabited
def xQ (s:xL):List AV:=[.int .i64 s.next,.int .i64 s.last]
def y1 (s:xL):AV:=.agg (xQ s)
structure zX where
  word:List Int
  name:Bool
  n:Bool
  m:Bool
  stack:Bool
  least:Int
  most:Int
  mLeast:Int
  mMost:Int
  deriving DecidableEq,Inhabited
def yL (s:zX):List AV:=[.str s.word,.bool s.name,.bool s.n,.bool s.m,.bool s.stack,.int .i64 s.least,.int .i64 s.most,.int .i64 s.mLeast,.int .i64 s.mMost]
def wG (s:zX):AV:=.agg (yL s)
def pZ:Option (List (zX)) :=
  some ([(⟨([]:List Int),false,false,false,false,(0:Int),(0:Int),(0:Int),(0:Int)⟩:zX),(⟨([98,101,103,105,110]:List Int),true,false,false,false,(0:Int),(0:Int),(0:Int),(0:Int)⟩:zX),(⟨([101,110,100]:List Int),false,false,false,false,(0:Int),(0:Int),(0:Int),(0:Int)⟩:zX),(⟨([109,97,114,107]:List Int),true,false,false,false,(0:Int),(0:Int),(0:Int),(0:Int)⟩:zX),(⟨([99,111,117,110,116]:List Int),true,true,false,false,(-1000000000000000:Int),(1000000000000000:Int),(0:Int),(0:Int)⟩:zX),(⟨([115,97,109,112,108,101]:List Int),false,true,false,true,(1:Int),(1000000000000:Int),(0:Int),(0:Int)⟩:zX),(⟨([115,101,110,100]:List Int),false,true,false,false,(0:Int),(1000000000000000:Int),(0:Int),(0:Int)⟩:zX),(⟨([114,101,99,118]:List Int),false,true,false,false,(0:Int),(1000000000000000:Int),(0:Int),(0:Int)⟩:zX),(⟨([114,117,110]:List Int),false,true,false,false,(0:Int),(63:Int),(0:Int),(0:Int)⟩:zX),(⟨([115,116,111,112]:List Int),false,true,true,false,(0:Int),(3:Int),(0:Int),(1000000000000000:Int)⟩:zX),(⟨([119,97,107,101]:List Int),false,true,false,false,(0:Int),(1000000000000000:Int),(0:Int),(0:Int)⟩:zX),(⟨([97,108,108,111,99]:List Int),false,true,true,true,(0:Int),(1000000000000000:Int),(1:Int),(1000000000000:Int)⟩:zX),(⟨([102,114,101,101]:List Int),false,true,false,false,(0:Int),(1000000000000000:Int),(0:Int),(0:Int)⟩:zX)]:List zX)
def nC (k_1:Int):Option (zX×Bool) :=
  (pZ ).bind fun r_1 =>
  (bif (decide (k_1<(1:Int))||decide (k_1≥(((r_1).length:Nat):Int))) then some ((⟨([]:List Int),false,false,false,false,(0:Int),(0:Int),(0:Int),(0:Int)⟩:zX),false) else
  (xD r_1 k_1).bind fun x_1 =>
  some (x_1,true))
def tV (F:Nat) (l_1:List (List Int)) (rec:Int→Option (Unit⊕Int)) (v_1:Int):Option (Unit⊕Int) :=
  (bif decide (v_1<(((l_1).length:Nat):Int)) then (xD l_1 v_1).bind fun x_1 =>
  (j6 F x_1).bind fun r_1 =>
  (bif (r_1 != (0:Int)) then some (.inr r_1) else
  rec (zR (v_1+(1:Int)))) else
  some (.inl ()))
def jD (F:Nat) (l_1:List (List Int)):Nat→Int→Option (Unit⊕Int)
  | 0,_=>none
  | n+1,v_1=>tV F l_1 (jD F l_1 n) v_1
def pS (F:Nat) (l_1:List (List Int)):Option Int :=
  (bif decide ((((l_1).length:Nat):Int)>(32:Int)) then some (7:Int) else
  (jD F l_1 F (0:Int)).bind fun (o_1:Unit⊕Int) =>
  (match o_1 with
  | (.inl q_1) =>
  some (0:Int)
  | (.inr q_2) =>
  some q_2))
def zAm (F:Nat) (f_1:zX) (e_1:zK):Option Int :=
  (bif f_1.name then (j6 F e_1.Name).bind fun r_1 =>
  some r_1 else
  (pS F e_1.Stack).bind fun r_2 =>
  some r_2)
def zAj (F:Nat) (e_1:zK):Option Int :=
  (bif (decide (e_1.At<(0:Int))||decide (e_1.At>(1000000000000:Int))) then some (2:Int) else
  (nC e_1.Kind).bind fun r_1 =>
  ((bif !r_1.2 then (some true) else (bif !r_1.1.name then (bif !(e_1.Name==([]:List Int)) then (some true) else (bif !r_1.1.n then (bif (e_1.N != (0:Int)) then (some true) else (bif !r_1.1.m then (bif (e_1.M != (0:Int)) then (some true) else (bif !r_1.1.stack then (some (decide ((((e_1.Stack).length:Nat):Int)>(0:Int)))) else (some false))) else (bif !r_1.1.stack then (some (decide ((((e_1.Stack).length:Nat):Int)>(0:Int)))) else (some false)))) else (bif !r_1.1.m then (bif (e_1.M != (0:Int)) then (some true) else (bif !r_1.1.stack then (some (decide ((((e_1.Stack).length:Nat):Int)>(0:Int)))) else (some false))) else (bif !r_1.1.stack then (some (decide ((((e_1.Stack).length:Nat):Int)>(0:Int)))) else (some false))))) else (bif !r_1.1.n then (bif (e_1.N != (0:Int)) then (some true) else (bif !r_1.1.m then (bif (e_1.M != (0:Int)) then (some true) else (bif !r_1.1.stack then (some (decide ((((e_1.Stack).length:Nat):Int)>(0:Int)))) else (some false))) else (bif !r_1.1.stack then (some (decide ((((e_1.Stack).length:Nat):Int)>(0:Int)))) else (some false)))) else (bif !r_1.1.m then (bif (e_1.M != (0:Int)) then (some true) else (bif !r_1.1.stack then (some (decide ((((e_1.Stack).length:Nat):Int)>(0:Int)))) else (some false))) else (bif !r_1.1.stack then (some (decide ((((e_1.Stack).length:Nat):Int)>(0:Int)))) else (some false))))))).bind fun (p_1:Bool) =>
  (bif p_1 then some (1:Int) else
  (zAm F r_1.1 e_1).bind fun r_2 =>
  (bif (r_2 != (0:Int)) then some r_2 else
  (bif (r_1.1.n&&(decide (e_1.N<r_1.1.least)||decide (e_1.N>r_1.1.most))) then some (2:Int) else
  (bif ((e_1.Kind==(9:Int))&&((e_1.N != (2:Int))&&(e_1.M != (0:Int)))) then some (1:Int) else
  (bif (r_1.1.m&&(bif decide (e_1.M<r_1.1.mLeast) then ((e_1.Kind != (9:Int))||(e_1.N==(2:Int))) else (decide (e_1.M>r_1.1.mMost)&&((e_1.Kind != (9:Int))||(e_1.N==(2:Int)))))) then some (2:Int) else
  some (0:Int)))))))
def tF (F:Nat) (l_1:List (zK)) (rec:Int→Option (Unit⊕Int)) (v_1:Int):Option (Unit⊕Int) :=
  (bif decide (v_1<(((l_1).length:Nat):Int)) then (xD l_1 v_1).bind fun x_1 =>
  (zAj F x_1).bind fun r_1 =>
  (bif (r_1 != (0:Int)) then some (.inr r_1) else
  ((bif decide (v_1>(0:Int)) then ((xD l_1 (zR (v_1 - (1:Int)))).bind fun x_2=>some (decide (x_1.At<x_2.At))) else (some false))).bind fun (p_1:Bool) =>
  (bif p_1 then some (.inr (11:Int)) else
  rec (zR (v_1+(1:Int))))) else
  some (.inl ()))
def t7 (F:Nat) (l_1:List (zK)):Nat→Int→Option (Unit⊕Int)
  | 0,_=>none
  | n+1,v_1=>tF F l_1 (t7 F l_1 n) v_1
def kQ (F:Nat) (l_1:List (zK)):Option Int :=
  (t7 F l_1 F (0:Int)).bind fun (o_1:Unit⊕Int) =>
  (match o_1 with
  | (.inl q_1) =>
  some (0:Int)
  | (.inr q_2) =>
  some q_2)
def vB (F:Nat) (p_1:zB) (rec:Int→Option (Unit⊕Int)) (v_1:Int):Option (Unit⊕Int) :=
  (bif decide (v_1<((3:Nat):Int)) then (xD ([p_1.Thread,p_1.Serial,p_1.Lost]:List Int) v_1).bind fun x_1 =>
  (bif (decide (x_1<(0:Int))||decide (x_1>(1000000000000000:Int))) then some (.inr (2:Int)) else
  rec (zR (v_1+(1:Int)))) else
  some (.inl ()))
def jS (F:Nat) (p_1:zB):Nat→Int→Option (Unit⊕Int)
  | 0,_=>none
  | n+1,v_1=>vB F p_1 (jS F p_1 n) v_1
def nJ (F:Nat) (p_1:zB):Option Int :=
  (jS F p_1 F (0:Int)).bind fun (o_1:Unit⊕Int) =>
  (match o_1 with
  | (.inl q_1) =>
  (((bif decide (p_1.Lost>p_1.Serial) then some (decide (p_1.Lost>p_1.Serial)) else
  some (decide ((zR (p_1.Serial+(((p_1.Events).length:Nat):Int)))>(1000000000000000:Int)))):Option Bool)).bind fun (o_2:Bool) =>
  (bif o_2 then some (2:Int) else
  (bif ((((p_1.Events).length:Nat):Int)==(0:Int)) then some (8:Int) else
  (bif decide ((((p_1.Events).length:Nat):Int)>(1000:Int)) then some (7:Int) else
  (kQ F p_1.Events).bind fun r_1 =>
  some r_1)))
  | (.inr q_2) =>
  some q_2)
def jB (t_1:xL) (p_1:zB):Option Bool :=
  ((bif ((zR (p_1.Serial - p_1.Lost))==t_1.next) then ((xD p_1.Events (0:Int)).bind fun x_1=>some (decide (x_1.At≥t_1.last))) else (some false))).bind fun (p_2:Bool) =>
  some p_2
def jI (t_1:xL) (p_1:zB):Option xL :=
  (xD p_1.Events (zR ((((p_1.Events).length:Nat):Int) - (1:Int)))).bind fun x_1 =>
  some (⟨zR (p_1.Serial+(((p_1.Events).length:Nat):Int)),x_1.At⟩:xL)
def qX (F:Nat) (h_1:zL) (rec:Int→(List (Int×xL))→Option (List (Int×xL))) (v_1:Int) (zE:List (Int×xL)):Option (List (Int×xL)) :=
  (bif decide (v_1<(((h_1.Threads).length:Nat):Int)) then (xD h_1.Threads v_1).bind fun x_1 =>
  (need ((zE).length<140737488355328)).bind fun _ =>
  rec (zR (v_1+(1:Int))) (uK zE x_1.Id (⟨(0:Int),(0:Int)⟩:xL)) else
  some zE)
def qI (F:Nat) (h_1:zL):Nat→Int→(List (Int×xL))→Option (List (Int×xL))
  | 0,_,_=>none
  | n+1,v_1,zE=>qX F h_1 (qI F h_1 n) v_1 zE
def qW (F:Nat) (l_1:List (zB)) (rec:Int→Int→(List (Int×xL))→Option (Int⊕Int)) (v3:Int) (v_2:Int) (z6:List (Int×xL)):Option (Int⊕Int) :=
  (bif decide (v_2<(((l_1).length:Nat):Int)) then (xD l_1 v_2).bind fun x_2 =>
  (nJ F x_2).bind fun r_1 =>
  (bif (r_1 != (0:Int)) then some (.inr r_1) else
  (zLX (yI z6 x_2.Thread) (some (.inr (5:Int))) fun x_3 =>
  (jB x_3 x_2).bind fun r_2 =>
  (bif !r_2 then some (.inr (11:Int)) else
  (jI x_3 x_2).bind fun r_3 =>
  rec (zR (v3+(((x_2.Events).length:Nat):Int))) (zR (v_2+(1:Int))) (uK z6 x_2.Thread r_3)))) else
  some (.inl v3))
def qN (F:Nat) (l_1:List (zB)):Nat→Int→Int→(List (Int×xL))→Option (Int⊕Int)
  | 0,_,_,_=>none
  | n+1,v3,v_2,z6=>qW F l_1 (qN F l_1 n) v3 v_2 z6
def zB2 (F:Nat) (h_1:zL) (l_1:List (zB)):Option Int :=
  (qI F h_1 F (0:Int) ([]:List (Int×xL))).bind fun (o_1:(List (Int×xL))) =>
  (qN F l_1 F (0:Int) (0:Int) o_1).bind fun (o_2:Int⊕Int) =>
  (match o_2 with
  | (.inl q_1) =>
  (bif decide (q_1>(20000:Int)) then some (7:Int) else
  some (0:Int))
  | (.inr q_2) =>
  some q_2)
def z5 (s:zB):List AV:=[.int .i64 s.Thread,.int .i64 s.Serial,.int .i64 s.Lost]
def yW (l:List zB):AV:=.tuple [.sl false 4 (List.map zA (ini l)),.bool (!l.isEmpty),.agg (z5 (lst l)),.sl false 6 (List.map zD (lst l).Events)]
def jE (F:Nat) (rec:(List zK)→(List zB)→Option (List zB)) (z0:List zK) (zE:List zB):Option (List zB) :=
  (bif decide ((((z0).length:Nat):Int)>(0:Int)) then (need ((0:Int)≤(zR ((((zE).length:Nat):Int) - (1:Int)))∧(zR ((((zE).length:Nat):Int) - (1:Int)))<(((zE).length:Nat):Int))).bind fun _ =>
  (need ((zR ((((zE).length:Nat):Int) - (1:Int))).toNat+1=(zE).length)).bind fun _ =>
  (bif ((wJ (zR ((1000:Int) - ((((lst zE).Events).length:Nat):Int))) (((z0).length:Nat):Int))==(0:Int)) then (need ((zR ((((zE).length:Nat):Int) - (1:Int))).toNat+1=(zE).length)).bind fun _=>(need ((zR ((((zE).length:Nat):Int) - (1:Int))).toNat+1=(zE).length)).bind fun _=>(need (((zE).length+1) * 48≤140737488355328)).bind fun _ =>
  rec z0 (zE++[(⟨(lst zE).Thread,zR (((lst zE).Serial)+(1000:Int)),(0:Int),[]⟩:zB)]) else
  (need ((zR ((((zE).length:Nat):Int) - (1:Int))).toNat+1=(zE).length)).bind fun _=>(need ((0:Int)≤(wJ (zR ((1000:Int) - ((((lst zE).Events).length:Nat):Int))) (((z0).length:Nat):Int))∧(wJ (zR ((1000:Int) - ((((lst zE).Events).length:Nat):Int))) (((z0).length:Nat):Int))≤(((z0).length:Nat):Int))).bind fun _=>(need ((((lst zE).Events).length+(sub z0 (0:Int) (wJ (zR ((1000:Int) - ((((lst zE).Events).length:Nat):Int))) (((z0).length:Nat):Int))).length) * 72≤140737488355328)).bind fun _=>(need ((zR ((((zE).length:Nat):Int) - (1:Int))).toNat+1=(zE).length)).bind fun _ =>
  (need ((0:Int)≤(wJ (zR ((1000:Int) - ((((lst zE).Events).length:Nat):Int))) (((z0).length:Nat):Int))∧(wJ (zR ((1000:Int) - ((((lst zE).Events).length:Nat):Int))) (((z0).length:Nat):Int))≤(((z0).length:Nat):Int))).bind fun _ =>
  rec (sub z0 (wJ (zR ((1000:Int) - ((((lst zE).Events).length:Nat):Int))) (((z0).length:Nat):Int)) (((z0).length:Nat):Int)) ((ini zE)++[(⟨(lst zE).Thread,(lst zE).Serial,(lst zE).Lost,(((lst zE).Events)++(sub z0 (0:Int) (wJ (zR ((1000:Int) - ((((lst zE).Events).length:Nat):Int))) (((z0).length:Nat):Int))))⟩:zB)])) else
  some zE)
def zAf (F:Nat):Nat→(List zK)→(List zB)→Option (List zB)
  | 0,_,_=>none
  | n+1,z0,zE=>jE F (zAf F n) z0 zE
def zCA (F:Nat) (uE:List (zB)) (events_1:List (zK)):Option (List (zB)) :=
  (zAf F F events_1 uE).bind fun (o_1:(List zB)) =>
  some o_1
def kT (F:Nat) (l_1:List (zB)) (rec:Int→(List (Int×(List (zB))))→Option (List (Int×(List (zB))))) (v_1:Int) (zE:List (Int×(List (zB)))):Option (List (Int×(List (zB)))) :=
  (bif decide (v_1<(((l_1).length:Nat):Int)) then (xD l_1 v_1).bind fun x_1 =>
  (((bif (decide (x_1.Lost>(0:Int))||((((((yI zE x_1.Thread).getD [])).length:Nat):Int)==(0:Int))) then (need (((((yI zE x_1.Thread).getD [])).length+1) * 48≤140737488355328)).bind fun _ =>
  some (((yI zE x_1.Thread).getD [])++[(⟨x_1.Thread,x_1.Serial,x_1.Lost,[]⟩:zB)]) else
  some ((yI zE x_1.Thread).getD [])):Option (List zB))).bind fun (o_2:(List zB)) =>
  (zCA F o_2 x_1.Events).bind fun r_3=>(need ((zE).length<140737488355328)).bind fun _ =>
  rec (zR (v_1+(1:Int))) (uK zE x_1.Thread r_3) else
  some zE)
def k8 (F:Nat) (l_1:List (zB)):Nat→Int→(List (Int×(List (zB))))→Option (List (Int×(List (zB))))
  | 0,_,_=>none
  | n+1,v_1,zE=>kT F l_1 (k8 F l_1 n) v_1 zE
def kJ (F:Nat) (h_1:zL) (o_1:(List (Int×(List (zB))))) (rec:Int→(List zB)→Option (List zB)) (v_2:Int) (z6:List zB):Option (List zB) :=
  (bif decide (v_2<(((h_1.Threads).length:Nat):Int)) then (xD h_1.Threads v_2).bind fun x_2 =>
  (need (((z6).length+(((yI o_1 x_2.Id).getD [])).length) * 48≤140737488355328)).bind fun _ =>
  rec (zR (v_2+(1:Int))) (z6++((yI o_1 x_2.Id).getD [])) else
  some z6)
def zAX (F:Nat) (h_1:zL) (o_1:(List (Int×(List (zB))))):Nat→Int→(List zB)→Option (List zB)
  | 0,_,_=>none
  | n+1,v_2,z6=>kJ F h_1 o_1 (zAX F h_1 o_1 n) v_2 z6
def zBe (F:Nat) (h_1:zL) (l_1:List (zB)):Option (zQ×Int) :=
  (zB0 F h_1).bind fun r_1 =>
  (bif (r_1 != (0:Int)) then some ((⟨(⟨[],[],[]⟩:zL),[]⟩:zQ),r_1) else
  (zB2 F h_1 l_1).bind fun r_2 =>
  (bif (r_2 != (0:Int)) then some ((⟨(⟨[],[],[]⟩:zL),[]⟩:zQ),r_2) else
  (k8 F l_1 F (0:Int) ([]:List (Int×(List (zB))))).bind fun (o_1:(List (Int×(List (zB))))) =>
  (zAX F h_1 o_1 F (0:Int) []).bind fun (o_3:(List zB)) =>
  some ((⟨h_1,o_3⟩:zQ),(0:Int))))
def yY (F:Nat) (s1_1:List (zY)) (s2_1:List (zY)) (rec:Int→Option (Unit⊕Bool)) (v_1:Int):Option (Unit⊕Bool) :=
  (bif decide (v_1<(((s1_1).length:Nat):Int)) then (xD s1_1 v_1).bind fun x_1=>(xD s2_1 v_1).bind fun x_2 =>
  (bif (!(decide (x_1=x_2))) then some (.inr false) else
  rec (zR (v_1+(1:Int)))) else
  some (.inl ()))
def xY (F:Nat) (s1_1:List (zY)) (s2_1:List (zY)):Nat→Int→Option (Unit⊕Bool)
  | 0,_=>none
  | n+1,v_1=>yY F s1_1 s2_1 (xY F s1_1 s2_1 n) v_1
def x7 (F:Nat) (s1_1:List (zY)) (s2_1:List (zY)):Option Bool :=
  (bif ((((s1_1).length:Nat):Int) != (((s2_1).length:Nat):Int)) then some false else
  (xY F s1_1 s2_1 F (0:Int)).bind fun (o_1:Unit⊕Bool) =>
  (match o_1 with
  | (.inl q_1) =>
  some true
  | (.inr q_2) =>
  some q_2))
def yZ (F:Nat) (s1_1:List (zS)) (s2_1:List (zS)) (rec:Int→Option (Unit⊕Bool)) (v_1:Int):Option (Unit⊕Bool) :=
  (bif decide (v_1<(((s1_1).length:Nat):Int)) then (xD s1_1 v_1).bind fun x_1=>(xD s2_1 v_1).bind fun x_2 =>
  (bif (!(decide (x_1=x_2))) then some (.inr false) else
  rec (zR (v_1+(1:Int)))) else
  some (.inl ()))
def xZ (F:Nat) (s1_1:List (zS)) (s2_1:List (zS)):Nat→Int→Option (Unit⊕Bool)
  | 0,_=>none
  | n+1,v_1=>yZ F s1_1 s2_1 (xZ F s1_1 s2_1 n) v_1
def x6 (F:Nat) (s1_1:List (zS)) (s2_1:List (zS)):Option Bool :=
  (bif ((((s1_1).length:Nat):Int) != (((s2_1).length:Nat):Int)) then some false else
  (xZ F s1_1 s2_1 F (0:Int)).bind fun (o_1:Unit⊕Bool) =>
  (match o_1 with
  | (.inl q_1) =>
  some true
  | (.inr q_2) =>
  some q_2))
def y7 (F:Nat) (s1_1:List (xM)) (s2_1:List (xM)) (rec:Int→Option (Unit⊕Bool)) (v_1:Int):Option (Unit⊕Bool) :=
  (bif decide (v_1<(((s1_1).length:Nat):Int)) then (xD s1_1 v_1).bind fun x_1=>(xD s2_1 v_1).bind fun x_2 =>
  (bif (!(decide (x_1=x_2))) then some (.inr false) else
  rec (zR (v_1+(1:Int)))) else
  some (.inl ()))
def x8 (F:Nat) (s1_1:List (xM)) (s2_1:List (xM)):Nat→Int→Option (Unit⊕Bool)
  | 0,_=>none
  | n+1,v_1=>y7 F s1_1 s2_1 (x8 F s1_1 s2_1 n) v_1
def wA (F:Nat) (s1_1:List (xM)) (s2_1:List (xM)):Option Bool :=
  (bif ((((s1_1).length:Nat):Int) != (((s2_1).length:Nat):Int)) then some false else
  (x8 F s1_1 s2_1 F (0:Int)).bind fun (o_1:Unit⊕Bool) =>
  (match o_1 with
  | (.inl q_1) =>
  some true
  | (.inr q_2) =>
  some q_2))
def wL (F:Nat) (s1_1:List (List Int)) (s2_1:List (List Int)) (rec:Int→Option (Unit⊕Bool)) (v_1:Int):Option (Unit⊕Bool) :=
  (bif decide (v_1<(((s1_1).length:Nat):Int)) then (xD s1_1 v_1).bind fun x_1=>(xD s2_1 v_1).bind fun x_2 =>
  (bif !(x_1==x_2) then some (.inr false) else
  rec (zR (v_1+(1:Int)))) else
  some (.inl ()))
def vQ (F:Nat) (s1_1:List (List Int)) (s2_1:List (List Int)):Nat→Int→Option (Unit⊕Bool)
  | 0,_=>none
  | n+1,v_1=>wL F s1_1 s2_1 (vQ F s1_1 s2_1 n) v_1
def uA (F:Nat) (s1_1:List (List Int)) (s2_1:List (List Int)):Option Bool :=
  (bif ((((s1_1).length:Nat):Int) != (((s2_1).length:Nat):Int)) then some false else
  (vQ F s1_1 s2_1 F (0:Int)).bind fun (o_1:Unit⊕Bool) =>
  (match o_1 with
  | (.inl q_1) =>
  some true
  | (.inr q_2) =>
  some q_2))
def zA3 (F:Nat) (a_1:zK) (b_1:zK):Option Bool :=
  ((bif (a_1.At==b_1.At) then (bif (a_1.Kind==b_1.Kind) then (bif (a_1.Name==b_1.Name) then (bif (a_1.N==b_1.N) then (bif (a_1.M==b_1.M) then ((uA F a_1.Stack b_1.Stack).bind fun r_1=>some r_1) else (some false)) else (some false)) else (some false)) else (some false)) else (some false))).bind fun (p_1:Bool) =>
  some p_1
def yD (F:Nat) (s1_1:List (zK)) (s2_1:List (zK)) (rec:Int→Option (Unit⊕Bool)) (v_1:Int):Option (Unit⊕Bool) :=
  (bif decide (v_1<(((s1_1).length:Nat):Int)) then (xD s1_1 v_1).bind fun x_1 =>
  (xD s2_1 v_1).bind fun x_2 =>
  (zA3 F x_1 x_2).bind fun r_1 =>
  (bif !r_1 then some (.inr false) else
  rec (zR (v_1+(1:Int)))) else
  some (.inl ()))
def yO (F:Nat) (s1_1:List (zK)) (s2_1:List (zK)):Nat→Int→Option (Unit⊕Bool)
  | 0,_=>none
  | n+1,v_1=>yD F s1_1 s2_1 (yO F s1_1 s2_1 n) v_1
def y3 (F:Nat) (s1_1:List (zK)) (s2_1:List (zK)):Option Bool :=
  (bif ((((s1_1).length:Nat):Int) != (((s2_1).length:Nat):Int)) then some false else
  (yO F s1_1 s2_1 F (0:Int)).bind fun (o_1:Unit⊕Bool) =>
  (match o_1 with
  | (.inl q_1) =>
  some true
  | (.inr q_2) =>
  some q_2))
def zAn (F:Nat) (a_1:zB) (b_1:zB):Option Bool :=
  ((bif (a_1.Thread==b_1.Thread) then (bif (a_1.Serial==b_1.Serial) then (bif (a_1.Lost==b_1.Lost) then ((y3 F a_1.Events b_1.Events).bind fun r_1=>some r_1) else (some false)) else (some false)) else (some false))).bind fun (p_1:Bool) =>
  some p_1
def zCf (F:Nat) (p_1:zB) (q_1:zB):Option Bool :=
  (zAn F p_1 q_1).bind fun r_1 =>
  some r_1
def yB (F:Nat) (s1_1:List (zB)) (s2_1:List (zB)) (rec:Int→Option (Unit⊕Bool)) (v_1:Int):Option (Unit⊕Bool) :=
  (bif decide (v_1<(((s1_1).length:Nat):Int)) then (xD s1_1 v_1).bind fun x_1 =>
  (xD s2_1 v_1).bind fun x_2 =>
  (zCf F x_1 x_2).bind fun r_1 =>
  (bif !r_1 then some (.inr false) else
  rec (zR (v_1+(1:Int)))) else
  some (.inl ()))
def yJ (F:Nat) (s1_1:List (zB)) (s2_1:List (zB)):Nat→Int→Option (Unit⊕Bool)
  | 0,_=>none
  | n+1,v_1=>yB F s1_1 s2_1 (yJ F s1_1 s2_1 n) v_1
def yM (F:Nat) (s1_1:List (zB)) (s2_1:List (zB)):Option Bool :=
  (bif ((((s1_1).length:Nat):Int) != (((s2_1).length:Nat):Int)) then some false else
  (yJ F s1_1 s2_1 F (0:Int)).bind fun (o_1:Unit⊕Bool) =>
  (match o_1 with
  | (.inl q_1) =>
  some true
  | (.inr q_2) =>
  some q_2))
def zBz (F:Nat) (a_1:zQ) (b_1:zQ):Option Bool :=
  (((x7 F a_1.Head.Threads b_1.Head.Threads).bind fun r_1=>bif r_1 then ((x6 F a_1.Head.Domains b_1.Head.Domains).bind fun r_2=>bif r_2 then ((wA F a_1.Head.Snaps b_1.Head.Snaps).bind fun r_3=>bif r_3 then ((yM F a_1.Parts b_1.Parts).bind fun r_4=>some r_4) else (some false)) else (some false)) else (some false))).bind fun (p_1:Bool) =>
  some p_1
def zB3 (F:Nat) (l_1:zQ):Option Int :=
  (zBe F l_1.Head l_1.Parts).bind fun r_1 =>
  ((bif (r_1.2==(0:Int)) then ((zBz F r_1.1 l_1).bind fun r_2=>some (!r_2)) else (some false))).bind fun (p_1:Bool) =>
  (bif p_1 then some (10:Int) else
  some r_1.2)
structure yQ where
  Thread:Int
  Serial:Int
  Count:Int
  deriving DecidableEq,Inhabited
def zFv (s:yQ):List AV:=[.int .i64 s.Thread,.int .i64 s.Serial,.int .i64 s.Count]
def yU (s:yQ):AV:=.agg (zFv s)
def zAA (F:Nat) (l_1:zQ) (rec:Int→(List yQ)→Option (List yQ)) (v_1:Int) (zE:List yQ):Option (List yQ) :=
  (bif decide (v_1<(((l_1.Parts).length:Nat):Int)) then (xD l_1.Parts v_1).bind fun x_1 =>
  (bif decide (x_1.Lost>(0:Int)) then (need (((zE).length+(([(⟨x_1.Thread,zR (x_1.Serial - x_1.Lost),x_1.Lost⟩:yQ)]:List yQ)).length) * 24≤140737488355328)).bind fun _ =>
  rec (zR (v_1+(1:Int))) (zE++([(⟨x_1.Thread,zR (x_1.Serial - x_1.Lost),x_1.Lost⟩:yQ)]:List yQ)) else
  rec (zR (v_1+(1:Int))) zE) else
  some zE)
def zBE (F:Nat) (l_1:zQ):Nat→Int→(List yQ)→Option (List yQ)
  | 0,_,_=>none
  | n+1,v_1,zE=>zAA F l_1 (zBE F l_1 n) v_1 zE
def zFX (F:Nat) (l_1:zQ):Option (List (yQ)) :=
  (zB3 F l_1).bind fun r_1 =>
  (bif (r_1 != (0:Int)) then some [] else
  (zBE F l_1 F (0:Int) []).bind fun (o_1:(List yQ)) =>
  some o_1)
structure qS where
  Thread:Int
  Serial:Int
  deriving DecidableEq,Inhabited
def uW (s:qS):List AV:=[.int .i64 s.Thread,.int .i64 s.Serial]
def zGm (s:qS):AV:=.agg (uW s)
def zAZ (F:Nat) (l_1:zQ) (xE:qS) (rec:Int→Option (Unit⊕(zK×Bool))) (v_1:Int):Option (Unit⊕(zK×Bool)) :=
  (bif decide (v_1<(((l_1.Parts).length:Nat):Int)) then (xD l_1.Parts v_1).bind fun x_1 =>
  (bif ((x_1.Thread==xE.Thread)&&(decide (xE.Serial≥x_1.Serial)&&decide (xE.Serial<(zR (x_1.Serial+(((x_1.Events).length:Nat):Int)))))) then (xD x_1.Events (zR (xE.Serial - x_1.Serial))).bind fun x_2 =>
  some (.inr (x_2,true)) else
  rec (zR (v_1+(1:Int)))) else
  some (.inl ()))
def zCb (F:Nat) (l_1:zQ) (xE:qS):Nat→Int→Option (Unit⊕(zK×Bool))
  | 0,_=>none
  | n+1,v_1=>zAZ F l_1 xE (zCb F l_1 xE n) v_1
def zHQ (F:Nat) (l_1:zQ) (xE:qS):Option (zK×Bool) :=
  (zB3 F l_1).bind fun r_1 =>
  (bif (r_1 != (0:Int)) then some ((⟨(0:Int),(0:Int),([]:List Int),(0:Int),(0:Int),[]⟩:zK),false) else
  (zCb F l_1 xE F (0:Int)).bind fun (o_1:Unit⊕(zK×Bool)) =>
  (match o_1 with
  | (.inl q_1) =>
  some ((⟨(0:Int),(0:Int),([]:List Int),(0:Int),(0:Int),[]⟩:zK),false)
  | (.inr q_2) =>
  some q_2))
def zAO (F:Nat):Option Bool :=
  (zAH F (0:Int) (0:Int) ([(1:Int),(2:Int)]:List Int)).bind fun r_1=>(zAH F (2:Int) (0:Int) ([(2:Int),(3:Int)]:List Int)).bind fun r_2=>(zBe F (⟨([(⟨(1:Int),([116,49]:List Int),(0:Int)⟩:zY)]:List zY),([(⟨(0:Int),(0:Int)⟩:zS)]:List zS),[]⟩:zL) ([r_1,r_2]:List zB)).bind fun r_3 =>
  (zAH F (3:Int) (3:Int) ([(5:Int)]:List Int)).bind fun r_4=>(zBe F (⟨([(⟨(1:Int),([116,49]:List Int),(0:Int)⟩:zY)]:List zY),([(⟨(0:Int),(0:Int)⟩:zS)]:List zS),[]⟩:zL) ([r_4]:List zB)).bind fun r_5 =>
  (zAH F (3:Int) (2:Int) ([(5:Int)]:List Int)).bind fun r_6=>(zBe F (⟨([(⟨(1:Int),([116,49]:List Int),(0:Int)⟩:zY)]:List zY),([(⟨(0:Int),(0:Int)⟩:zS)]:List zS),[]⟩:zL) ([r_6]:List zB)).bind fun r_7 =>
  (zFX F r_5.1).bind fun r_8 =>
  (zHQ F r_3.1 (⟨(1:Int),(3:Int)⟩:qS)).bind fun r_9 =>
  ((bif (r_3.2==(0:Int)) then (bif ((((r_3.1.Parts).length:Nat):Int)==(1:Int)) then ((xD r_3.1.Parts (0:Int)).bind fun x_1=>bif ((((x_1.Events).length:Nat):Int)==(4:Int)) then (bif (r_5.2==(0:Int)) then (bif ((((r_8).length:Nat):Int)==(1:Int)) then ((xD r_8 (0:Int)).bind fun x_2=>bif (decide (x_2=(⟨(1:Int),(0:Int),(3:Int)⟩:yQ))) then (bif (r_7.2==(11:Int)) then (bif r_9.2 then (bif (r_9.1.At==(3:Int)) then ((zB3 F r_3.1).bind fun r_10=>some (r_10==(0:Int))) else (some false)) else (some false)) else (some false)) else (some false)) else (some false)) else (some false)) else (some false)) else (some false)) else (some false))).bind fun (p_1:Bool) =>
  some p_1
def uN (F:Nat) (c_1:Int) (rec:Int→Option (Unit⊕Bool)) (i_1:Int):Option (Unit⊕Bool) :=
  (bif decide (i_1<(((([95,46,58,47,60,62,36,42,126,45]:List Int)).length:Nat):Int)) then (xD ([95,46,58,47,60,62,36,42,126,45]:List Int) i_1).bind fun c_2 =>
  (bif (c_2==c_1) then some (.inr true) else
  rec (zR (i_1+(1:Int)))) else
  some (.inl ()))
def qA (F:Nat) (c_1:Int):Nat→Int→Option (Unit⊕Bool)
  | 0,_=>none
  | n+1,i_1=>uN F c_1 (qA F c_1 n) i_1
def zBb (F:Nat) (c_1:Int):Option Bool :=
  (bif (bif decide (c_1≥(97:Int)) then (decide (c_1≤(122:Int))||(bif decide (c_1≥(65:Int)) then (decide (c_1≤(90:Int))||(decide (c_1≥(48:Int))&&decide (c_1≤(57:Int)))) else (decide (c_1≥(48:Int))&&decide (c_1≤(57:Int))))) else (bif decide (c_1≥(65:Int)) then (decide (c_1≤(90:Int))||(decide (c_1≥(48:Int))&&decide (c_1≤(57:Int)))) else (decide (c_1≥(48:Int))&&decide (c_1≤(57:Int))))) then some true else
  (qA F c_1 F (0:Int)).bind fun (o_1:Unit⊕Bool) =>
  (match o_1 with
  | (.inl q_1) =>
  some false
  | (.inr q_2) =>
  some q_2))
def jF (F:Nat) (s_1:List Int) (rec:Int→Option (Unit⊕Int)) (i_1:Int):Option (Unit⊕Int) :=
  (bif decide (i_1<(((s_1).length:Nat):Int)) then (xD s_1 i_1).bind fun c_1=>(zBb F c_1).bind fun r_1 =>
  (bif !r_1 then some (.inr (3:Int)) else
  rec (zR (i_1+(1:Int)))) else
  some (.inl ()))
def zAk (F:Nat) (s_1:List Int):Nat→Int→Option (Unit⊕Int)
  | 0,_=>none
  | n+1,i_1=>jF F s_1 (zAk F s_1 n) i_1
def zAC (F:Nat) (s_1:List Int):Option Int :=
  (bif (decide ((((s_1).length:Nat):Int)<(1:Int))||decide ((((s_1).length:Nat):Int)>(40:Int))) then some (3:Int) else
  (zAk F s_1 F (0:Int)).bind fun (o_1:Unit⊕Int) =>
  (match o_1 with
  | (.inl q_1) =>
  some (0:Int)
  | (.inr q_2) =>
  some q_2))
def zA9 (F:Nat) (t_1:zY):Option Int :=
  (bif (decide (t_1.Id<(0:Int))||(decide (t_1.Id>(1000000000000000:Int))||(decide (t_1.Domain<(0:Int))||decide (t_1.Domain≥(8:Int))))) then some (2:Int) else
  (zAC F t_1.Name).bind fun r_1 =>
  some r_1)
def tN (F:Nat) (d_1:List (zS)) (xE:Int) (rec:Int→Option (Unit⊕Int)) (i_1:Int):Option (Unit⊕Int) :=
  (bif decide (i_1<(((d_1).length:Nat):Int)) then (xD d_1 i_1).bind fun x_1 =>
  (bif (x_1.Id==xE) then some (.inr i_1) else
  rec (zR (i_1+(1:Int)))) else
  some (.inl ()))
def zAp (F:Nat) (d_1:List (zS)) (xE:Int):Nat→Int→Option (Unit⊕Int)
  | 0,_=>none
  | n+1,i_1=>tN F d_1 xE (zAp F d_1 xE n) i_1
def nD (F:Nat) (d_1:List (zS)) (xE:Int):Option Int :=
  (zAp F d_1 xE F (0:Int)).bind fun (o_1:Unit⊕Int) =>
  (match o_1 with
  | (.inl q_1) =>
  some (-1:Int)
  | (.inr q_2) =>
  some q_2)
def pU (n_1:Int):Option Bool :=
  some (decide (n_1≥(0:Int))&&decide (n_1≤(1000000000000:Int)))
def zCx (F:Nat) (d_1:List (zS)) (x_1:xM):Option Int :=
  (((nD F d_1 x_1.A).bind fun r_1=>bif decide (r_1<(0:Int)) then (some true) else ((nD F d_1 x_1.B).bind fun r_2=>some (decide (r_2<(0:Int)))))).bind fun (p_1:Bool) =>
  (bif p_1 then some (5:Int) else
  (bif (x_1.A==x_1.B) then some (1:Int) else
  (((pU x_1.AtA).bind fun r_3=>bif !r_3 then (some true) else ((pU x_1.AtB.Lo).bind fun r_4=>bif !r_4 then (some true) else ((pU x_1.AtB.Hi).bind fun r_5=>bif !r_5 then (some true) else (some (decide (x_1.AtB.Lo>x_1.AtB.Hi))))))).bind fun (p_2:Bool) =>
  (bif p_2 then some (2:Int) else
  some (0:Int))))
def u6 (F:Nat) (d_1:List (zS)) (rec:Int→Option (Unit⊕Int)) (i_1:Int):Option (Unit⊕Int) :=
  (bif decide (i_1<(((d_1).length:Nat):Int)) then (((xD d_1 i_1).bind fun x_3=>bif decide (x_3.Id<(0:Int)) then (some true) else ((xD d_1 i_1).bind fun x_4=>bif decide (x_4.Id≥(8:Int)) then (some true) else ((xD d_1 i_1).bind fun x_5=>bif decide (x_5.Ppm<(0:Int)) then (some true) else ((xD d_1 i_1).bind fun x_6=>some (decide (x_6.Ppm>(10000:Int)))))))).bind fun (p_2:Bool) =>
  (bif p_2 then some (.inr (2:Int)) else
  (xD d_1 i_1).bind fun x_7=>(nD F d_1 x_7.Id).bind fun r_1 =>
  (bif decide (r_1<i_1) then some (.inr (4:Int)) else
  rec (zR (i_1+(1:Int))))) else
  some (.inl ()))
def nB (F:Nat) (d_1:List (zS)):Nat→Int→Option (Unit⊕Int)
  | 0,_=>none
  | n+1,i_1=>u6 F d_1 (nB F d_1 n) i_1
def u4 (F:Nat) (d_1:List (zS)) (l_1:List (xM)) (rec:Int→Option (Unit⊕Int)) (i_2:Int):Option (Unit⊕Int) :=
  (bif decide (i_2<(((l_1).length:Nat):Int)) then (xD l_1 i_2).bind fun x_8=>(zCx F d_1 x_8).bind fun r_2 =>
  (bif (r_2 != (0:Int)) then some (.inr r_2) else
  rec (zR (i_2+(1:Int)))) else
  some (.inl ()))
def nF (F:Nat) (d_1:List (zS)) (l_1:List (xM)):Nat→Int→Option (Unit⊕Int)
  | 0,_=>none
  | n+1,i_2=>u4 F d_1 l_1 (nF F d_1 l_1 n) i_2
def zAT (F:Nat) (d_1:List (zS)) (l_1:List (xM)):Option Int :=
  (bif ((((d_1).length:Nat):Int)==(0:Int)) then some (8:Int) else
  (bif (decide ((((d_1).length:Nat):Int)>(8:Int))||decide ((((l_1).length:Nat):Int)>(200:Int))) then some (7:Int) else
  (((xD d_1 (0:Int)).bind fun x_1=>bif (x_1.Id != (0:Int)) then (some true) else ((xD d_1 (0:Int)).bind fun x_2=>some (x_2.Ppm != (0:Int))))).bind fun (p_1:Bool) =>
  (bif p_1 then some (10:Int) else
  (nB F d_1 F (0:Int)).bind fun (o_1:Unit⊕Int) =>
  (match o_1 with
  | (.inl q_1) =>
  (nF F d_1 l_1 F (0:Int)).bind fun (o_2:Unit⊕Int) =>
  (match o_2 with
  | (.inl q_3) =>
  some (0:Int)
  | (.inr q_4) =>
  some q_4)
  | (.inr q_2) =>
  some q_2))))
def zDr (F:Nat) (d_1:List (zS)) (xE:Int):Option (Int×Bool) :=
  (nD F d_1 xE).bind fun r_1 =>
  (((zAT F d_1 []).bind fun r_2=>bif (r_2 != (0:Int)) then (some true) else (some (decide (r_1<(0:Int)))))).bind fun (p_1:Bool) =>
  (bif p_1 then some ((0:Int),false) else
  (xD d_1 r_1).bind fun x_1 =>
  some (x_1.Ppm,true))
def tS (F:Nat) (h_1:zL) (i_1:Int) (rec:Int→Option (Unit⊕Int)) (k_1:Int):Option (Unit⊕Int) :=
  (bif decide (k_1<i_1) then (xD h_1.Threads k_1).bind fun x_2=>(xD h_1.Threads i_1).bind fun x_3 =>
  (bif (x_2.Id==x_3.Id) then some (.inr (4:Int)) else
  rec (zR (k_1+(1:Int)))) else
  some (.inl ()))
def pV (F:Nat) (h_1:zL) (i_1:Int):Nat→Int→Option (Unit⊕Int)
  | 0,_=>none
  | n+1,k_1=>tS F h_1 i_1 (pV F h_1 i_1 n) k_1
def tT (F:Nat) (h_1:zL) (rec:Int→Option (Unit⊕Int)) (i_1:Int):Option (Unit⊕Int) :=
  (bif decide (i_1<(((h_1.Threads).length:Nat):Int)) then (xD h_1.Threads i_1).bind fun x_1=>(zA9 F x_1).bind fun r_1 =>
  (bif (r_1 != (0:Int)) then some (.inr r_1) else
  (pV F h_1 i_1 F (0:Int)).bind fun (o_2:Unit⊕Int) =>
  (match o_2 with
  | (.inl q_1) =>
  rec (zR (i_1+(1:Int)))
  | (.inr q_2) =>
  some (.inr q_2))) else
  some (.inl ()))
def zAe (F:Nat) (h_1:zL):Nat→Int→Option (Unit⊕Int)
  | 0,_=>none
  | n+1,i_1=>tT F h_1 (zAe F h_1 n) i_1
def tO (F:Nat) (h_1:zL) (rec:Int→Option (Unit⊕Int)) (i_2:Int):Option (Unit⊕Int) :=
  (bif decide (i_2<(((h_1.Threads).length:Nat):Int)) then (xD h_1.Threads i_2).bind fun x_4=>(zDr F h_1.Domains x_4.Domain).bind fun r_3 =>
  (bif !r_3.2 then some (.inr (5:Int)) else
  rec (zR (i_2+(1:Int)))) else
  some (.inl ()))
def p0 (F:Nat) (h_1:zL):Nat→Int→Option (Unit⊕Int)
  | 0,_=>none
  | n+1,i_2=>tO F h_1 (p0 F h_1 n) i_2
def zCy (F:Nat) (h_1:zL):Option Int :=
  (bif ((((h_1.Threads).length:Nat):Int)==(0:Int)) then some (8:Int) else
  (bif decide ((((h_1.Threads).length:Nat):Int)>(64:Int)) then some (7:Int) else
  (zAe F h_1 F (0:Int)).bind fun (o_1:Unit⊕Int) =>
  (match o_1 with
  | (.inl q_3) =>
  (zAT F h_1.Domains h_1.Snaps).bind fun r_2 =>
  (bif (r_2 != (0:Int)) then some r_2 else
  (p0 F h_1 F (0:Int)).bind fun (o_3:Unit⊕Int) =>
  (match o_3 with
  | (.inl q_5) =>
  some (0:Int)
  | (.inr q_6) =>
  some q_6))
  | (.inr q_4) =>
  some q_4)))
def pC (n_1:Int):Option Bool :=
  some (decide (n_1≥(0:Int))&&decide (n_1≤(1000000000000000:Int)))
def zDP (k_1:Int):Option (Bool×Bool×Bool×Bool) :=
  some (((k_1==(1:Int))||((k_1==(3:Int))||(k_1==(4:Int)))),decide (k_1≥(4:Int)),((k_1==(9:Int))||(k_1==(11:Int))),((k_1==(5:Int))||(k_1==(11:Int))))
def qM (F:Nat) (l_1:List (List Int)) (rec:Int→Option (Unit⊕Int)) (i_1:Int):Option (Unit⊕Int) :=
  (bif decide (i_1<(((l_1).length:Nat):Int)) then (xD l_1 i_1).bind fun x_1=>(zAC F x_1).bind fun r_1 =>
  (bif (r_1 != (0:Int)) then some (.inr (3:Int)) else
  rec (zR (i_1+(1:Int)))) else
  some (.inl ()))
def pO (F:Nat) (l_1:List (List Int)):Nat→Int→Option (Unit⊕Int)
  | 0,_=>none
  | n+1,i_1=>qM F l_1 (pO F l_1 n) i_1
def zBc (F:Nat) (l_1:List (List Int)):Option Int :=
  (bif decide ((((l_1).length:Nat):Int)>(32:Int)) then some (7:Int) else
  (pO F l_1 F (0:Int)).bind fun (o_1:Unit⊕Int) =>
  (match o_1 with
  | (.inl q_1) =>
  some (0:Int)
  | (.inr q_2) =>
  some q_2))
def t5 (n_1:Int) (zAw:Int) (kX:Int):Option Int :=
  (bif (decide (n_1<zAw)||decide (n_1>kX)) then some (2:Int) else
  some (0:Int))
def zAi (e_1:zK):Option Int :=
  (((((bif (e_1.Kind==(1:Int)) then some (e_1.Kind==(1:Int)) else
  (bif (e_1.Kind==(2:Int)) then some (e_1.Kind==(2:Int)) else
  some (e_1.Kind==(3:Int)))):Option Bool)).bind fun (o_2:Bool) =>
  (bif o_2 then some (.inr (0:Int)) else
  (bif (e_1.Kind==(4:Int)) then (t5 e_1.N (-1000000000000000:Int) (1000000000000000:Int)).bind fun r_1 =>
  some (.inr r_1) else
  (bif (e_1.Kind==(5:Int)) then (t5 e_1.N (1:Int) (1000000000000:Int)).bind fun r_2 =>
  some (.inr r_2) else
  (bif (e_1.Kind==(8:Int)) then (t5 e_1.N (0:Int) (63:Int)).bind fun r_3 =>
  some (.inr r_3) else
  (bif (e_1.Kind==(9:Int)) then (t5 e_1.N (0:Int) (3:Int)).bind fun r_4 =>
  (bif ((r_4==(0:Int))&&(e_1.N==(2:Int))) then (t5 e_1.M (0:Int) (1000000000000000:Int)).bind fun r_5 =>
  some (.inr r_5) else
  (bif ((r_4==(0:Int))&&(e_1.M != (0:Int))) then some (.inr (1:Int)) else
  some (.inr r_4))) else
  some (.inl ())))))):Option (Unit⊕Int))).bind fun (o_1:Unit⊕Int) =>
  (match o_1 with
  | (.inl q_1) =>
  (t5 e_1.N (0:Int) (1000000000000000:Int)).bind fun r_6 =>
  (bif ((r_6==(0:Int))&&(e_1.Kind==(11:Int))) then (t5 e_1.M (1:Int) (1000000000000:Int)).bind fun r_7 =>
  some r_7 else
  some r_6)
  | (.inr q_2) =>
  some q_2)
def zBZ (F:Nat) (e_1:zK):Option Int :=
  (bif (decide (e_1.At<(0:Int))||decide (e_1.At>(1000000000000:Int))) then some (2:Int) else
  (bif (decide (e_1.Kind<(1:Int))||decide (e_1.Kind>(12:Int))) then some (1:Int) else
  (zDP e_1.Kind).bind fun r_1 =>
  ((bif !r_1.1 then (bif !(e_1.Name==([]:List Int)) then (some true) else (bif !r_1.2.1 then (bif (e_1.N != (0:Int)) then (some true) else (bif !r_1.2.2.1 then (bif (e_1.M != (0:Int)) then (some true) else (bif !r_1.2.2.2 then (some (decide ((((e_1.Stack).length:Nat):Int)>(0:Int)))) else (some false))) else (bif !r_1.2.2.2 then (some (decide ((((e_1.Stack).length:Nat):Int)>(0:Int)))) else (some false)))) else (bif !r_1.2.2.1 then (bif (e_1.M != (0:Int)) then (some true) else (bif !r_1.2.2.2 then (some (decide ((((e_1.Stack).length:Nat):Int)>(0:Int)))) else (some false))) else (bif !r_1.2.2.2 then (some (decide ((((e_1.Stack).length:Nat):Int)>(0:Int)))) else (some false))))) else (bif !r_1.2.1 then (bif (e_1.N != (0:Int)) then (some true) else (bif !r_1.2.2.1 then (bif (e_1.M != (0:Int)) then (some true) else (bif !r_1.2.2.2 then (some (decide ((((e_1.Stack).length:Nat):Int)>(0:Int)))) else (some false))) else (bif !r_1.2.2.2 then (some (decide ((((e_1.Stack).length:Nat):Int)>(0:Int)))) else (some false)))) else (bif !r_1.2.2.1 then (bif (e_1.M != (0:Int)) then (some true) else (bif !r_1.2.2.2 then (some (decide ((((e_1.Stack).length:Nat):Int)>(0:Int)))) else (some false))) else (bif !r_1.2.2.2 then (some (decide ((((e_1.Stack).length:Nat):Int)>(0:Int)))) else (some false)))))).bind fun (p_1:Bool) =>
  (bif p_1 then some (1:Int) else
  (((bif r_1.1 then (zAC F e_1.Name).bind fun r_2 =>
  some r_2 else
  some (0:Int)):Option Int)).bind fun (o_1:Int) =>
  (((bif r_1.2.2.2 then (zBc F e_1.Stack).bind fun r_3 =>
  some r_3 else
  some o_1):Option Int)).bind fun (o_2:Int) =>
  (bif (o_2 != (0:Int)) then some o_2 else
  (zAi e_1).bind fun r_4 =>
  some r_4))))
def t0 (F:Nat) (l_1:List (zK)) (rec:Int→Option (Unit⊕Int)) (i_1:Int):Option (Unit⊕Int) :=
  (bif decide (i_1<(((l_1).length:Nat):Int)) then (xD l_1 i_1).bind fun x_1=>(zBZ F x_1).bind fun r_1 =>
  (bif (r_1 != (0:Int)) then some (.inr r_1) else
  ((bif decide (i_1>(0:Int)) then ((xD l_1 i_1).bind fun x_2=>(xD l_1 (zR (i_1 - (1:Int)))).bind fun x_3=>some (decide (x_2.At<x_3.At))) else (some false))).bind fun (p_1:Bool) =>
  (bif p_1 then some (.inr (11:Int)) else
  rec (zR (i_1+(1:Int))))) else
  some (.inl ()))
def qP (F:Nat) (l_1:List (zK)):Nat→Int→Option (Unit⊕Int)
  | 0,_=>none
  | n+1,i_1=>t0 F l_1 (qP F l_1 n) i_1
def nA (F:Nat) (l_1:List (zK)):Option Int :=
  (qP F l_1 F (0:Int)).bind fun (o_1:Unit⊕Int) =>
  (match o_1 with
  | (.inl q_1) =>
  some (0:Int)
  | (.inr q_2) =>
  some q_2)
def zBV (F:Nat) (p_1:zB):Option Int :=
  (((pC p_1.Thread).bind fun r_1=>bif !r_1 then (some true) else ((pC p_1.Serial).bind fun r_2=>bif !r_2 then (some true) else ((pC p_1.Lost).bind fun r_3=>bif !r_3 then (some true) else (some (decide (p_1.Lost>p_1.Serial))))))).bind fun (p_2:Bool) =>
  (bif p_2 then some (2:Int) else
  (bif decide (p_1.Serial>(zR ((1000000000000000:Int) - (((p_1.Events).length:Nat):Int)))) then some (2:Int) else
  (bif ((((p_1.Events).length:Nat):Int)==(0:Int)) then some (8:Int) else
  (bif decide ((((p_1.Events).length:Nat):Int)>(1000:Int)) then some (7:Int) else
  (nA F p_1.Events).bind fun r_4 =>
  some r_4))))
def u2 (F:Nat) (h_1:zL) (z4:Int) (rec:Int→Option (Unit⊕Bool)) (i_1:Int):Option (Unit⊕Bool) :=
  (bif decide (i_1<(((h_1.Threads).length:Nat):Int)) then (xD h_1.Threads i_1).bind fun x_1 =>
  (bif (x_1.Id==z4) then some (.inr true) else
  rec (zR (i_1+(1:Int)))) else
  some (.inl ()))
def nK (F:Nat) (h_1:zL) (z4:Int):Nat→Int→Option (Unit⊕Bool)
  | 0,_=>none
  | n+1,i_1=>u2 F h_1 z4 (nK F h_1 z4 n) i_1
def zBX (F:Nat) (h_1:zL) (z4:Int):Option Bool :=
  (nK F h_1 z4 F (0:Int)).bind fun (o_1:Unit⊕Bool) =>
  (match o_1 with
  | (.inl q_1) =>
  some false
  | (.inr q_2) =>
  some q_2)
def j4 (F:Nat) (l_1:List (zB)) (z4:Int) (rec:Int→Int→Int→Option (Int×Int)) (n_1:Int) (nN:Int) (i_1:Int):Option (Int×Int) :=
  (bif decide (i_1<(((l_1).length:Nat):Int)) then (((xD l_1 i_1).bind fun x_1 =>
  (bif (x_1.Thread==z4) then (xD l_1 i_1).bind fun x_2=>(xD l_1 i_1).bind fun x_3 =>
  (xD l_1 i_1).bind fun x_4=>(xD l_1 i_1).bind fun x_5=>(xD x_4.Events (zR ((((x_5.Events).length:Nat):Int) - (1:Int)))).bind fun x_6 =>
  some (zR (x_2.Serial+(((x_3.Events).length:Nat):Int)),x_6.At) else
  some (n_1,nN)):Option (Int×Int))).bind fun (o_2:(Int×Int)) =>
  rec o_2.1 o_2.2 (zR (i_1+(1:Int))) else
  some (n_1,nN))
def nU (F:Nat) (l_1:List (zB)) (z4:Int):Nat→Int→Int→Int→Option (Int×Int)
  | 0,_,_,_=>none
  | n+1,n_1,nN,i_1=>j4 F l_1 z4 (nU F l_1 z4 n) n_1 nN i_1
def zDC (F:Nat) (l_1:List (zB)) (z4:Int):Option (Int×Int) :=
  (nU F l_1 z4 F (0:Int) (0:Int) (0:Int)).bind fun (o_1:(Int×Int)) =>
  some (o_1.1,o_1.2)
def zAr (F:Nat) (l_1:List (zB)) (p_1:zB):Option Bool :=
  (zDC F l_1 p_1.Thread).bind fun r_1 =>
  ((bif (p_1.Serial==(zR (r_1.1+p_1.Lost))) then ((xD p_1.Events (0:Int)).bind fun x_1=>some (decide (x_1.At≥r_1.2))) else (some false))).bind fun (p_2:Bool) =>
  some p_2
def qK (F:Nat) (l_1:List (zB)) (rec:Int→Int→Option Int) (n_1:Int) (i_1:Int):Option Int :=
  (bif decide (i_1<(((l_1).length:Nat):Int)) then (xD l_1 i_1).bind fun x_1 =>
  rec (zR (n_1+(((x_1.Events).length:Nat):Int))) (zR (i_1+(1:Int))) else
  some n_1)
def jL (F:Nat) (l_1:List (zB)):Nat→Int→Int→Option Int
  | 0,_,_=>none
  | n+1,n_1,i_1=>qK F l_1 (jL F l_1 n) n_1 i_1
def zA1 (F:Nat) (l_1:List (zB)):Option Int :=
  (jL F l_1 F (0:Int) (0:Int)).bind fun (o_1:Int) =>
  some o_1
def u9 (F:Nat) (z4:Int) (l_1:List (zB)) (i_1:Int) (rec:Int→(List zB)→Option (List zB)) (k_1:Int) (z6:List zB):Option (List zB) :=
  (xD l_1 i_1).bind fun x_2 =>
  (bif decide (k_1<(((x_2.Events).length:Nat):Int)) then (((((bif (k_1==(0:Int)) then (xD l_1 i_1).bind fun x_3 =>
  some x_3.Lost else
  some (0:Int)):Option Int)).bind fun (o_5:Int) =>
  ((bif ((((z6).length:Nat):Int)==(0:Int)) then (some true) else (bif decide (o_5>(0:Int)) then (some true) else ((need ((0:Int)≤(zR ((((z6).length:Nat):Int) - (1:Int)))∧(zR ((((z6).length:Nat):Int) - (1:Int)))<(((z6).length:Nat):Int))).bind fun _=>(need ((zR ((((z6).length:Nat):Int) - (1:Int))).toNat+1=(z6).length)).bind fun _=>some (((((lst z6).Events).length:Nat):Int)==(1000:Int)))))).bind fun (p_1:Bool) =>
  (((bif p_1 then (xD l_1 i_1).bind fun x_4=>(need (((z6).length+1) * 48≤140737488355328)).bind fun _ =>
  some (zR ((((z6).length:Nat):Int)+(1:Int)),(z6++[(⟨z4,zR (x_4.Serial+k_1),o_5,[]⟩:zB)])) else
  some ((((z6).length:Nat):Int),z6)):Option (Int×(List zB)))).bind fun (o_6:(Int×(List zB))) =>
  (need ((0:Int)≤(zR (o_6.1 - (1:Int)))∧(zR (o_6.1 - (1:Int)))<(((o_6.2).length:Nat):Int))).bind fun _=>(need ((zR (o_6.1 - (1:Int))).toNat+1=(o_6.2).length)).bind fun _=>(xD l_1 i_1).bind fun x_5=>(xD x_5.Events k_1).bind fun x_6=>(need ((((lst o_6.2).Events).length+(([x_6]:List zK)).length) * 72≤140737488355328)).bind fun _=>(need ((0:Int)≤(zR (o_6.1 - (1:Int)))∧(zR (o_6.1 - (1:Int)))<(((o_6.2).length:Nat):Int))).bind fun _=>(need ((zR (o_6.1 - (1:Int))).toNat+1=(o_6.2).length)).bind fun _ =>
  some ((ini o_6.2)++[(⟨(lst o_6.2).Thread,(lst o_6.2).Serial,(lst o_6.2).Lost,(((lst o_6.2).Events)++([x_6]:List zK))⟩:zB)]):Option (List zB))).bind fun (o_4:(List zB)) =>
  rec (zR (k_1+(1:Int))) o_4 else
  some z6)
def kG (F:Nat) (z4:Int) (l_1:List (zB)) (i_1:Int):Nat→Int→(List zB)→Option (List zB)
  | 0,_,_=>none
  | n+1,k_1,z6=>u9 F z4 l_1 i_1 (kG F z4 l_1 i_1 n) k_1 z6
def qZ (F:Nat) (z4:Int) (l_1:List (zB)) (rec:Int→(List zB)→Option (List zB)) (i_1:Int) (zE:List zB):Option (List zB) :=
  (bif decide (i_1<(((l_1).length:Nat):Int)) then (((xD l_1 i_1).bind fun x_1 =>
  (bif (x_1.Thread != z4) then some zE else
  (kG F z4 l_1 i_1 F (0:Int) zE).bind fun (o_3:(List zB)) =>
  some o_3):Option (List zB))).bind fun (o_2:(List zB)) =>
  rec (zR (i_1+(1:Int))) o_2 else
  some zE)
def kW (F:Nat) (z4:Int) (l_1:List (zB)):Nat→Int→(List zB)→Option (List zB)
  | 0,_,_=>none
  | n+1,i_1,zE=>qZ F z4 l_1 (kW F z4 l_1 n) i_1 zE
def zBW (F:Nat) (z4:Int) (l_1:List (zB)):Option (List (zB)) :=
  (kW F z4 l_1 F (0:Int) ([]:List zB)).bind fun (o_1:(List zB)) =>
  some o_1
def kV (F:Nat) (h_1:zL) (l_1:List (zB)) (rec:Int→Option (Unit⊕(zQ×Int))) (i_1:Int):Option (Unit⊕(zQ×Int)) :=
  (bif decide (i_1<(((l_1).length:Nat):Int)) then (xD l_1 i_1).bind fun x_1=>(zBV F x_1).bind fun r_2 =>
  (bif (r_2 != (0:Int)) then some (.inr ((⟨(⟨[],[],[]⟩:zL),[]⟩:zQ),r_2)) else
  (xD l_1 i_1).bind fun x_2=>(zBX F h_1 x_2.Thread).bind fun r_3 =>
  (bif !r_3 then some (.inr ((⟨(⟨[],[],[]⟩:zL),[]⟩:zQ),(5:Int))) else
  (need ((0:Int)≤i_1∧i_1≤(((l_1).length:Nat):Int))).bind fun _=>(xD l_1 i_1).bind fun x_3=>(zAr F (sub l_1 (0:Int) i_1) x_3).bind fun r_4 =>
  (bif !r_4 then some (.inr ((⟨(⟨[],[],[]⟩:zL),[]⟩:zQ),(11:Int))) else
  rec (zR (i_1+(1:Int)))))) else
  some (.inl ()))
def zAL (F:Nat) (h_1:zL) (l_1:List (zB)):Nat→Int→Option (Unit⊕(zQ×Int))
  | 0,_=>none
  | n+1,i_1=>kV F h_1 l_1 (zAL F h_1 l_1 n) i_1
def kU (F:Nat) (h_1:zL) (l_1:List (zB)) (rec:Int→(List zB)→Option (List zB)) (t_1:Int) (zE:List zB):Option (List zB) :=
  (bif decide (t_1<(((h_1.Threads).length:Nat):Int)) then (xD h_1.Threads t_1).bind fun x_4=>(zBW F x_4.Id l_1).bind fun r_6=>(need (((zE).length+(r_6).length) * 48≤140737488355328)).bind fun _ =>
  rec (zR (t_1+(1:Int))) (zE++r_6) else
  some zE)
def zAQ (F:Nat) (h_1:zL) (l_1:List (zB)):Nat→Int→(List zB)→Option (List zB)
  | 0,_,_=>none
  | n+1,t_1,zE=>kU F h_1 l_1 (zAQ F h_1 l_1 n) t_1 zE
def zFa (F:Nat) (h_1:zL) (l_1:List (zB)):Option (zQ×Int) :=
  (zCy F h_1).bind fun r_1 =>
  (bif (r_1 != (0:Int)) then some ((⟨(⟨[],[],[]⟩:zL),[]⟩:zQ),r_1) else
  (zAL F h_1 l_1 F (0:Int)).bind fun (o_1:Unit⊕(zQ×Int)) =>
  (match o_1 with
  | (.inl q_1) =>
  (zA1 F l_1).bind fun r_5 =>
  (bif decide (r_5>(20000:Int)) then some ((⟨(⟨[],[],[]⟩:zL),[]⟩:zQ),(7:Int)) else
  (zAQ F h_1 l_1 F (0:Int) []).bind fun (o_2:(List zB)) =>
  some ((⟨h_1,o_2⟩:zQ),(0:Int)))
  | (.inr q_2) =>
  some q_2))
def v5 (F:Nat) (a_1:zL) (b_1:zL) (rec:Int→Option (Unit⊕Bool)) (i_1:Int):Option (Unit⊕Bool) :=
  (bif decide (i_1<(((a_1.Threads).length:Nat):Int)) then (xD a_1.Threads i_1).bind fun x_1=>(xD b_1.Threads i_1).bind fun x_2 =>
  (bif (!(decide (x_1=x_2))) then some (.inr false) else
  rec (zR (i_1+(1:Int)))) else
  some (.inl ()))
def j3 (F:Nat) (a_1:zL) (b_1:zL):Nat→Int→Option (Unit⊕Bool)
  | 0,_=>none
  | n+1,i_1=>v5 F a_1 b_1 (j3 F a_1 b_1 n) i_1
def v8 (F:Nat) (a_1:zL) (b_1:zL) (rec:Int→Option (Unit⊕Bool)) (i_2:Int):Option (Unit⊕Bool) :=
  (bif decide (i_2<(((a_1.Domains).length:Nat):Int)) then (xD a_1.Domains i_2).bind fun x_3=>(xD b_1.Domains i_2).bind fun x_4 =>
  (bif (!(decide (x_3=x_4))) then some (.inr false) else
  rec (zR (i_2+(1:Int)))) else
  some (.inl ()))
def jZ (F:Nat) (a_1:zL) (b_1:zL):Nat→Int→Option (Unit⊕Bool)
  | 0,_=>none
  | n+1,i_2=>v8 F a_1 b_1 (jZ F a_1 b_1 n) i_2
def v4 (F:Nat) (a_1:zL) (b_1:zL) (rec:Int→Option (Unit⊕Bool)) (i_3:Int):Option (Unit⊕Bool) :=
  (bif decide (i_3<(((a_1.Snaps).length:Nat):Int)) then (xD a_1.Snaps i_3).bind fun x_5=>(xD b_1.Snaps i_3).bind fun x_6 =>
  (bif (!(decide (x_5=x_6))) then some (.inr false) else
  rec (zR (i_3+(1:Int)))) else
  some (.inl ()))
def jR (F:Nat) (a_1:zL) (b_1:zL):Nat→Int→Option (Unit⊕Bool)
  | 0,_=>none
  | n+1,i_3=>v4 F a_1 b_1 (jR F a_1 b_1 n) i_3
def nE (F:Nat) (a_1:zL) (b_1:zL):Option Bool :=
  (bif (((((a_1.Threads).length:Nat):Int) != (((b_1.Threads).length:Nat):Int))||(((((a_1.Domains).length:Nat):Int) != (((b_1.Domains).length:Nat):Int))||((((a_1.Snaps).length:Nat):Int) != (((b_1.Snaps).length:Nat):Int)))) then some false else
  (j3 F a_1 b_1 F (0:Int)).bind fun (o_1:Unit⊕Bool) =>
  (match o_1 with
  | (.inl q_1) =>
  (jZ F a_1 b_1 F (0:Int)).bind fun (o_2:Unit⊕Bool) =>
  (match o_2 with
  | (.inl q_3) =>
  (jR F a_1 b_1 F (0:Int)).bind fun (o_3:Unit⊕Bool) =>
  (match o_3 with
  | (.inl q_5) =>
  some true
  | (.inr q_6) =>
  some q_6)
  | (.inr q_4) =>
  some q_4)
  | (.inr q_2) =>
  some q_2))
def u7 (F:Nat) (a_1:List (List Int)) (b_1:List (List Int)) (rec:Int→Option (Unit⊕Bool)) (i_1:Int):Option (Unit⊕Bool) :=
  (bif decide (i_1<(((a_1).length:Nat):Int)) then (xD a_1 i_1).bind fun x_1=>(xD b_1 i_1).bind fun x_2 =>
  (bif !(x_1==x_2) then some (.inr false) else
  rec (zR (i_1+(1:Int)))) else
  some (.inl ()))
def nG (F:Nat) (a_1:List (List Int)) (b_1:List (List Int)):Nat→Int→Option (Unit⊕Bool)
  | 0,_=>none
  | n+1,i_1=>u7 F a_1 b_1 (nG F a_1 b_1 n) i_1
def zBN (F:Nat) (a_1:List (List Int)) (b_1:List (List Int)):Option Bool :=
  (bif ((((a_1).length:Nat):Int) != (((b_1).length:Nat):Int)) then some false else
  (nG F a_1 b_1 F (0:Int)).bind fun (o_1:Unit⊕Bool) =>
  (match o_1 with
  | (.inl q_1) =>
  some true
  | (.inr q_2) =>
  some q_2))
def zCz (F:Nat) (a_1:zK) (b_1:zK):Option Bool :=
  ((bif (a_1.At==b_1.At) then (bif (a_1.Kind==b_1.Kind) then (bif (a_1.Name==b_1.Name) then (bif (a_1.N==b_1.N) then (bif (a_1.M==b_1.M) then ((zBN F a_1.Stack b_1.Stack).bind fun r_1=>some r_1) else (some false)) else (some false)) else (some false)) else (some false)) else (some false))).bind fun (p_1:Bool) =>
  some p_1
def tR (F:Nat) (a_1:zB) (b_1:zB) (rec:Int→Option (Unit⊕Bool)) (i_1:Int):Option (Unit⊕Bool) :=
  (bif decide (i_1<(((a_1.Events).length:Nat):Int)) then (xD a_1.Events i_1).bind fun x_1=>(xD b_1.Events i_1).bind fun x_2=>(zCz F x_1 x_2).bind fun r_1 =>
  (bif !r_1 then some (.inr false) else
  rec (zR (i_1+(1:Int)))) else
  some (.inl ()))
def zAq (F:Nat) (a_1:zB) (b_1:zB):Nat→Int→Option (Unit⊕Bool)
  | 0,_=>none
  | n+1,i_1=>tR F a_1 b_1 (zAq F a_1 b_1 n) i_1
def zCp (F:Nat) (a_1:zB) (b_1:zB):Option Bool :=
  (bif ((a_1.Thread != b_1.Thread)||((a_1.Serial != b_1.Serial)||((a_1.Lost != b_1.Lost)||((((a_1.Events).length:Nat):Int) != (((b_1.Events).length:Nat):Int))))) then some false else
  (zAq F a_1 b_1 F (0:Int)).bind fun (o_1:Unit⊕Bool) =>
  (match o_1 with
  | (.inl q_1) =>
  some true
  | (.inr q_2) =>
  some q_2))
def vL (F:Nat) (a_1:List (zB)) (b_1:List (zB)) (rec:Int→Option (Unit⊕Bool)) (i_1:Int):Option (Unit⊕Bool) :=
  (bif decide (i_1<(((a_1).length:Nat):Int)) then (xD a_1 i_1).bind fun x_1=>(xD b_1 i_1).bind fun x_2=>(zCp F x_1 x_2).bind fun r_1 =>
  (bif !r_1 then some (.inr false) else
  rec (zR (i_1+(1:Int)))) else
  some (.inl ()))
def qH (F:Nat) (a_1:List (zB)) (b_1:List (zB)):Nat→Int→Option (Unit⊕Bool)
  | 0,_=>none
  | n+1,i_1=>vL F a_1 b_1 (qH F a_1 b_1 n) i_1
def jV (F:Nat) (a_1:List (zB)) (b_1:List (zB)):Option Bool :=
  (bif ((((a_1).length:Nat):Int) != (((b_1).length:Nat):Int)) then some false else
  (qH F a_1 b_1 F (0:Int)).bind fun (o_1:Unit⊕Bool) =>
  (match o_1 with
  | (.inl q_1) =>
  some true
  | (.inr q_2) =>
  some q_2))
def zCI (F:Nat) (a_1:zQ) (b_1:zQ):Option Bool :=
  (((nE F a_1.Head b_1.Head).bind fun r_1=>bif r_1 then ((jV F a_1.Parts b_1.Parts).bind fun r_2=>some r_2) else (some false))).bind fun (p_1:Bool) =>
  some p_1
def k0 (F:Nat) (h_1:zL) (l_1:List (zB)):Option Bool :=
  (zBQ F h_1 l_1).bind fun r_1 =>
  (bif !r_1 then (zAO F).bind fun r_2 =>
  some r_2 else
  (zBe F h_1 l_1).bind fun r_3 =>
  (zFa F h_1 l_1).bind fun r_4 =>
  ((bif (r_3.2==r_4.2) then ((zCI F r_3.1 r_4.1).bind fun r_5=>bif r_5 then ((zBz F r_3.1 r_4.1).bind fun r_6=>bif r_6 then ((zAO F).bind fun r_7=>some r_7) else (some false)) else (some false)) else (some false))).bind fun (p_1:Bool) =>
  some p_1)
end Go.Ab
