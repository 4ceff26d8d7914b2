/- Printed: the typed Lean functions of the Go functions, or the proofs that the Go functions meet them. No conditions but those that the theorems name. -/
import Derived.Test.YtbifmbdcejggkaaA35
import Derived.Test.YtbifmbdcejggkaaA50
namespace Go.Ab
open Go
set_option linter.unusedVariables false

structure zO where
  Id:Int
  Name:List Int
  Domain:Int
  deriving DecidableEq,Inhabited
def z0 (s:zO):List AV:=[.int .i64 s.Id,.str s.Name,.int .i64 s.Domain]
def zF (s:zO):AV:=.agg (z0 s)

structure zK where
  Id:Int
  Ppm:Int
  deriving DecidableEq,Inhabited
def vX (s:zK):List AV:=[.int .i64 s.Id,.int .i64 s.Ppm]
def zE (s:zK):AV:=.agg (vX s)

structure kV where
  Lo:Int
  Hi:Int
  deriving DecidableEq,Inhabited
structure xY where
  A:Int
  AtA:Int
  B:Int
  AtB:kV
  deriving DecidableEq,Inhabited
def uB (s:xY):List AV:=[.int .i64 s.A,.int .i64 s.AtA,.int .i64 s.B,.int .i64 s.AtB.Lo,.int .i64 s.AtB.Hi]
def zN (s:xY):AV:=.agg (uB s)

structure zT where
  Threads:List (zO)
  Domains:List (zK)
  Snaps:List (xY)
  deriving DecidableEq,Inhabited
def zS (s:zT):List AV:=[.sl false 3 (List.map zF s.Threads),.sl false 2 (List.map zE s.Domains),.sl false 5 (List.map zN s.Snaps)]
def y9 (s:zT):AV:=.agg (zS s)

structure zH where
  At:Int
  Kind:Int
  Name:List Int
  N:Int
  M:Int
  Stack:List (List Int)
  deriving DecidableEq,Inhabited
def z7 (s:zH):List AV:=[.int .i64 s.At,.int .i64 s.Kind,.str s.Name,.int .i64 s.N,.int .i64 s.M,.sl false 1 (List.map AV.str s.Stack)]
def zD (s:zH):AV:=.agg (z7 s)

structure zB where
  Thread:Int
  Serial:Int
  Lost:Int
  Events:List (zH)
  deriving DecidableEq,Inhabited
def zR (s:zB):List AV:=[.int .i64 s.Thread,.int .i64 s.Serial,.int .i64 s.Lost,.sl false 6 (List.map zD s.Events)]
def zA (s:zB):AV:=.agg (zR s)

def uJ (F:Nat) (l_1:List (zB)) (rec:Int→Int→Option Int) (n_1:Int) (v_1:Int):Option Int :=
  (bif decide (v_1<(((l_1).length:Nat):Int)) then (wD l_1 v_1).bind fun x_1 =>
  rec (zP (n_1+(((x_1.Events).length:Nat):Int))) (zP (v_1+(1:Int))) else
  some n_1)

def uN (F:Nat) (l_1:List (zB)):Nat→Int→Int→Option Int
  | 0,_,_=>none
  | n+1,n_1,v_1=>uJ F l_1 (uN F l_1 n) n_1 v_1

def zAM (F:Nat) (h_1:zT) (l_1:List (zB)):Option Bool :=
  (uN F l_1 F (0:Int) (0:Int)).bind fun (o_1:Int) =>
  some (decide ((((h_1.Threads).length:Nat):Int)≤(70:Int))&&(decide ((((h_1.Domains).length:Nat):Int)≤(10:Int))&&(decide ((((h_1.Snaps).length:Nat):Int)≤(20:Int))&&(decide ((((l_1).length:Nat):Int)≤(30:Int))&&decide (o_1≤(3000:Int))))))


def pD (F:Nat) (w7:List (Int)) (rec:Int→(List zH)→Option (List zH)) (v_1:Int) (zC:List zH):Option (List zH) :=
  (bif decide (v_1<(((w7).length:Nat):Int)) then (wD w7 v_1).bind fun x_1 =>
  (need (((zC).length+(([(⟨x_1,(3:Int),([97]:List Int),(0:Int),(0:Int),[]⟩:zH)]:List zH)).length) * 72≤140737488355328)).bind fun _ =>
  rec (zP (v_1+(1:Int))) (zC++([(⟨x_1,(3:Int),([97]:List Int),(0:Int),(0:Int),[]⟩:zH)]:List zH)) else
  some zC)

def nV (F:Nat) (w7:List (Int)):Nat→Int→(List zH)→Option (List zH)
  | 0,_,_=>none
  | n+1,v_1,zC=>pD F w7 (nV F w7 n) v_1 zC

def nE (F:Nat) (wJ:Int) (vI:Int) (w7:List (Int)):Option zB :=
  (nV F w7 F (0:Int) []).bind fun (o_1:(List zH)) =>
  some (⟨(1:Int),wJ,vI,o_1⟩:zB)


def tS (s_1:List Int) (c_1:Int):Option Int :=
  some (uE s_1 c_1)


def wT (s_1:List Int) (c_1:Int):Option Int :=
  (tS s_1 c_1).bind fun r_1 =>
  some r_1


def j5 (c_1:Int):Option Bool :=
  ((bif decide (c_1≥(97:Int)) then (bif decide (c_1≤(122:Int)) then (some true) else (bif decide (c_1≥(65:Int)) then (bif decide (c_1≤(90:Int)) then (some true) else (bif decide (c_1≥(48:Int)) then (bif decide (c_1≤(57:Int)) then (some true) else ((wT ([95,46,58,47,60,62,36,42,126,45]:List Int) c_1).bind fun r_1=>some (decide (r_1≥(0:Int))))) else ((wT ([95,46,58,47,60,62,36,42,126,45]:List Int) c_1).bind fun r_1=>some (decide (r_1≥(0:Int)))))) else (bif decide (c_1≥(48:Int)) then (bif decide (c_1≤(57:Int)) then (some true) else ((wT ([95,46,58,47,60,62,36,42,126,45]:List Int) c_1).bind fun r_1=>some (decide (r_1≥(0:Int))))) else ((wT ([95,46,58,47,60,62,36,42,126,45]:List Int) c_1).bind fun r_1=>some (decide (r_1≥(0:Int))))))) else (bif decide (c_1≥(65:Int)) then (bif decide (c_1≤(90:Int)) then (some true) else (bif decide (c_1≥(48:Int)) then (bif decide (c_1≤(57:Int)) then (some true) else ((wT ([95,46,58,47,60,62,36,42,126,45]:List Int) c_1).bind fun r_1=>some (decide (r_1≥(0:Int))))) else ((wT ([95,46,58,47,60,62,36,42,126,45]:List Int) c_1).bind fun r_1=>some (decide (r_1≥(0:Int)))))) else (bif decide (c_1≥(48:Int)) then (bif decide (c_1≤(57:Int)) then (some true) else ((wT ([95,46,58,47,60,62,36,42,126,45]:List Int) c_1).bind fun r_1=>some (decide (r_1≥(0:Int))))) else ((wT ([95,46,58,47,60,62,36,42,126,45]:List Int) c_1).bind fun r_1=>some (decide (r_1≥(0:Int)))))))).bind fun (p_1:Bool) =>
  some p_1


def tA (F:Nat) (s_1:List Int) (rec:Int→Option (Unit⊕Int)) (v_1:Int):Option (Unit⊕Int) :=
  (bif decide (v_1<(((s_1).length:Nat):Int)) then (wD s_1 v_1).bind fun c_1=>(j5 c_1).bind fun r_1 =>
  (bif !r_1 then some (.inr (3:Int)) else
  rec (zP (v_1+(1:Int)))) else
  some (.inl ()))

def jG (F:Nat) (s_1:List Int):Nat→Int→Option (Unit⊕Int)
  | 0,_=>none
  | n+1,v_1=>tA F s_1 (jG F s_1 n) v_1

def qV (F:Nat) (s_1:List Int):Option Int :=
  (bif ((s_1==([]:List Int))||decide ((((s_1).length:Nat):Int)>(40:Int))) then some (3:Int) else
  (jG F s_1 F (0:Int)).bind fun (o_1:Unit⊕Int) =>
  (match o_1 with
  | (.inl q_1) =>
  some (0:Int)
  | (.inr q_2) =>
  some q_2))


def qT (F:Nat) (t_1:zO):Option Int :=
  (bif (decide (t_1.Id<(0:Int))||(decide (t_1.Id>(1000000000000000:Int))||(decide (t_1.Domain<(0:Int))||decide (t_1.Domain≥(8:Int))))) then some (2:Int) else
  (qV F t_1.Name).bind fun r_1 =>
  some r_1)


def pR (x_1:zK) (a_1:Int):Option Bool :=
  some (x_1.Id==a_1)


def yM (F:Nat) (s_1:List (zK)) (c_1:Int) (rec:Int→Option (Unit⊕Int)) (v_1:Int):Option (Unit⊕Int) :=
  (bif decide (v_1<(((s_1).length:Nat):Int)) then (wD s_1 v_1).bind fun x_1=>(pR x_1 c_1).bind fun r_1 =>
  (bif r_1 then some (.inr v_1) else
  rec (zP (v_1+(1:Int)))) else
  some (.inl ()))

def y4 (F:Nat) (s_1:List (zK)) (c_1:Int):Nat→Int→Option (Unit⊕Int)
  | 0,_=>none
  | n+1,v_1=>yM F s_1 c_1 (y4 F s_1 c_1 n) v_1

def xA (F:Nat) (s_1:List (zK)) (c_1:Int):Option Int :=
  (y4 F s_1 c_1 F (0:Int)).bind fun (o_1:Unit⊕Int) =>
  (match o_1 with
  | (.inl q_1) =>
  some (-1:Int)
  | (.inr q_2) =>
  some q_2)


def qX (F:Nat) (d_1:List (zK)) (xM:Int):Option Int :=
  (xA F d_1 xM).bind fun r_1 =>
  some r_1


def vN (F:Nat) (d_1:List (zK)) (rec:Int→Option (Unit⊕Int)) (v_1:Int):Option (Unit⊕Int) :=
  (bif decide (v_1<(((d_1).length:Nat):Int)) then (wD d_1 v_1).bind fun x_1 =>
  (bif (decide (x_1.Id<(0:Int))||(decide (x_1.Id≥(8:Int))||(decide (x_1.Ppm<(0:Int))||decide (x_1.Ppm>(10000:Int))))) then some (.inr (2:Int)) else
  (need ((0:Int)≤v_1∧v_1≤(((d_1).length:Nat):Int))).bind fun _=>(qX F (sub d_1 (0:Int) v_1) x_1.Id).bind fun r_1 =>
  (bif decide (r_1≥(0:Int)) then some (.inr (4:Int)) else
  rec (zP (v_1+(1:Int))))) else
  some (.inl ()))

def qC (F:Nat) (d_1:List (zK)):Nat→Int→Option (Unit⊕Int)
  | 0,_=>none
  | n+1,v_1=>vN F d_1 (qC F d_1 n) v_1

def j9 (F:Nat) (d_1:List (zK)):Option Int :=
  (qC F d_1 F (0:Int)).bind fun (o_1:Unit⊕Int) =>
  (match o_1 with
  | (.inl q_1) =>
  some (0:Int)
  | (.inr q_2) =>
  some q_2)


def qJ (n_1:Int):Option Bool :=
  some (decide (n_1≥(0:Int))&&decide (n_1≤(1000000000000:Int)))


def nU (F:Nat) (d_1:List (zK)) (x_1:xY):Option Int :=
  (qX F d_1 x_1.A).bind fun r_1 =>
  (((bif decide (r_1<(0:Int)) then some (decide (r_1<(0:Int))) else
  (qX F d_1 x_1.B).bind fun r_2 =>
  some (decide (r_2<(0:Int)))):Option Bool)).bind fun (o_1:Bool) =>
  (bif o_1 then some (5:Int) else
  (bif (x_1.A==x_1.B) then some (1:Int) else
  (qJ x_1.AtA).bind fun r_3 =>
  (bif !r_3 then some (2:Int) else
  (qJ x_1.AtB.Lo).bind fun r_4 =>
  (bif !r_4 then some (2:Int) else
  (qJ x_1.AtB.Hi).bind fun r_5 =>
  (bif !r_5 then some (2:Int) else
  (bif decide (x_1.AtB.Lo>x_1.AtB.Hi) then some (2:Int) else
  some (0:Int)))))))


def vZ (F:Nat) (d_1:List (zK)) (l_1:List (xY)) (rec:Int→Option (Unit⊕Int)) (v_1:Int):Option (Unit⊕Int) :=
  (bif decide (v_1<(((l_1).length:Nat):Int)) then (wD l_1 v_1).bind fun x_2 =>
  (nU F d_1 x_2).bind fun r_2 =>
  (bif (r_2 != (0:Int)) then some (.inr r_2) else
  rec (zP (v_1+(1:Int)))) else
  some (.inl ()))

def jF (F:Nat) (d_1:List (zK)) (l_1:List (xY)):Nat→Int→Option (Unit⊕Int)
  | 0,_=>none
  | n+1,v_1=>vZ F d_1 l_1 (jF F d_1 l_1 n) v_1

def pN (F:Nat) (d_1:List (zK)) (l_1:List (xY)):Option Int :=
  (bif ((((d_1).length:Nat):Int)==(0:Int)) then some (8:Int) else
  (bif (decide ((((d_1).length:Nat):Int)>(8:Int))||decide ((((l_1).length:Nat):Int)>(200:Int))) then some (7:Int) else
  (wD d_1 (0:Int)).bind fun x_1 =>
  (bif (!(decide (x_1=(⟨(0:Int),(0:Int)⟩:zK)))) then some (10:Int) else
  (j9 F d_1).bind fun r_1 =>
  (bif (r_1 != (0:Int)) then some r_1 else
  (jF F d_1 l_1 F (0:Int)).bind fun (o_1:Unit⊕Int) =>
  (match o_1 with
  | (.inl q_1) =>
  some (0:Int)
  | (.inr q_2) =>
  some q_2)))))


def zAx (d_1:zK) (a_1:zO):Option Bool :=
  some (d_1.Id==a_1.Domain)


def yJ (F:Nat) (s_1:List (zK)) (c_1:zO) (rec:Int→Option (Unit⊕Int)) (v_1:Int):Option (Unit⊕Int) :=
  (bif decide (v_1<(((s_1).length:Nat):Int)) then (wD s_1 v_1).bind fun x_1=>(zAx x_1 c_1).bind fun r_1 =>
  (bif r_1 then some (.inr v_1) else
  rec (zP (v_1+(1:Int)))) else
  some (.inl ()))

def y2 (F:Nat) (s_1:List (zK)) (c_1:zO):Nat→Int→Option (Unit⊕Int)
  | 0,_=>none
  | n+1,v_1=>yJ F s_1 c_1 (y2 F s_1 c_1 n) v_1

def y5 (F:Nat) (s_1:List (zK)) (c_1:zO):Option Int :=
  (y2 F s_1 c_1 F (0:Int)).bind fun (o_1:Unit⊕Int) =>
  (match o_1 with
  | (.inl q_1) =>
  some (-1:Int)
  | (.inr q_2) =>
  some q_2)


def xL (F:Nat) (s_1:List (zK)) (c_1:zO):Option Bool :=
  (y5 F s_1 c_1).bind fun r_1 =>
  some (decide (r_1≥(0:Int)))


def tX (F:Nat) (h_1:zT) (rec:Int→(List (Int×Bool))→Option (Unit⊕Int)) (v_1:Int) (zC:List (Int×Bool)):Option (Unit⊕Int) :=
  (bif decide (v_1<(((h_1.Threads).length:Nat):Int)) then (wD h_1.Threads v_1).bind fun x_1 =>
  (qT F x_1).bind fun r_1 =>
  (bif (r_1 != (0:Int)) then some (.inr r_1) else
  (bif ((z9 zC x_1.Id).getD false) then some (.inr (4:Int)) else
  (need ((zC).length<140737488355328)).bind fun _ =>
  rec (zP (v_1+(1:Int))) (v6 zC x_1.Id true))) else
  some (.inl ()))

def jB (F:Nat) (h_1:zT):Nat→Int→(List (Int×Bool))→Option (Unit⊕Int)
  | 0,_,_=>none
  | n+1,v_1,zC=>tX F h_1 (jB F h_1 n) v_1 zC

def uI (F:Nat) (h_1:zT) (rec:Int→Option (Unit⊕Int)) (v_2:Int):Option (Unit⊕Int) :=
  (bif decide (v_2<(((h_1.Threads).length:Nat):Int)) then (wD h_1.Threads v_2).bind fun x_2 =>
  (xL F h_1.Domains x_2).bind fun r_3 =>
  (bif !r_3 then some (.inr (5:Int)) else
  rec (zP (v_2+(1:Int)))) else
  some (.inl ()))

def jH (F:Nat) (h_1:zT):Nat→Int→Option (Unit⊕Int)
  | 0,_=>none
  | n+1,v_2=>uI F h_1 (jH F h_1 n) v_2

def zAK (F:Nat) (h_1:zT):Option Int :=
  (bif ((((h_1.Threads).length:Nat):Int)==(0:Int)) then some (8:Int) else
  (bif decide ((((h_1.Threads).length:Nat):Int)>(64:Int)) then some (7:Int) else
  (jB F h_1 F (0:Int) []).bind fun (o_1:Unit⊕Int) =>
  (match o_1 with
  | (.inl q_1) =>
  (pN F h_1.Domains h_1.Snaps).bind fun r_2 =>
  (bif (r_2 != (0:Int)) then some r_2 else
  (jH F h_1 F (0:Int)).bind fun (o_2:Unit⊕Int) =>
  (match o_2 with
  | (.inl q_3) =>
  some (0:Int)
  | (.inr q_4) =>
  some q_4))
  | (.inr q_2) =>
  some q_2)))


structure z8 where
  Head:zT
  Parts:List (zB)
  deriving DecidableEq,Inhabited
def yU (s:z8):List AV:=[.sl false 3 (List.map zF s.Head.Threads),.sl false 2 (List.map zE s.Head.Domains),.sl false 5 (List.map zN s.Head.Snaps),.sl false 4 (List.map zA s.Parts)]
def yF (s:z8):AV:=.agg (yU s)

structure y3 where
  next:Int
  last:Int
  deriving DecidableEq,Inhabited
def y7 (s:y3):List AV:=[.int .i64 s.next,.int .i64 s.last]
def yR (s:y3):AV:=.agg (y7 s)

structure zL where
  word:List Int
  name:Bool
  n:Bool
  m:Bool
  stack:Bool
  least:Int
  most:Int
  mLeast:Int
  mMost:Int
  deriving DecidableEq,Inhabited
def yC (s:zL):List AV:=[.str s.word,.bool s.name,.bool s.n,.bool s.m,.bool s.stack,.int .i64 s.least,.int .i64 s.most,.int .i64 s.mLeast,.int .i64 s.mMost]
def xX (s:zL):AV:=.agg (yC s)

def kC:Option (List (zL)) :=
  some ([(⟨([]:List Int),false,false,false,false,(0:Int),(0:Int),(0:Int),(0:Int)⟩:zL),(⟨([98,101,103,105,110]:List Int),true,false,false,false,(0:Int),(0:Int),(0:Int),(0:Int)⟩:zL),(⟨([101,110,100]:List Int),false,false,false,false,(0:Int),(0:Int),(0:Int),(0:Int)⟩:zL),(⟨([109,97,114,107]:List Int),true,false,false,false,(0:Int),(0:Int),(0:Int),(0:Int)⟩:zL),(⟨([99,111,117,110,116]:List Int),true,true,false,false,(-1000000000000000:Int),(1000000000000000:Int),(0:Int),(0:Int)⟩:zL),(⟨([115,97,109,112,108,101]:List Int),false,true,false,true,(1:Int),(1000000000000:Int),(0:Int),(0:Int)⟩:zL),(⟨([115,101,110,100]:List Int),false,true,false,false,(0:Int),(1000000000000000:Int),(0:Int),(0:Int)⟩:zL),(⟨([114,101,99,118]:List Int),false,true,false,false,(0:Int),(1000000000000000:Int),(0:Int),(0:Int)⟩:zL),(⟨([114,117,110]:List Int),false,true,false,false,(0:Int),(63:Int),(0:Int),(0:Int)⟩:zL),(⟨([115,116,111,112]:List Int),false,true,true,false,(0:Int),(3:Int),(0:Int),(1000000000000000:Int)⟩:zL),(⟨([119,97,107,101]:List Int),false,true,false,false,(0:Int),(1000000000000000:Int),(0:Int),(0:Int)⟩:zL),(⟨([97,108,108,111,99]:List Int),false,true,true,true,(0:Int),(1000000000000000:Int),(1:Int),(1000000000000:Int)⟩:zL),(⟨([102,114,101,101]:List Int),false,true,false,false,(0:Int),(1000000000000000:Int),(0:Int),(0:Int)⟩:zL)]:List zL)


def kJ (k_1:Int):Option (zL×Bool) :=
  (kC ).bind fun r_1 =>
  (bif (decide (k_1<(1:Int))||decide (k_1≥(((r_1).length:Nat):Int))) then some ((⟨([]:List Int),false,false,false,false,(0:Int),(0:Int),(0:Int),(0:Int)⟩:zL),false) else
  (wD r_1 k_1).bind fun x_1 =>
  some (x_1,true))


def uX (F:Nat) (l_1:List (List Int)) (rec:Int→Option (Unit⊕Int)) (v_1:Int):Option (Unit⊕Int) :=
  (bif decide (v_1<(((l_1).length:Nat):Int)) then (wD l_1 v_1).bind fun x_1 =>
  (qV F x_1).bind fun r_1 =>
  (bif (r_1 != (0:Int)) then some (.inr r_1) else
  rec (zP (v_1+(1:Int)))) else
  some (.inl ()))

def qF (F:Nat) (l_1:List (List Int)):Nat→Int→Option (Unit⊕Int)
  | 0,_=>none
  | n+1,v_1=>uX F l_1 (qF F l_1 n) v_1

def j8 (F:Nat) (l_1:List (List Int)):Option Int :=
  (bif decide ((((l_1).length:Nat):Int)>(32:Int)) then some (7:Int) else
  (qF F l_1 F (0:Int)).bind fun (o_1:Unit⊕Int) =>
  (match o_1 with
  | (.inl q_1) =>
  some (0:Int)
  | (.inr q_2) =>
  some q_2))


def pQ (F:Nat) (f_1:zL) (e_1:zH):Option Int :=
  (bif f_1.name then (qV F e_1.Name).bind fun r_1 =>
  some r_1 else
  (j8 F e_1.Stack).bind fun r_2 =>
  some r_2)


def pO (F:Nat) (e_1:zH):Option Int :=
  (bif (decide (e_1.At<(0:Int))||decide (e_1.At>(1000000000000:Int))) then some (2:Int) else
  (kJ e_1.Kind).bind fun r_1 =>
  ((bif !r_1.2 then (some true) else (bif !r_1.1.name then (bif !(e_1.Name==([]:List Int)) then (some true) else (bif !r_1.1.n then (bif (e_1.N != (0:Int)) then (some true) else (bif !r_1.1.m then (bif (e_1.M != (0:Int)) then (some true) else (bif !r_1.1.stack then (some (decide ((((e_1.Stack).length:Nat):Int)>(0:Int)))) else (some false))) else (bif !r_1.1.stack then (some (decide ((((e_1.Stack).length:Nat):Int)>(0:Int)))) else (some false)))) else (bif !r_1.1.m then (bif (e_1.M != (0:Int)) then (some true) else (bif !r_1.1.stack then (some (decide ((((e_1.Stack).length:Nat):Int)>(0:Int)))) else (some false))) else (bif !r_1.1.stack then (some (decide ((((e_1.Stack).length:Nat):Int)>(0:Int)))) else (some false))))) else (bif !r_1.1.n then (bif (e_1.N != (0:Int)) then (some true) else (bif !r_1.1.m then (bif (e_1.M != (0:Int)) then (some true) else (bif !r_1.1.stack then (some (decide ((((e_1.Stack).length:Nat):Int)>(0:Int)))) else (some false))) else (bif !r_1.1.stack then (some (decide ((((e_1.Stack).length:Nat):Int)>(0:Int)))) else (some false)))) else (bif !r_1.1.m then (bif (e_1.M != (0:Int)) then (some true) else (bif !r_1.1.stack then (some (decide ((((e_1.Stack).length:Nat):Int)>(0:Int)))) else (some false))) else (bif !r_1.1.stack then (some (decide ((((e_1.Stack).length:Nat):Int)>(0:Int)))) else (some false))))))).bind fun (p_1:Bool) =>
  (bif p_1 then some (1:Int) else
  (pQ F r_1.1 e_1).bind fun r_2 =>
  (bif (r_2 != (0:Int)) then some r_2 else
  (bif (r_1.1.n&&(decide (e_1.N<r_1.1.least)||decide (e_1.N>r_1.1.most))) then some (2:Int) else
  (bif ((e_1.Kind==(9:Int))&&((e_1.N != (2:Int))&&(e_1.M != (0:Int)))) then some (1:Int) else
  (bif (r_1.1.m&&(bif decide (e_1.M<r_1.1.mLeast) then ((e_1.Kind != (9:Int))||(e_1.N==(2:Int))) else (decide (e_1.M>r_1.1.mMost)&&((e_1.Kind != (9:Int))||(e_1.N==(2:Int)))))) then some (2:Int) else
  some (0:Int)))))))


def uM (F:Nat) (l_1:List (zH)) (rec:Int→Option (Unit⊕Int)) (v_1:Int):Option (Unit⊕Int) :=
  (bif decide (v_1<(((l_1).length:Nat):Int)) then (wD l_1 v_1).bind fun x_1 =>
  (pO F x_1).bind fun r_1 =>
  (bif (r_1 != (0:Int)) then some (.inr r_1) else
  ((bif decide (v_1>(0:Int)) then ((wD l_1 (zP (v_1 - (1:Int)))).bind fun x_2=>some (decide (x_1.At<x_2.At))) else (some false))).bind fun (p_1:Bool) =>
  (bif p_1 then some (.inr (11:Int)) else
  rec (zP (v_1+(1:Int))))) else
  some (.inl ()))

def u6 (F:Nat) (l_1:List (zH)):Nat→Int→Option (Unit⊕Int)
  | 0,_=>none
  | n+1,v_1=>uM F l_1 (u6 F l_1 n) v_1

def jM (F:Nat) (l_1:List (zH)):Option Int :=
  (u6 F l_1 F (0:Int)).bind fun (o_1:Unit⊕Int) =>
  (match o_1 with
  | (.inl q_1) =>
  some (0:Int)
  | (.inr q_2) =>
  some q_2)


def wY (F:Nat) (p_1:zB) (rec:Int→Option (Unit⊕Int)) (v_1:Int):Option (Unit⊕Int) :=
  (bif decide (v_1<((3:Nat):Int)) then (wD ([p_1.Thread,p_1.Serial,p_1.Lost]:List Int) v_1).bind fun x_1 =>
  (bif (decide (x_1<(0:Int))||decide (x_1>(1000000000000000:Int))) then some (.inr (2:Int)) else
  rec (zP (v_1+(1:Int)))) else
  some (.inl ()))

def qQ (F:Nat) (p_1:zB):Nat→Int→Option (Unit⊕Int)
  | 0,_=>none
  | n+1,v_1=>wY F p_1 (qQ F p_1 n) v_1

def jD (F:Nat) (p_1:zB):Option Int :=
  (qQ F p_1 F (0:Int)).bind fun (o_1:Unit⊕Int) =>
  (match o_1 with
  | (.inl q_1) =>
  (((bif decide (p_1.Lost>p_1.Serial) then some (decide (p_1.Lost>p_1.Serial)) else
  some (decide ((zP (p_1.Serial+(((p_1.Events).length:Nat):Int)))>(1000000000000000:Int)))):Option Bool)).bind fun (o_2:Bool) =>
  (bif o_2 then some (2:Int) else
  (bif ((((p_1.Events).length:Nat):Int)==(0:Int)) then some (8:Int) else
  (bif decide ((((p_1.Events).length:Nat):Int)>(1000:Int)) then some (7:Int) else
  (jM F p_1.Events).bind fun r_1 =>
  some r_1)))
  | (.inr q_2) =>
  some q_2)


def qD (t_1:y3) (p_1:zB):Option Bool :=
  ((bif ((zP (p_1.Serial - p_1.Lost))==t_1.next) then ((wD p_1.Events (0:Int)).bind fun x_1=>some (decide (x_1.At≥t_1.last))) else (some false))).bind fun (p_2:Bool) =>
  some p_2


def qB (t_1:y3) (p_1:zB):Option y3 :=
  (wD p_1.Events (zP ((((p_1.Events).length:Nat):Int) - (1:Int)))).bind fun x_1 =>
  some (⟨zP (p_1.Serial+(((p_1.Events).length:Nat):Int)),x_1.At⟩:y3)


def tZ (F:Nat) (h_1:zT) (rec:Int→(List (Int×y3))→Option (List (Int×y3))) (v_1:Int) (zC:List (Int×y3)):Option (List (Int×y3)) :=
  (bif decide (v_1<(((h_1.Threads).length:Nat):Int)) then (wD h_1.Threads v_1).bind fun x_1 =>
  (need ((zC).length<140737488355328)).bind fun _ =>
  rec (zP (v_1+(1:Int))) (v6 zC x_1.Id (⟨(0:Int),(0:Int)⟩:y3)) else
  some zC)

def tP (F:Nat) (h_1:zT):Nat→Int→(List (Int×y3))→Option (List (Int×y3))
  | 0,_,_=>none
  | n+1,v_1,zC=>tZ F h_1 (tP F h_1 n) v_1 zC

def tV (F:Nat) (l_1:List (zB)) (rec:Int→Int→(List (Int×y3))→Option (Int⊕Int)) (vQ:Int) (v_2:Int) (yK:List (Int×y3)):Option (Int⊕Int) :=
  (bif decide (v_2<(((l_1).length:Nat):Int)) then (wD l_1 v_2).bind fun x_2 =>
  (jD F x_2).bind fun r_1 =>
  (bif (r_1 != (0:Int)) then some (.inr r_1) else
  (zJn (z9 yK x_2.Thread) (some (.inr (5:Int))) fun x_3 =>
  (qD x_3 x_2).bind fun r_2 =>
  (bif !r_2 then some (.inr (11:Int)) else
  (qB x_3 x_2).bind fun r_3 =>
  rec (zP (vQ+(((x_2.Events).length:Nat):Int))) (zP (v_2+(1:Int))) (v6 yK x_2.Thread r_3)))) else
  some (.inl vQ))

def tL (F:Nat) (l_1:List (zB)):Nat→Int→Int→(List (Int×y3))→Option (Int⊕Int)
  | 0,_,_,_=>none
  | n+1,vQ,v_2,yK=>tV F l_1 (tL F l_1 n) vQ v_2 yK

def zAO (F:Nat) (h_1:zT) (l_1:List (zB)):Option Int :=
  (tP F h_1 F (0:Int) ([]:List (Int×y3))).bind fun (o_1:(List (Int×y3))) =>
  (tL F l_1 F (0:Int) (0:Int) o_1).bind fun (o_2:Int⊕Int) =>
  (match o_2 with
  | (.inl q_1) =>
  (bif decide (q_1>(20000:Int)) then some (7:Int) else
  some (0:Int))
  | (.inr q_2) =>
  some q_2)


def yB (s:zB):List AV:=[.int .i64 s.Thread,.int .i64 s.Serial,.int .i64 s.Lost]
def yN (l:List zB):AV:=.tuple [.sl false 4 (List.map zA (ini l)),.bool (!l.isEmpty),.agg (yB (lst l)),.sl false 6 (List.map zD (lst l).Events)]

def qG (F:Nat) (rec:(List zH)→(List zB)→Option (List zB)) (zQ:List zH) (zC:List zB):Option (List zB) :=
  (bif decide ((((zQ).length:Nat):Int)>(0:Int)) then (need ((0:Int)≤(zP ((((zC).length:Nat):Int) - (1:Int)))∧(zP ((((zC).length:Nat):Int) - (1:Int)))<(((zC).length:Nat):Int))).bind fun _ =>
  (need ((zP ((((zC).length:Nat):Int) - (1:Int))).toNat+1=(zC).length)).bind fun _ =>
  (bif ((x4 (zP ((1000:Int) - ((((lst zC).Events).length:Nat):Int))) (((zQ).length:Nat):Int))==(0:Int)) then (need ((zP ((((zC).length:Nat):Int) - (1:Int))).toNat+1=(zC).length)).bind fun _=>(need ((zP ((((zC).length:Nat):Int) - (1:Int))).toNat+1=(zC).length)).bind fun _=>(need (((zC).length+1) * 48≤140737488355328)).bind fun _ =>
  rec zQ (zC++[(⟨(lst zC).Thread,zP (((lst zC).Serial)+(1000:Int)),(0:Int),[]⟩:zB)]) else
  (need ((zP ((((zC).length:Nat):Int) - (1:Int))).toNat+1=(zC).length)).bind fun _=>(need ((0:Int)≤(x4 (zP ((1000:Int) - ((((lst zC).Events).length:Nat):Int))) (((zQ).length:Nat):Int))∧(x4 (zP ((1000:Int) - ((((lst zC).Events).length:Nat):Int))) (((zQ).length:Nat):Int))≤(((zQ).length:Nat):Int))).bind fun _=>(need ((((lst zC).Events).length+(sub zQ (0:Int) (x4 (zP ((1000:Int) - ((((lst zC).Events).length:Nat):Int))) (((zQ).length:Nat):Int))).length) * 72≤140737488355328)).bind fun _=>(need ((zP ((((zC).length:Nat):Int) - (1:Int))).toNat+1=(zC).length)).bind fun _ =>
  (need ((0:Int)≤(x4 (zP ((1000:Int) - ((((lst zC).Events).length:Nat):Int))) (((zQ).length:Nat):Int))∧(x4 (zP ((1000:Int) - ((((lst zC).Events).length:Nat):Int))) (((zQ).length:Nat):Int))≤(((zQ).length:Nat):Int))).bind fun _ =>
  rec (sub zQ (x4 (zP ((1000:Int) - ((((lst zC).Events).length:Nat):Int))) (((zQ).length:Nat):Int)) (((zQ).length:Nat):Int)) ((ini zC)++[(⟨(lst zC).Thread,(lst zC).Serial,(lst zC).Lost,(((lst zC).Events)++(sub zQ (0:Int) (x4 (zP ((1000:Int) - ((((lst zC).Events).length:Nat):Int))) (((zQ).length:Nat):Int))))⟩:zB)])) else
  some zC)

def pM (F:Nat):Nat→(List zH)→(List zB)→Option (List zB)
  | 0,_,_=>none
  | n+1,zQ,zC=>qG F (pM F n) zQ zC

def zBk (F:Nat) (vY:List (zB)) (events_1:List (zH)):Option (List (zB)) :=
  (pM F F events_1 vY).bind fun (o_1:(List zB)) =>
  some o_1


def jA (F:Nat) (l_1:List (zB)) (rec:Int→(List (Int×(List (zB))))→Option (List (Int×(List (zB))))) (v_1:Int) (zC:List (Int×(List (zB)))):Option (List (Int×(List (zB)))) :=
  (bif decide (v_1<(((l_1).length:Nat):Int)) then (wD l_1 v_1).bind fun x_1 =>
  (((bif (decide (x_1.Lost>(0:Int))||((((((z9 zC x_1.Thread).getD [])).length:Nat):Int)==(0:Int))) then (need (((((z9 zC x_1.Thread).getD [])).length+1) * 48≤140737488355328)).bind fun _ =>
  some (((z9 zC x_1.Thread).getD [])++[(⟨x_1.Thread,x_1.Serial,x_1.Lost,[]⟩:zB)]) else
  some ((z9 zC x_1.Thread).getD [])):Option (List zB))).bind fun (o_2:(List zB)) =>
  (zBk F o_2 x_1.Events).bind fun r_3=>(need ((zC).length<140737488355328)).bind fun _ =>
  rec (zP (v_1+(1:Int))) (v6 zC x_1.Thread r_3) else
  some zC)

def jQ (F:Nat) (l_1:List (zB)):Nat→Int→(List (Int×(List (zB))))→Option (List (Int×(List (zB))))
  | 0,_,_=>none
  | n+1,v_1,zC=>jA F l_1 (jQ F l_1 n) v_1 zC

def jI (F:Nat) (h_1:zT) (o_1:(List (Int×(List (zB))))) (rec:Int→(List zB)→Option (List zB)) (v_2:Int) (yK:List zB):Option (List zB) :=
  (bif decide (v_2<(((h_1.Threads).length:Nat):Int)) then (wD h_1.Threads v_2).bind fun x_2 =>
  (need (((yK).length+(((z9 o_1 x_2.Id).getD [])).length) * 48≤140737488355328)).bind fun _ =>
  rec (zP (v_2+(1:Int))) (yK++((z9 o_1 x_2.Id).getD [])) else
  some yK)

def p0 (F:Nat) (h_1:zT) (o_1:(List (Int×(List (zB))))):Nat→Int→(List zB)→Option (List zB)
  | 0,_,_=>none
  | n+1,v_2,yK=>jI F h_1 o_1 (p0 F h_1 o_1 n) v_2 yK

def pJ (F:Nat) (h_1:zT) (l_1:List (zB)):Option (z8×Int) :=
  (zAK F h_1).bind fun r_1 =>
  (bif (r_1 != (0:Int)) then some ((⟨(⟨[],[],[]⟩:zT),[]⟩:z8),r_1) else
  (zAO F h_1 l_1).bind fun r_2 =>
  (bif (r_2 != (0:Int)) then some ((⟨(⟨[],[],[]⟩:zT),[]⟩:z8),r_2) else
  (jQ F l_1 F (0:Int) ([]:List (Int×(List (zB))))).bind fun (o_1:(List (Int×(List (zB))))) =>
  (p0 F h_1 o_1 F (0:Int) []).bind fun (o_3:(List zB)) =>
  some ((⟨h_1,o_3⟩:z8),(0:Int))))


def yO (F:Nat) (s1_1:List (zO)) (s2_1:List (zO)) (rec:Int→Option (Unit⊕Bool)) (v_1:Int):Option (Unit⊕Bool) :=
  (bif decide (v_1<(((s1_1).length:Nat):Int)) then (wD s1_1 v_1).bind fun x_1=>(wD s2_1 v_1).bind fun x_2 =>
  (bif (!(decide (x_1=x_2))) then some (.inr false) else
  rec (zP (v_1+(1:Int)))) else
  some (.inl ()))

def xE (F:Nat) (s1_1:List (zO)) (s2_1:List (zO)):Nat→Int→Option (Unit⊕Bool)
  | 0,_=>none
  | n+1,v_1=>yO F s1_1 s2_1 (xE F s1_1 s2_1 n) v_1

def xG (F:Nat) (s1_1:List (zO)) (s2_1:List (zO)):Option Bool :=
  (bif ((((s1_1).length:Nat):Int) != (((s2_1).length:Nat):Int)) then some false else
  (xE F s1_1 s2_1 F (0:Int)).bind fun (o_1:Unit⊕Bool) =>
  (match o_1 with
  | (.inl q_1) =>
  some true
  | (.inr q_2) =>
  some q_2))


def yP (F:Nat) (s1_1:List (zK)) (s2_1:List (zK)) (rec:Int→Option (Unit⊕Bool)) (v_1:Int):Option (Unit⊕Bool) :=
  (bif decide (v_1<(((s1_1).length:Nat):Int)) then (wD s1_1 v_1).bind fun x_1=>(wD s2_1 v_1).bind fun x_2 =>
  (bif (!(decide (x_1=x_2))) then some (.inr false) else
  rec (zP (v_1+(1:Int)))) else
  some (.inl ()))

def xD (F:Nat) (s1_1:List (zK)) (s2_1:List (zK)):Nat→Int→Option (Unit⊕Bool)
  | 0,_=>none
  | n+1,v_1=>yP F s1_1 s2_1 (xD F s1_1 s2_1 n) v_1

def xH (F:Nat) (s1_1:List (zK)) (s2_1:List (zK)):Option Bool :=
  (bif ((((s1_1).length:Nat):Int) != (((s2_1).length:Nat):Int)) then some false else
  (xD F s1_1 s2_1 F (0:Int)).bind fun (o_1:Unit⊕Bool) =>
  (match o_1 with
  | (.inl q_1) =>
  some true
  | (.inr q_2) =>
  some q_2))


def yY (F:Nat) (s1_1:List (xY)) (s2_1:List (xY)) (rec:Int→Option (Unit⊕Bool)) (v_1:Int):Option (Unit⊕Bool) :=
  (bif decide (v_1<(((s1_1).length:Nat):Int)) then (wD s1_1 v_1).bind fun x_1=>(wD s2_1 v_1).bind fun x_2 =>
  (bif (!(decide (x_1=x_2))) then some (.inr false) else
  rec (zP (v_1+(1:Int)))) else
  some (.inl ()))

def xI (F:Nat) (s1_1:List (xY)) (s2_1:List (xY)):Nat→Int→Option (Unit⊕Bool)
  | 0,_=>none
  | n+1,v_1=>yY F s1_1 s2_1 (xI F s1_1 s2_1 n) v_1

def xN (F:Nat) (s1_1:List (xY)) (s2_1:List (xY)):Option Bool :=
  (bif ((((s1_1).length:Nat):Int) != (((s2_1).length:Nat):Int)) then some false else
  (xI F s1_1 s2_1 F (0:Int)).bind fun (o_1:Unit⊕Bool) =>
  (match o_1 with
  | (.inl q_1) =>
  some true
  | (.inr q_2) =>
  some q_2))


def x6 (F:Nat) (s1_1:List (List Int)) (s2_1:List (List Int)) (rec:Int→Option (Unit⊕Bool)) (v_1:Int):Option (Unit⊕Bool) :=
  (bif decide (v_1<(((s1_1).length:Nat):Int)) then (wD s1_1 v_1).bind fun x_1=>(wD s2_1 v_1).bind fun x_2 =>
  (bif !(x_1==x_2) then some (.inr false) else
  rec (zP (v_1+(1:Int)))) else
  some (.inl ()))

def vH (F:Nat) (s1_1:List (List Int)) (s2_1:List (List Int)):Nat→Int→Option (Unit⊕Bool)
  | 0,_=>none
  | n+1,v_1=>x6 F s1_1 s2_1 (vH F s1_1 s2_1 n) v_1

def vV (F:Nat) (s1_1:List (List Int)) (s2_1:List (List Int)):Option Bool :=
  (bif ((((s1_1).length:Nat):Int) != (((s2_1).length:Nat):Int)) then some false else
  (vH F s1_1 s2_1 F (0:Int)).bind fun (o_1:Unit⊕Bool) =>
  (match o_1 with
  | (.inl q_1) =>
  some true
  | (.inr q_2) =>
  some q_2))


def nR (F:Nat) (a_1:zH) (b_1:zH):Option Bool :=
  ((bif (a_1.At==b_1.At) then (bif (a_1.Kind==b_1.Kind) then (bif (a_1.Name==b_1.Name) then (bif (a_1.N==b_1.N) then (bif (a_1.M==b_1.M) then ((vV F a_1.Stack b_1.Stack).bind fun r_1=>some r_1) else (some false)) else (some false)) else (some false)) else (some false)) else (some false))).bind fun (p_1:Bool) =>
  some p_1


def z5 (F:Nat) (s1_1:List (zH)) (s2_1:List (zH)) (rec:Int→Option (Unit⊕Bool)) (v_1:Int):Option (Unit⊕Bool) :=
  (bif decide (v_1<(((s1_1).length:Nat):Int)) then (wD s1_1 v_1).bind fun x_1 =>
  (wD s2_1 v_1).bind fun x_2 =>
  (nR F x_1 x_2).bind fun r_1 =>
  (bif !r_1 then some (.inr false) else
  rec (zP (v_1+(1:Int)))) else
  some (.inl ()))

def yE (F:Nat) (s1_1:List (zH)) (s2_1:List (zH)):Nat→Int→Option (Unit⊕Bool)
  | 0,_=>none
  | n+1,v_1=>z5 F s1_1 s2_1 (yE F s1_1 s2_1 n) v_1

def yS (F:Nat) (s1_1:List (zH)) (s2_1:List (zH)):Option Bool :=
  (bif ((((s1_1).length:Nat):Int) != (((s2_1).length:Nat):Int)) then some false else
  (yE F s1_1 s2_1 F (0:Int)).bind fun (o_1:Unit⊕Bool) =>
  (match o_1 with
  | (.inl q_1) =>
  some true
  | (.inr q_2) =>
  some q_2))


def pI (F:Nat) (a_1:zB) (b_1:zB):Option Bool :=
  ((bif (a_1.Thread==b_1.Thread) then (bif (a_1.Serial==b_1.Serial) then (bif (a_1.Lost==b_1.Lost) then ((yS F a_1.Events b_1.Events).bind fun r_1=>some r_1) else (some false)) else (some false)) else (some false))).bind fun (p_1:Bool) =>
  some p_1


def zAY (F:Nat) (p_1:zB) (q_1:zB):Option Bool :=
  (pI F p_1 q_1).bind fun r_1 =>
  some r_1


def zZ (F:Nat) (s1_1:List (zB)) (s2_1:List (zB)) (rec:Int→Option (Unit⊕Bool)) (v_1:Int):Option (Unit⊕Bool) :=
  (bif decide (v_1<(((s1_1).length:Nat):Int)) then (wD s1_1 v_1).bind fun x_1 =>
  (wD s2_1 v_1).bind fun x_2 =>
  (zAY F x_1 x_2).bind fun r_1 =>
  (bif !r_1 then some (.inr false) else
  rec (zP (v_1+(1:Int)))) else
  some (.inl ()))

def yA (F:Nat) (s1_1:List (zB)) (s2_1:List (zB)):Nat→Int→Option (Unit⊕Bool)
  | 0,_=>none
  | n+1,v_1=>zZ F s1_1 s2_1 (yA F s1_1 s2_1 n) v_1

def yD (F:Nat) (s1_1:List (zB)) (s2_1:List (zB)):Option Bool :=
  (bif ((((s1_1).length:Nat):Int) != (((s2_1).length:Nat):Int)) then some false else
  (yA F s1_1 s2_1 F (0:Int)).bind fun (o_1:Unit⊕Bool) =>
  (match o_1 with
  | (.inl q_1) =>
  some true
  | (.inr q_2) =>
  some q_2))


def zAf (F:Nat) (a_1:z8) (b_1:z8):Option Bool :=
  (((xG F a_1.Head.Threads b_1.Head.Threads).bind fun r_1=>bif r_1 then ((xH F a_1.Head.Domains b_1.Head.Domains).bind fun r_2=>bif r_2 then ((xN F a_1.Head.Snaps b_1.Head.Snaps).bind fun r_3=>bif r_3 then ((yD F a_1.Parts b_1.Parts).bind fun r_4=>some r_4) else (some false)) else (some false)) else (some false))).bind fun (p_1:Bool) =>
  some p_1


def zAG (F:Nat) (l_1:z8):Option Int :=
  (pJ F l_1.Head l_1.Parts).bind fun r_1 =>
  ((bif (r_1.2==(0:Int)) then ((zAf F r_1.1 l_1).bind fun r_2=>some (!r_2)) else (some false))).bind fun (p_1:Bool) =>
  (bif p_1 then some (10:Int) else
  some r_1.2)


structure yH where
  Thread:Int
  Serial:Int
  Count:Int
  deriving DecidableEq,Inhabited
def zD8 (s:yH):List AV:=[.int .i64 s.Thread,.int .i64 s.Serial,.int .i64 s.Count]
def yL (s:yH):AV:=.agg (zD8 s)

def pV (F:Nat) (l_1:z8) (rec:Int→(List yH)→Option (List yH)) (v_1:Int) (zC:List yH):Option (List yH) :=
  (bif decide (v_1<(((l_1.Parts).length:Nat):Int)) then (wD l_1.Parts v_1).bind fun x_1 =>
  (bif decide (x_1.Lost>(0:Int)) then (need (((zC).length+(([(⟨x_1.Thread,zP (x_1.Serial - x_1.Lost),x_1.Lost⟩:yH)]:List yH)).length) * 24≤140737488355328)).bind fun _ =>
  rec (zP (v_1+(1:Int))) (zC++([(⟨x_1.Thread,zP (x_1.Serial - x_1.Lost),x_1.Lost⟩:yH)]:List yH)) else
  rec (zP (v_1+(1:Int))) zC) else
  some zC)

def zAE (F:Nat) (l_1:z8):Nat→Int→(List yH)→Option (List yH)
  | 0,_,_=>none
  | n+1,v_1,zC=>pV F l_1 (zAE F l_1 n) v_1 zC

def zEG (F:Nat) (l_1:z8):Option (List (yH)) :=
  (zAG F l_1).bind fun r_1 =>
  (bif (r_1 != (0:Int)) then some [] else
  (zAE F l_1 F (0:Int) []).bind fun (o_1:(List yH)) =>
  some o_1)


structure u0 where
  Thread:Int
  Serial:Int
  deriving DecidableEq,Inhabited
def uH (s:u0):List AV:=[.int .i64 s.Thread,.int .i64 s.Serial]
def zFa (s:u0):AV:=.agg (uH s)

def nY (F:Nat) (l_1:z8) (xM:u0) (rec:Int→Option (Unit⊕(zH×Bool))) (v_1:Int):Option (Unit⊕(zH×Bool)) :=
  (bif decide (v_1<(((l_1.Parts).length:Nat):Int)) then (wD l_1.Parts v_1).bind fun x_1 =>
  (bif ((x_1.Thread==xM.Thread)&&(decide (xM.Serial≥x_1.Serial)&&decide (xM.Serial<(zP (x_1.Serial+(((x_1.Events).length:Nat):Int)))))) then (wD x_1.Events (zP (xM.Serial - x_1.Serial))).bind fun x_2 =>
  some (.inr (x_2,true)) else
  rec (zP (v_1+(1:Int)))) else
  some (.inl ()))

def zAX (F:Nat) (l_1:z8) (xM:u0):Nat→Int→Option (Unit⊕(zH×Bool))
  | 0,_=>none
  | n+1,v_1=>nY F l_1 xM (zAX F l_1 xM n) v_1

def zFZ (F:Nat) (l_1:z8) (xM:u0):Option (zH×Bool) :=
  (zAG F l_1).bind fun r_1 =>
  (bif (r_1 != (0:Int)) then some ((⟨(0:Int),(0:Int),([]:List Int),(0:Int),(0:Int),[]⟩:zH),false) else
  (zAX F l_1 xM F (0:Int)).bind fun (o_1:Unit⊕(zH×Bool)) =>
  (match o_1 with
  | (.inl q_1) =>
  some ((⟨(0:Int),(0:Int),([]:List Int),(0:Int),(0:Int),[]⟩:zH),false)
  | (.inr q_2) =>
  some q_2))


def nJ (F:Nat):Option Bool :=
  (nE F (0:Int) (0:Int) ([(1:Int),(2:Int)]:List Int)).bind fun r_1=>(nE F (2:Int) (0:Int) ([(2:Int),(3:Int)]:List Int)).bind fun r_2=>(pJ F (⟨([(⟨(1:Int),([116,49]:List Int),(0:Int)⟩:zO)]:List zO),([(⟨(0:Int),(0:Int)⟩:zK)]:List zK),[]⟩:zT) ([r_1,r_2]:List zB)).bind fun r_3 =>
  (nE F (3:Int) (3:Int) ([(5:Int)]:List Int)).bind fun r_4=>(pJ F (⟨([(⟨(1:Int),([116,49]:List Int),(0:Int)⟩:zO)]:List zO),([(⟨(0:Int),(0:Int)⟩:zK)]:List zK),[]⟩:zT) ([r_4]:List zB)).bind fun r_5 =>
  (nE F (3:Int) (2:Int) ([(5:Int)]:List Int)).bind fun r_6=>(pJ F (⟨([(⟨(1:Int),([116,49]:List Int),(0:Int)⟩:zO)]:List zO),([(⟨(0:Int),(0:Int)⟩:zK)]:List zK),[]⟩:zT) ([r_6]:List zB)).bind fun r_7 =>
  (zEG F r_5.1).bind fun r_8 =>
  (zFZ F r_3.1 (⟨(1:Int),(3:Int)⟩:u0)).bind fun r_9 =>
  ((bif (r_3.2==(0:Int)) then (bif ((((r_3.1.Parts).length:Nat):Int)==(1:Int)) then ((wD r_3.1.Parts (0:Int)).bind fun x_1=>bif ((((x_1.Events).length:Nat):Int)==(4:Int)) then (bif (r_5.2==(0:Int)) then (bif ((((r_8).length:Nat):Int)==(1:Int)) then ((wD r_8 (0:Int)).bind fun x_2=>bif (decide (x_2=(⟨(1:Int),(0:Int),(3:Int)⟩:yH))) then (bif (r_7.2==(11:Int)) then (bif r_9.2 then (bif (r_9.1.At==(3:Int)) then ((zAG F r_3.1).bind fun r_10=>some (r_10==(0:Int))) else (some false)) else (some false)) else (some false)) else (some false)) else (some false)) else (some false)) else (some false)) else (some false)) else (some false))).bind fun (p_1:Bool) =>
  some p_1


def xJ (s_1:List (zH)):Option (List (zH)) :=
  (need (((([]:List zH)).length+(s_1).length) * 72≤140737488355328)).bind fun _ =>
  some ([]++s_1)


def jE (F:Nat) (p_1:zB) (n_1:Int):Option (zB×zB×Bool) :=
  (((jD F p_1).bind fun r_1=>bif (r_1 != (0:Int)) then (some true) else (bif decide (n_1<(1:Int)) then (some true) else (some (decide (n_1≥(((p_1.Events).length:Nat):Int))))))).bind fun (p_2:Bool) =>
  (bif p_2 then some ((⟨(0:Int),(0:Int),(0:Int),[]⟩:zB),(⟨(0:Int),(0:Int),(0:Int),[]⟩:zB),false) else
  (need ((0:Int)≤n_1∧n_1≤(((p_1.Events).length:Nat):Int))).bind fun _=>(xJ (sub p_1.Events n_1 (((p_1.Events).length:Nat):Int))).bind fun r_2 =>
  (need ((0:Int)≤n_1∧n_1≤(((p_1.Events).length:Nat):Int))).bind fun _=>(xJ (sub p_1.Events (0:Int) n_1)).bind fun r_3 =>
  some ((⟨p_1.Thread,p_1.Serial,p_1.Lost,r_3⟩:zB),(⟨p_1.Thread,zP (p_1.Serial+n_1),(0:Int),r_2⟩:zB),true))


def uP (F:Nat) (l_1:List (zB)) (xR:List (Int)) (x9:Int) (rec:Int→(List zB)→(List zB)→Option ((List zB)×(List zB))) (v_1:Int) (zC:List zB) (yK:List zB):Option ((List zB)×(List zB)) :=
  (bif decide (v_1<(((l_1).length:Nat):Int)) then (wD l_1 v_1).bind fun x_1 =>
  (((bif decide (v_1<(((xR).length:Nat):Int)) then (wD xR v_1).bind fun x_2=>(jE F x_1 x_2).bind fun r_5 =>
  (bif r_5.2.2 then some ([r_5.1,r_5.2.1]:List zB) else
  some ([x_1]:List zB)) else
  some ([x_1]:List zB)):Option (List zB))).bind fun (o_2:(List zB)) =>
  (bif (x_1.Thread==x9) then (need (((zC).length+(o_2).length) * 48≤140737488355328)).bind fun _ =>
  rec (zP (v_1+(1:Int))) (zC++o_2) yK else
  (need (((yK).length+(o_2).length) * 48≤140737488355328)).bind fun _ =>
  rec (zP (v_1+(1:Int))) zC (yK++o_2)) else
  some (zC,yK))

def u5 (F:Nat) (l_1:List (zB)) (xR:List (Int)) (x9:Int):Nat→Int→(List zB)→(List zB)→Option ((List zB)×(List zB))
  | 0,_,_,_=>none
  | n+1,v_1,zC,yK=>uP F l_1 xR x9 (u5 F l_1 xR x9 n) v_1 zC yK

def tE (F:Nat) (h_1:zT) (l_1:List (zB)) (xR:List (Int)) (x9:Int):Option Bool :=
  (((zAM F h_1 l_1).bind fun r_1=>bif !r_1 then (some true) else (some (decide ((((xR).length:Nat):Int)>(30:Int)))))).bind fun (p_1:Bool) =>
  (bif p_1 then (nJ F).bind fun r_2 =>
  some r_2 else
  (pJ F h_1 l_1).bind fun r_3 =>
  (bif (r_3.2 != (0:Int)) then (nJ F).bind fun r_4 =>
  some r_4 else
  (u5 F l_1 xR x9 F (0:Int) [] []).bind fun (o_1:((List zB)×(List zB))) =>
  (need (((o_1.1).length+(o_1.2).length) * 48≤140737488355328)).bind fun _=>(pJ F h_1 (o_1.1++o_1.2)).bind fun r_6 =>
  ((bif (r_6.2==(0:Int)) then ((zAf F r_3.1 r_6.1).bind fun r_7=>bif r_7 then ((nJ F).bind fun r_8=>some r_8) else (some false)) else (some false))).bind fun (p_2:Bool) =>
  some p_2))


end Go.Ab
