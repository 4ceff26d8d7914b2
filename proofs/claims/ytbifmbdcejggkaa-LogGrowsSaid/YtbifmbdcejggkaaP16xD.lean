/- Printed: the typed Lean functions of the Go functions, or the proofs that the Go functions meet them. No conditions but those that the theorems name. -/
import Derived.Test.YtbifmbdcejggkaaA37
import Derived.Test.YtbifmbdcejggkaaA50
namespace Go.Ab
open Go
set_option linter.unusedVariables false

structure zQ where
  Id:Int
  Name:List Int
  Domain:Int
  deriving DecidableEq,Inhabited
def z4 (s:zQ):List AV:=[.int .i64 s.Id,.str s.Name,.int .i64 s.Domain]
def zG (s:zQ):AV:=.agg (z4 s)

structure zM where
  Id:Int
  Ppm:Int
  deriving DecidableEq,Inhabited
def uD (s:zM):List AV:=[.int .i64 s.Id,.int .i64 s.Ppm]
def zD (s:zM):AV:=.agg (uD s)

structure pI where
  Lo:Int
  Hi:Int
  deriving DecidableEq,Inhabited
structure yC where
  A:Int
  AtA:Int
  B:Int
  AtB:pI
  deriving DecidableEq,Inhabited
def uN (s:yC):List AV:=[.int .i64 s.A,.int .i64 s.AtA,.int .i64 s.B,.int .i64 s.AtB.Lo,.int .i64 s.AtB.Hi]
def zF (s:yC):AV:=.agg (uN s)

structure zS where
  Threads:List (zQ)
  Domains:List (zM)
  Snaps:List (yC)
  deriving DecidableEq,Inhabited
def zX (s:zS):List AV:=[.sl false 3 (List.map zG s.Threads),.sl false 2 (List.map zD s.Domains),.sl false 5 (List.map zF s.Snaps)]
def y6 (s:zS):AV:=.agg (zX s)

structure zI where
  At:Int
  Kind:Int
  Name:List Int
  N:Int
  M:Int
  Stack:List (List Int)
  deriving DecidableEq,Inhabited
def z8 (s:zI):List AV:=[.int .i64 s.At,.int .i64 s.Kind,.str s.Name,.int .i64 s.N,.int .i64 s.M,.sl false 1 (List.map AV.str s.Stack)]
def zE (s:zI):AV:=.agg (z8 s)

structure zB where
  Thread:Int
  Serial:Int
  Lost:Int
  Events:List (zI)
  deriving DecidableEq,Inhabited
def z6 (s:zB):List AV:=[.int .i64 s.Thread,.int .i64 s.Serial,.int .i64 s.Lost,.sl false 6 (List.map zE s.Events)]
def zA (s:zB):AV:=.agg (z6 s)

def uW (F:Nat) (l_1:List (zB)) (rec:Int→Int→Option Int) (n_1:Int) (v_1:Int):Option Int :=
  (bif decide (v_1<(((l_1).length:Nat):Int)) then (wB l_1 v_1).bind fun x_1 =>
  rec (zK (n_1+(((x_1.Events).length:Nat):Int))) (zK (v_1+(1:Int))) else
  some n_1)

def u2 (F:Nat) (l_1:List (zB)):Nat→Int→Int→Option Int
  | 0,_,_=>none
  | n+1,n_1,v_1=>uW F l_1 (u2 F l_1 n) n_1 v_1

def zAZ (F:Nat) (h_1:zS) (l_1:List (zB)):Option Bool :=
  (u2 F l_1 F (0:Int) (0:Int)).bind fun (o_1:Int) =>
  some (decide ((((h_1.Threads).length:Nat):Int)≤(70:Int))&&(decide ((((h_1.Domains).length:Nat):Int)≤(10:Int))&&(decide ((((h_1.Snaps).length:Nat):Int)≤(20:Int))&&(decide ((((l_1).length:Nat):Int)≤(30:Int))&&decide (o_1≤(3000:Int))))))


def pX (F:Nat) (vN:List (Int)) (rec:Int→(List zI)→Option (List zI)) (v_1:Int) (zC:List zI):Option (List zI) :=
  (bif decide (v_1<(((vN).length:Nat):Int)) then (wB vN v_1).bind fun x_1 =>
  (need (((zC).length+(([(⟨x_1,(3:Int),([97]:List Int),(0:Int),(0:Int),[]⟩:zI)]:List zI)).length) * 72≤140737488355328)).bind fun _ =>
  rec (zK (v_1+(1:Int))) (zC++([(⟨x_1,(3:Int),([97]:List Int),(0:Int),(0:Int),[]⟩:zI)]:List zI)) else
  some zC)

def zAo (F:Nat) (vN:List (Int)):Nat→Int→(List zI)→Option (List zI)
  | 0,_,_=>none
  | n+1,v_1,zC=>pX F vN (zAo F vN n) v_1 zC

def zAd (F:Nat) (wY:Int) (vW:Int) (vN:List (Int)):Option zB :=
  (zAo F vN F (0:Int) []).bind fun (o_1:(List zI)) =>
  some (⟨(1:Int),wY,vW,o_1⟩:zB)


def t8 (s_1:List Int) (c_1:Int):Option Int :=
  some (uS s_1 c_1)


def vC (s_1:List Int) (c_1:Int):Option Int :=
  (t8 s_1 c_1).bind fun r_1 =>
  some r_1


def kI (c_1:Int):Option Bool :=
  ((bif decide (c_1≥(97:Int)) then (bif decide (c_1≤(122:Int)) then (some true) else (bif decide (c_1≥(65:Int)) then (bif decide (c_1≤(90:Int)) then (some true) else (bif decide (c_1≥(48:Int)) then (bif decide (c_1≤(57:Int)) then (some true) else ((vC ([95,46,58,47,60,62,36,42,126,45]:List Int) c_1).bind fun r_1=>some (decide (r_1≥(0:Int))))) else ((vC ([95,46,58,47,60,62,36,42,126,45]:List Int) c_1).bind fun r_1=>some (decide (r_1≥(0:Int)))))) else (bif decide (c_1≥(48:Int)) then (bif decide (c_1≤(57:Int)) then (some true) else ((vC ([95,46,58,47,60,62,36,42,126,45]:List Int) c_1).bind fun r_1=>some (decide (r_1≥(0:Int))))) else ((vC ([95,46,58,47,60,62,36,42,126,45]:List Int) c_1).bind fun r_1=>some (decide (r_1≥(0:Int))))))) else (bif decide (c_1≥(65:Int)) then (bif decide (c_1≤(90:Int)) then (some true) else (bif decide (c_1≥(48:Int)) then (bif decide (c_1≤(57:Int)) then (some true) else ((vC ([95,46,58,47,60,62,36,42,126,45]:List Int) c_1).bind fun r_1=>some (decide (r_1≥(0:Int))))) else ((vC ([95,46,58,47,60,62,36,42,126,45]:List Int) c_1).bind fun r_1=>some (decide (r_1≥(0:Int)))))) else (bif decide (c_1≥(48:Int)) then (bif decide (c_1≤(57:Int)) then (some true) else ((vC ([95,46,58,47,60,62,36,42,126,45]:List Int) c_1).bind fun r_1=>some (decide (r_1≥(0:Int))))) else ((vC ([95,46,58,47,60,62,36,42,126,45]:List Int) c_1).bind fun r_1=>some (decide (r_1≥(0:Int)))))))).bind fun (p_1:Bool) =>
  some p_1


def tQ (F:Nat) (s_1:List Int) (rec:Int→Option (Unit⊕Int)) (v_1:Int):Option (Unit⊕Int) :=
  (bif decide (v_1<(((s_1).length:Nat):Int)) then (wB s_1 v_1).bind fun c_1=>(kI c_1).bind fun r_1 =>
  (bif !r_1 then some (.inr (3:Int)) else
  rec (zK (v_1+(1:Int)))) else
  some (.inl ()))

def jT (F:Nat) (s_1:List Int):Nat→Int→Option (Unit⊕Int)
  | 0,_=>none
  | n+1,v_1=>tQ F s_1 (jT F s_1 n) v_1

def jF (F:Nat) (s_1:List Int):Option Int :=
  (bif ((s_1==([]:List Int))||decide ((((s_1).length:Nat):Int)>(40:Int))) then some (3:Int) else
  (jT F s_1 F (0:Int)).bind fun (o_1:Unit⊕Int) =>
  (match o_1 with
  | (.inl q_1) =>
  some (0:Int)
  | (.inr q_2) =>
  some q_2))


def jA (F:Nat) (t_1:zQ):Option Int :=
  (bif (decide (t_1.Id<(0:Int))||(decide (t_1.Id>(1000000000000000:Int))||(decide (t_1.Domain<(0:Int))||decide (t_1.Domain≥(8:Int))))) then some (2:Int) else
  (jF F t_1.Name).bind fun r_1 =>
  some r_1)


def nI (x_1:zM) (a_1:Int):Option Bool :=
  some (x_1.Id==a_1)


def yQ (F:Nat) (s_1:List (zM)) (c_1:Int) (rec:Int→Option (Unit⊕Int)) (v_1:Int):Option (Unit⊕Int) :=
  (bif decide (v_1<(((s_1).length:Nat):Int)) then (wB s_1 v_1).bind fun x_1=>(nI x_1 c_1).bind fun r_1 =>
  (bif r_1 then some (.inr v_1) else
  rec (zK (v_1+(1:Int)))) else
  some (.inl ()))

def xD (F:Nat) (s_1:List (zM)) (c_1:Int):Nat→Int→Option (Unit⊕Int)
  | 0,_=>none
  | n+1,v_1=>yQ F s_1 c_1 (xD F s_1 c_1 n) v_1

def xH (F:Nat) (s_1:List (zM)) (c_1:Int):Option Int :=
  (xD F s_1 c_1 F (0:Int)).bind fun (o_1:Unit⊕Int) =>
  (match o_1 with
  | (.inl q_1) =>
  some (-1:Int)
  | (.inr q_2) =>
  some q_2)


def jH (F:Nat) (d_1:List (zM)) (x4:Int):Option Int :=
  (xH F d_1 x4).bind fun r_1 =>
  some r_1


def v3 (F:Nat) (d_1:List (zM)) (rec:Int→Option (Unit⊕Int)) (v_1:Int):Option (Unit⊕Int) :=
  (bif decide (v_1<(((d_1).length:Nat):Int)) then (wB d_1 v_1).bind fun x_1 =>
  (bif (decide (x_1.Id<(0:Int))||(decide (x_1.Id≥(8:Int))||(decide (x_1.Ppm<(0:Int))||decide (x_1.Ppm>(10000:Int))))) then some (.inr (2:Int)) else
  (need ((0:Int)≤v_1∧v_1≤(((d_1).length:Nat):Int))).bind fun _=>(jH F (sub d_1 (0:Int) v_1) x_1.Id).bind fun r_1 =>
  (bif decide (r_1≥(0:Int)) then some (.inr (4:Int)) else
  rec (zK (v_1+(1:Int))))) else
  some (.inl ()))

def qS (F:Nat) (d_1:List (zM)):Nat→Int→Option (Unit⊕Int)
  | 0,_=>none
  | n+1,v_1=>v3 F d_1 (qS F d_1 n) v_1

def kF (F:Nat) (d_1:List (zM)):Option Int :=
  (qS F d_1 F (0:Int)).bind fun (o_1:Unit⊕Int) =>
  (match o_1 with
  | (.inl q_1) =>
  some (0:Int)
  | (.inr q_2) =>
  some q_2)


def qX (n_1:Int):Option Bool :=
  some (decide (n_1≥(0:Int))&&decide (n_1≤(1000000000000:Int)))


def zAn (F:Nat) (d_1:List (zM)) (x_1:yC):Option Int :=
  (jH F d_1 x_1.A).bind fun r_1 =>
  (((bif decide (r_1<(0:Int)) then some (decide (r_1<(0:Int))) else
  (jH F d_1 x_1.B).bind fun r_2 =>
  some (decide (r_2<(0:Int)))):Option Bool)).bind fun (o_1:Bool) =>
  (bif o_1 then some (5:Int) else
  (bif (x_1.A==x_1.B) then some (1:Int) else
  (qX x_1.AtA).bind fun r_3 =>
  (bif !r_3 then some (2:Int) else
  (qX x_1.AtB.Lo).bind fun r_4 =>
  (bif !r_4 then some (2:Int) else
  (qX x_1.AtB.Hi).bind fun r_5 =>
  (bif !r_5 then some (2:Int) else
  (bif decide (x_1.AtB.Lo>x_1.AtB.Hi) then some (2:Int) else
  some (0:Int)))))))


def uG (F:Nat) (d_1:List (zM)) (l_1:List (yC)) (rec:Int→Option (Unit⊕Int)) (v_1:Int):Option (Unit⊕Int) :=
  (bif decide (v_1<(((l_1).length:Nat):Int)) then (wB l_1 v_1).bind fun x_2 =>
  (zAn F d_1 x_2).bind fun r_2 =>
  (bif (r_2 != (0:Int)) then some (.inr r_2) else
  rec (zK (v_1+(1:Int)))) else
  some (.inl ()))

def jO (F:Nat) (d_1:List (zM)) (l_1:List (yC)):Nat→Int→Option (Unit⊕Int)
  | 0,_=>none
  | n+1,v_1=>uG F d_1 l_1 (jO F d_1 l_1 n) v_1

def p0 (F:Nat) (d_1:List (zM)) (l_1:List (yC)):Option Int :=
  (bif ((((d_1).length:Nat):Int)==(0:Int)) then some (8:Int) else
  (bif (decide ((((d_1).length:Nat):Int)>(8:Int))||decide ((((l_1).length:Nat):Int)>(200:Int))) then some (7:Int) else
  (wB d_1 (0:Int)).bind fun x_1 =>
  (bif (!(decide (x_1=(⟨(0:Int),(0:Int)⟩:zM)))) then some (10:Int) else
  (kF F d_1).bind fun r_1 =>
  (bif (r_1 != (0:Int)) then some r_1 else
  (jO F d_1 l_1 F (0:Int)).bind fun (o_1:Unit⊕Int) =>
  (match o_1 with
  | (.inl q_1) =>
  some (0:Int)
  | (.inr q_2) =>
  some q_2)))))


def zAQ (d_1:zM) (a_1:zQ):Option Bool :=
  some (d_1.Id==a_1.Domain)


def yP (F:Nat) (s_1:List (zM)) (c_1:zQ) (rec:Int→Option (Unit⊕Int)) (v_1:Int):Option (Unit⊕Int) :=
  (bif decide (v_1<(((s_1).length:Nat):Int)) then (wB s_1 v_1).bind fun x_1=>(zAQ x_1 c_1).bind fun r_1 =>
  (bif r_1 then some (.inr v_1) else
  rec (zK (v_1+(1:Int)))) else
  some (.inl ()))

def xA (F:Nat) (s_1:List (zM)) (c_1:zQ):Nat→Int→Option (Unit⊕Int)
  | 0,_=>none
  | n+1,v_1=>yP F s_1 c_1 (xA F s_1 c_1 n) v_1

def xC (F:Nat) (s_1:List (zM)) (c_1:zQ):Option Int :=
  (xA F s_1 c_1 F (0:Int)).bind fun (o_1:Unit⊕Int) =>
  (match o_1 with
  | (.inl q_1) =>
  some (-1:Int)
  | (.inr q_2) =>
  some q_2)


def x3 (F:Nat) (s_1:List (zM)) (c_1:zQ):Option Bool :=
  (xC F s_1 c_1).bind fun r_1 =>
  some (decide (r_1≥(0:Int)))


def qE (F:Nat) (h_1:zS) (rec:Int→(List (Int×Bool))→Option (Unit⊕Int)) (v_1:Int) (zC:List (Int×Bool)):Option (Unit⊕Int) :=
  (bif decide (v_1<(((h_1.Threads).length:Nat):Int)) then (wB h_1.Threads v_1).bind fun x_1 =>
  (jA F x_1).bind fun r_1 =>
  (bif (r_1 != (0:Int)) then some (.inr r_1) else
  (bif ((yA zC x_1.Id).getD false) then some (.inr (4:Int)) else
  (need ((zC).length<140737488355328)).bind fun _ =>
  rec (zK (v_1+(1:Int))) (uI zC x_1.Id true))) else
  some (.inl ()))

def jN (F:Nat) (h_1:zS):Nat→Int→(List (Int×Bool))→Option (Unit⊕Int)
  | 0,_,_=>none
  | n+1,v_1,zC=>qE F h_1 (jN F h_1 n) v_1 zC

def uU (F:Nat) (h_1:zS) (rec:Int→Option (Unit⊕Int)) (v_2:Int):Option (Unit⊕Int) :=
  (bif decide (v_2<(((h_1.Threads).length:Nat):Int)) then (wB h_1.Threads v_2).bind fun x_2 =>
  (x3 F h_1.Domains x_2).bind fun r_3 =>
  (bif !r_3 then some (.inr (5:Int)) else
  rec (zK (v_2+(1:Int)))) else
  some (.inl ()))

def jV (F:Nat) (h_1:zS):Nat→Int→Option (Unit⊕Int)
  | 0,_=>none
  | n+1,v_2=>uU F h_1 (jV F h_1 n) v_2

def zA8 (F:Nat) (h_1:zS):Option Int :=
  (bif ((((h_1.Threads).length:Nat):Int)==(0:Int)) then some (8:Int) else
  (bif decide ((((h_1.Threads).length:Nat):Int)>(64:Int)) then some (7:Int) else
  (jN F h_1 F (0:Int) []).bind fun (o_1:Unit⊕Int) =>
  (match o_1 with
  | (.inl q_1) =>
  (p0 F h_1.Domains h_1.Snaps).bind fun r_2 =>
  (bif (r_2 != (0:Int)) then some r_2 else
  (jV F h_1 F (0:Int)).bind fun (o_2:Unit⊕Int) =>
  (match o_2 with
  | (.inl q_3) =>
  some (0:Int)
  | (.inr q_4) =>
  some q_4))
  | (.inr q_2) =>
  some q_2)))


structure z9 where
  Head:zS
  Parts:List (zB)
  deriving DecidableEq,Inhabited
def y9 (s:z9):List AV:=[.sl false 3 (List.map zG s.Head.Threads),.sl false 2 (List.map zD s.Head.Domains),.sl false 5 (List.map zF s.Head.Snaps),.sl false 4 (List.map zA s.Parts)]
def yB (s:z9):AV:=.agg (y9 s)

structure xB where
  next:Int
  last:Int
  deriving DecidableEq,Inhabited
def xF (s:xB):List AV:=[.int .i64 s.next,.int .i64 s.last]
def yZ (s:xB):AV:=.agg (xF s)

structure zN where
  word:List Int
  name:Bool
  n:Bool
  m:Bool
  stack:Bool
  least:Int
  most:Int
  mLeast:Int
  mMost:Int
  deriving DecidableEq,Inhabited
def yI (s:zN):List AV:=[.str s.word,.bool s.name,.bool s.n,.bool s.m,.bool s.stack,.int .i64 s.least,.int .i64 s.most,.int .i64 s.mLeast,.int .i64 s.mMost]
def wE (s:zN):AV:=.agg (yI s)

def kM:Option (List (zN)) :=
  some ([(⟨([]:List Int),false,false,false,false,(0:Int),(0:Int),(0:Int),(0:Int)⟩:zN),(⟨([98,101,103,105,110]:List Int),true,false,false,false,(0:Int),(0:Int),(0:Int),(0:Int)⟩:zN),(⟨([101,110,100]:List Int),false,false,false,false,(0:Int),(0:Int),(0:Int),(0:Int)⟩:zN),(⟨([109,97,114,107]:List Int),true,false,false,false,(0:Int),(0:Int),(0:Int),(0:Int)⟩:zN),(⟨([99,111,117,110,116]:List Int),true,true,false,false,(-1000000000000000:Int),(1000000000000000:Int),(0:Int),(0:Int)⟩:zN),(⟨([115,97,109,112,108,101]:List Int),false,true,false,true,(1:Int),(1000000000000:Int),(0:Int),(0:Int)⟩:zN),(⟨([115,101,110,100]:List Int),false,true,false,false,(0:Int),(1000000000000000:Int),(0:Int),(0:Int)⟩:zN),(⟨([114,101,99,118]:List Int),false,true,false,false,(0:Int),(1000000000000000:Int),(0:Int),(0:Int)⟩:zN),(⟨([114,117,110]:List Int),false,true,false,false,(0:Int),(63:Int),(0:Int),(0:Int)⟩:zN),(⟨([115,116,111,112]:List Int),false,true,true,false,(0:Int),(3:Int),(0:Int),(1000000000000000:Int)⟩:zN),(⟨([119,97,107,101]:List Int),false,true,false,false,(0:Int),(1000000000000000:Int),(0:Int),(0:Int)⟩:zN),(⟨([97,108,108,111,99]:List Int),false,true,true,true,(0:Int),(1000000000000000:Int),(1:Int),(1000000000000:Int)⟩:zN),(⟨([102,114,101,101]:List Int),false,true,false,false,(0:Int),(1000000000000000:Int),(0:Int),(0:Int)⟩:zN)]:List zN)


def k0 (k_1:Int):Option (zN×Bool) :=
  (kM ).bind fun r_1 =>
  (bif (decide (k_1<(1:Int))||decide (k_1≥(((r_1).length:Nat):Int))) then some ((⟨([]:List Int),false,false,false,false,(0:Int),(0:Int),(0:Int),(0:Int)⟩:zN),false) else
  (wB r_1 k_1).bind fun x_1 =>
  some (x_1,true))


def tB (F:Nat) (l_1:List (List Int)) (rec:Int→Option (Unit⊕Int)) (v_1:Int):Option (Unit⊕Int) :=
  (bif decide (v_1<(((l_1).length:Nat):Int)) then (wB l_1 v_1).bind fun x_1 =>
  (jF F x_1).bind fun r_1 =>
  (bif (r_1 != (0:Int)) then some (.inr r_1) else
  rec (zK (v_1+(1:Int)))) else
  some (.inl ()))

def qO (F:Nat) (l_1:List (List Int)):Nat→Int→Option (Unit⊕Int)
  | 0,_=>none
  | n+1,v_1=>tB F l_1 (qO F l_1 n) v_1

def kE (F:Nat) (l_1:List (List Int)):Option Int :=
  (bif decide ((((l_1).length:Nat):Int)>(32:Int)) then some (7:Int) else
  (qO F l_1 F (0:Int)).bind fun (o_1:Unit⊕Int) =>
  (match o_1 with
  | (.inl q_1) =>
  some (0:Int)
  | (.inr q_2) =>
  some q_2))


def pZ (F:Nat) (f_1:zN) (e_1:zI):Option Int :=
  (bif f_1.name then (jF F e_1.Name).bind fun r_1 =>
  some r_1 else
  (kE F e_1.Stack).bind fun r_2 =>
  some r_2)


def nD (F:Nat) (e_1:zI):Option Int :=
  (bif (decide (e_1.At<(0:Int))||decide (e_1.At>(1000000000000:Int))) then some (2:Int) else
  (k0 e_1.Kind).bind fun r_1 =>
  ((bif !r_1.2 then (some true) else (bif !r_1.1.name then (bif !(e_1.Name==([]:List Int)) then (some true) else (bif !r_1.1.n then (bif (e_1.N != (0:Int)) then (some true) else (bif !r_1.1.m then (bif (e_1.M != (0:Int)) then (some true) else (bif !r_1.1.stack then (some (decide ((((e_1.Stack).length:Nat):Int)>(0:Int)))) else (some false))) else (bif !r_1.1.stack then (some (decide ((((e_1.Stack).length:Nat):Int)>(0:Int)))) else (some false)))) else (bif !r_1.1.m then (bif (e_1.M != (0:Int)) then (some true) else (bif !r_1.1.stack then (some (decide ((((e_1.Stack).length:Nat):Int)>(0:Int)))) else (some false))) else (bif !r_1.1.stack then (some (decide ((((e_1.Stack).length:Nat):Int)>(0:Int)))) else (some false))))) else (bif !r_1.1.n then (bif (e_1.N != (0:Int)) then (some true) else (bif !r_1.1.m then (bif (e_1.M != (0:Int)) then (some true) else (bif !r_1.1.stack then (some (decide ((((e_1.Stack).length:Nat):Int)>(0:Int)))) else (some false))) else (bif !r_1.1.stack then (some (decide ((((e_1.Stack).length:Nat):Int)>(0:Int)))) else (some false)))) else (bif !r_1.1.m then (bif (e_1.M != (0:Int)) then (some true) else (bif !r_1.1.stack then (some (decide ((((e_1.Stack).length:Nat):Int)>(0:Int)))) else (some false))) else (bif !r_1.1.stack then (some (decide ((((e_1.Stack).length:Nat):Int)>(0:Int)))) else (some false))))))).bind fun (p_1:Bool) =>
  (bif p_1 then some (1:Int) else
  (pZ F r_1.1 e_1).bind fun r_2 =>
  (bif (r_2 != (0:Int)) then some r_2 else
  (bif (r_1.1.n&&(decide (e_1.N<r_1.1.least)||decide (e_1.N>r_1.1.most))) then some (2:Int) else
  (bif ((e_1.Kind==(9:Int))&&((e_1.N != (2:Int))&&(e_1.M != (0:Int)))) then some (1:Int) else
  (bif (r_1.1.m&&(bif decide (e_1.M<r_1.1.mLeast) then ((e_1.Kind != (9:Int))||(e_1.N==(2:Int))) else (decide (e_1.M>r_1.1.mMost)&&((e_1.Kind != (9:Int))||(e_1.N==(2:Int)))))) then some (2:Int) else
  some (0:Int)))))))


def u0 (F:Nat) (l_1:List (zI)) (rec:Int→Option (Unit⊕Int)) (v_1:Int):Option (Unit⊕Int) :=
  (bif decide (v_1<(((l_1).length:Nat):Int)) then (wB l_1 v_1).bind fun x_1 =>
  (nD F x_1).bind fun r_1 =>
  (bif (r_1 != (0:Int)) then some (.inr r_1) else
  ((bif decide (v_1>(0:Int)) then ((wB l_1 (zK (v_1 - (1:Int)))).bind fun x_2=>some (decide (x_1.At<x_2.At))) else (some false))).bind fun (p_1:Bool) =>
  (bif p_1 then some (.inr (11:Int)) else
  rec (zK (v_1+(1:Int))))) else
  some (.inl ()))

def tK (F:Nat) (l_1:List (zI)):Nat→Int→Option (Unit⊕Int)
  | 0,_=>none
  | n+1,v_1=>u0 F l_1 (tK F l_1 n) v_1

def jS (F:Nat) (l_1:List (zI)):Option Int :=
  (tK F l_1 F (0:Int)).bind fun (o_1:Unit⊕Int) =>
  (match o_1 with
  | (.inl q_1) =>
  some (0:Int)
  | (.inr q_2) =>
  some q_2)


def vG (F:Nat) (p_1:zB) (rec:Int→Option (Unit⊕Int)) (v_1:Int):Option (Unit⊕Int) :=
  (bif decide (v_1<((3:Nat):Int)) then (wB ([p_1.Thread,p_1.Serial,p_1.Lost]:List Int) v_1).bind fun x_1 =>
  (bif (decide (x_1<(0:Int))||decide (x_1>(1000000000000000:Int))) then some (.inr (2:Int)) else
  rec (zK (v_1+(1:Int)))) else
  some (.inl ()))

def q7 (F:Nat) (p_1:zB):Nat→Int→Option (Unit⊕Int)
  | 0,_=>none
  | n+1,v_1=>vG F p_1 (q7 F p_1 n) v_1

def kV (F:Nat) (p_1:zB):Option Int :=
  (q7 F p_1 F (0:Int)).bind fun (o_1:Unit⊕Int) =>
  (match o_1 with
  | (.inl q_1) =>
  (((bif decide (p_1.Lost>p_1.Serial) then some (decide (p_1.Lost>p_1.Serial)) else
  some (decide ((zK (p_1.Serial+(((p_1.Events).length:Nat):Int)))>(1000000000000000:Int)))):Option Bool)).bind fun (o_2:Bool) =>
  (bif o_2 then some (2:Int) else
  (bif ((((p_1.Events).length:Nat):Int)==(0:Int)) then some (8:Int) else
  (bif decide ((((p_1.Events).length:Nat):Int)>(1000:Int)) then some (7:Int) else
  (jS F p_1.Events).bind fun r_1 =>
  some r_1)))
  | (.inr q_2) =>
  some q_2)


def qQ (t_1:xB) (p_1:zB):Option Bool :=
  ((bif ((zK (p_1.Serial - p_1.Lost))==t_1.next) then ((wB p_1.Events (0:Int)).bind fun x_1=>some (decide (x_1.At≥t_1.last))) else (some false))).bind fun (p_2:Bool) =>
  some p_2


def qK (t_1:xB) (p_1:zB):Option xB :=
  (wB p_1.Events (zK ((((p_1.Events).length:Nat):Int) - (1:Int)))).bind fun x_1 =>
  some (⟨zK (p_1.Serial+(((p_1.Events).length:Nat):Int)),x_1.At⟩:xB)


def qD (F:Nat) (h_1:zS) (rec:Int→(List (Int×xB))→Option (List (Int×xB))) (v_1:Int) (zC:List (Int×xB)):Option (List (Int×xB)) :=
  (bif decide (v_1<(((h_1.Threads).length:Nat):Int)) then (wB h_1.Threads v_1).bind fun x_1 =>
  (need ((zC).length<140737488355328)).bind fun _ =>
  rec (zK (v_1+(1:Int))) (uI zC x_1.Id (⟨(0:Int),(0:Int)⟩:xB)) else
  some zC)

def tX (F:Nat) (h_1:zS):Nat→Int→(List (Int×xB))→Option (List (Int×xB))
  | 0,_,_=>none
  | n+1,v_1,zC=>qD F h_1 (tX F h_1 n) v_1 zC

def qG (F:Nat) (l_1:List (zB)) (rec:Int→Int→(List (Int×xB))→Option (Int⊕Int)) (v7:Int) (v_2:Int) (x6:List (Int×xB)):Option (Int⊕Int) :=
  (bif decide (v_2<(((l_1).length:Nat):Int)) then (wB l_1 v_2).bind fun x_2 =>
  (kV F x_2).bind fun r_1 =>
  (bif (r_1 != (0:Int)) then some (.inr r_1) else
  (zJ1 (yA x6 x_2.Thread) (some (.inr (5:Int))) fun x_3 =>
  (qQ x_3 x_2).bind fun r_2 =>
  (bif !r_2 then some (.inr (11:Int)) else
  (qK x_3 x_2).bind fun r_3 =>
  rec (zK (v7+(((x_2.Events).length:Nat):Int))) (zK (v_2+(1:Int))) (uI x6 x_2.Thread r_3)))) else
  some (.inl v7))

def tZ (F:Nat) (l_1:List (zB)):Nat→Int→Int→(List (Int×xB))→Option (Int⊕Int)
  | 0,_,_,_=>none
  | n+1,v7,v_2,x6=>qG F l_1 (tZ F l_1 n) v7 v_2 x6

def zAY (F:Nat) (h_1:zS) (l_1:List (zB)):Option Int :=
  (tX F h_1 F (0:Int) ([]:List (Int×xB))).bind fun (o_1:(List (Int×xB))) =>
  (tZ F l_1 F (0:Int) (0:Int) o_1).bind fun (o_2:Int⊕Int) =>
  (match o_2 with
  | (.inl q_1) =>
  (bif decide (q_1>(20000:Int)) then some (7:Int) else
  some (0:Int))
  | (.inr q_2) =>
  some q_2)


def yG (s:zB):List AV:=[.int .i64 s.Thread,.int .i64 s.Serial,.int .i64 s.Lost]
def yS (l:List zB):AV:=.tuple [.sl false 4 (List.map zA (ini l)),.bool (!l.isEmpty),.agg (yG (lst l)),.sl false 6 (List.map zE (lst l).Events)]

def qT (F:Nat) (rec:(List zI)→(List zB)→Option (List zB)) (zR:List zI) (zC:List zB):Option (List zB) :=
  (bif decide ((((zR).length:Nat):Int)>(0:Int)) then (need ((0:Int)≤(zK ((((zC).length:Nat):Int) - (1:Int)))∧(zK ((((zC).length:Nat):Int) - (1:Int)))<(((zC).length:Nat):Int))).bind fun _ =>
  (need ((zK ((((zC).length:Nat):Int) - (1:Int))).toNat+1=(zC).length)).bind fun _ =>
  (bif ((wH (zK ((1000:Int) - ((((lst zC).Events).length:Nat):Int))) (((zR).length:Nat):Int))==(0:Int)) then (need ((zK ((((zC).length:Nat):Int) - (1:Int))).toNat+1=(zC).length)).bind fun _=>(need ((zK ((((zC).length:Nat):Int) - (1:Int))).toNat+1=(zC).length)).bind fun _=>(need (((zC).length+1) * 48≤140737488355328)).bind fun _ =>
  rec zR (zC++[(⟨(lst zC).Thread,zK (((lst zC).Serial)+(1000:Int)),(0:Int),[]⟩:zB)]) else
  (need ((zK ((((zC).length:Nat):Int) - (1:Int))).toNat+1=(zC).length)).bind fun _=>(need ((0:Int)≤(wH (zK ((1000:Int) - ((((lst zC).Events).length:Nat):Int))) (((zR).length:Nat):Int))∧(wH (zK ((1000:Int) - ((((lst zC).Events).length:Nat):Int))) (((zR).length:Nat):Int))≤(((zR).length:Nat):Int))).bind fun _=>(need ((((lst zC).Events).length+(sub zR (0:Int) (wH (zK ((1000:Int) - ((((lst zC).Events).length:Nat):Int))) (((zR).length:Nat):Int))).length) * 72≤140737488355328)).bind fun _=>(need ((zK ((((zC).length:Nat):Int) - (1:Int))).toNat+1=(zC).length)).bind fun _ =>
  (need ((0:Int)≤(wH (zK ((1000:Int) - ((((lst zC).Events).length:Nat):Int))) (((zR).length:Nat):Int))∧(wH (zK ((1000:Int) - ((((lst zC).Events).length:Nat):Int))) (((zR).length:Nat):Int))≤(((zR).length:Nat):Int))).bind fun _ =>
  rec (sub zR (wH (zK ((1000:Int) - ((((lst zC).Events).length:Nat):Int))) (((zR).length:Nat):Int)) (((zR).length:Nat):Int)) ((ini zC)++[(⟨(lst zC).Thread,(lst zC).Serial,(lst zC).Lost,(((lst zC).Events)++(sub zR (0:Int) (wH (zK ((1000:Int) - ((((lst zC).Events).length:Nat):Int))) (((zR).length:Nat):Int))))⟩:zB)])) else
  some zC)

def pY (F:Nat):Nat→(List zI)→(List zB)→Option (List zB)
  | 0,_,_=>none
  | n+1,zR,zC=>qT F (pY F n) zR zC

def zBI (F:Nat) (uE:List (zB)) (events_1:List (zI)):Option (List (zB)) :=
  (pY F F events_1 uE).bind fun (o_1:(List zB)) =>
  some o_1


def jU (F:Nat) (l_1:List (zB)) (rec:Int→(List (Int×(List (zB))))→Option (List (Int×(List (zB))))) (v_1:Int) (zC:List (Int×(List (zB)))):Option (List (Int×(List (zB)))) :=
  (bif decide (v_1<(((l_1).length:Nat):Int)) then (wB l_1 v_1).bind fun x_1 =>
  (((bif (decide (x_1.Lost>(0:Int))||((((((yA zC x_1.Thread).getD [])).length:Nat):Int)==(0:Int))) then (need (((((yA zC x_1.Thread).getD [])).length+1) * 48≤140737488355328)).bind fun _ =>
  some (((yA zC x_1.Thread).getD [])++[(⟨x_1.Thread,x_1.Serial,x_1.Lost,[]⟩:zB)]) else
  some ((yA zC x_1.Thread).getD [])):Option (List zB))).bind fun (o_2:(List zB)) =>
  (zBI F o_2 x_1.Events).bind fun r_3=>(need ((zC).length<140737488355328)).bind fun _ =>
  rec (zK (v_1+(1:Int))) (uI zC x_1.Thread r_3) else
  some zC)

def j4 (F:Nat) (l_1:List (zB)):Nat→Int→(List (Int×(List (zB))))→Option (List (Int×(List (zB))))
  | 0,_,_=>none
  | n+1,v_1,zC=>jU F l_1 (j4 F l_1 n) v_1 zC

def jP (F:Nat) (h_1:zS) (o_1:(List (Int×(List (zB))))) (rec:Int→(List zB)→Option (List zB)) (v_2:Int) (x6:List zB):Option (List zB) :=
  (bif decide (v_2<(((h_1.Threads).length:Nat):Int)) then (wB h_1.Threads v_2).bind fun x_2 =>
  (need (((x6).length+(((yA o_1 x_2.Id).getD [])).length) * 48≤140737488355328)).bind fun _ =>
  rec (zK (v_2+(1:Int))) (x6++((yA o_1 x_2.Id).getD [])) else
  some x6)

def nS (F:Nat) (h_1:zS) (o_1:(List (Int×(List (zB))))):Nat→Int→(List zB)→Option (List zB)
  | 0,_,_=>none
  | n+1,v_2,x6=>jP F h_1 o_1 (nS F h_1 o_1 n) v_2 x6

def kT (F:Nat) (h_1:zS) (l_1:List (zB)):Option (z9×Int) :=
  (zA8 F h_1).bind fun r_1 =>
  (bif (r_1 != (0:Int)) then some ((⟨(⟨[],[],[]⟩:zS),[]⟩:z9),r_1) else
  (zAY F h_1 l_1).bind fun r_2 =>
  (bif (r_2 != (0:Int)) then some ((⟨(⟨[],[],[]⟩:zS),[]⟩:z9),r_2) else
  (j4 F l_1 F (0:Int) ([]:List (Int×(List (zB))))).bind fun (o_1:(List (Int×(List (zB))))) =>
  (nS F h_1 o_1 F (0:Int) []).bind fun (o_3:(List zB)) =>
  some ((⟨h_1,o_3⟩:z9),(0:Int))))


def yW (F:Nat) (s1_1:List (zQ)) (s2_1:List (zQ)) (rec:Int→Option (Unit⊕Bool)) (v_1:Int):Option (Unit⊕Bool) :=
  (bif decide (v_1<(((s1_1).length:Nat):Int)) then (wB s1_1 v_1).bind fun x_1=>(wB s2_1 v_1).bind fun x_2 =>
  (bif (!(decide (x_1=x_2))) then some (.inr false) else
  rec (zK (v_1+(1:Int)))) else
  some (.inl ()))

def xN (F:Nat) (s1_1:List (zQ)) (s2_1:List (zQ)):Nat→Int→Option (Unit⊕Bool)
  | 0,_=>none
  | n+1,v_1=>yW F s1_1 s2_1 (xN F s1_1 s2_1 n) v_1

def xV (F:Nat) (s1_1:List (zQ)) (s2_1:List (zQ)):Option Bool :=
  (bif ((((s1_1).length:Nat):Int) != (((s2_1).length:Nat):Int)) then some false else
  (xN F s1_1 s2_1 F (0:Int)).bind fun (o_1:Unit⊕Bool) =>
  (match o_1 with
  | (.inl q_1) =>
  some true
  | (.inr q_2) =>
  some q_2))


def yX (F:Nat) (s1_1:List (zM)) (s2_1:List (zM)) (rec:Int→Option (Unit⊕Bool)) (v_1:Int):Option (Unit⊕Bool) :=
  (bif decide (v_1<(((s1_1).length:Nat):Int)) then (wB s1_1 v_1).bind fun x_1=>(wB s2_1 v_1).bind fun x_2 =>
  (bif (!(decide (x_1=x_2))) then some (.inr false) else
  rec (zK (v_1+(1:Int)))) else
  some (.inl ()))

def xM (F:Nat) (s1_1:List (zM)) (s2_1:List (zM)):Nat→Int→Option (Unit⊕Bool)
  | 0,_=>none
  | n+1,v_1=>yX F s1_1 s2_1 (xM F s1_1 s2_1 n) v_1

def xU (F:Nat) (s1_1:List (zM)) (s2_1:List (zM)):Option Bool :=
  (bif ((((s1_1).length:Nat):Int) != (((s2_1).length:Nat):Int)) then some false else
  (xM F s1_1 s2_1 F (0:Int)).bind fun (o_1:Unit⊕Bool) =>
  (match o_1 with
  | (.inl q_1) =>
  some true
  | (.inr q_2) =>
  some q_2))


def y4 (F:Nat) (s1_1:List (yC)) (s2_1:List (yC)) (rec:Int→Option (Unit⊕Bool)) (v_1:Int):Option (Unit⊕Bool) :=
  (bif decide (v_1<(((s1_1).length:Nat):Int)) then (wB s1_1 v_1).bind fun x_1=>(wB s2_1 v_1).bind fun x_2 =>
  (bif (!(decide (x_1=x_2))) then some (.inr false) else
  rec (zK (v_1+(1:Int)))) else
  some (.inl ()))

def xX (F:Nat) (s1_1:List (yC)) (s2_1:List (yC)):Nat→Int→Option (Unit⊕Bool)
  | 0,_=>none
  | n+1,v_1=>y4 F s1_1 s2_1 (xX F s1_1 s2_1 n) v_1

def x5 (F:Nat) (s1_1:List (yC)) (s2_1:List (yC)):Option Bool :=
  (bif ((((s1_1).length:Nat):Int) != (((s2_1).length:Nat):Int)) then some false else
  (xX F s1_1 s2_1 F (0:Int)).bind fun (o_1:Unit⊕Bool) =>
  (match o_1 with
  | (.inl q_1) =>
  some true
  | (.inr q_2) =>
  some q_2))


def wJ (F:Nat) (s1_1:List (List Int)) (s2_1:List (List Int)) (rec:Int→Option (Unit⊕Bool)) (v_1:Int):Option (Unit⊕Bool) :=
  (bif decide (v_1<(((s1_1).length:Nat):Int)) then (wB s1_1 v_1).bind fun x_1=>(wB s2_1 v_1).bind fun x_2 =>
  (bif !(x_1==x_2) then some (.inr false) else
  rec (zK (v_1+(1:Int)))) else
  some (.inl ()))

def vU (F:Nat) (s1_1:List (List Int)) (s2_1:List (List Int)):Nat→Int→Option (Unit⊕Bool)
  | 0,_=>none
  | n+1,v_1=>wJ F s1_1 s2_1 (vU F s1_1 s2_1 n) v_1

def uC (F:Nat) (s1_1:List (List Int)) (s2_1:List (List Int)):Option Bool :=
  (bif ((((s1_1).length:Nat):Int) != (((s2_1).length:Nat):Int)) then some false else
  (vU F s1_1 s2_1 F (0:Int)).bind fun (o_1:Unit⊕Bool) =>
  (match o_1 with
  | (.inl q_1) =>
  some true
  | (.inr q_2) =>
  some q_2))


def zAf (F:Nat) (a_1:zI) (b_1:zI):Option Bool :=
  ((bif (a_1.At==b_1.At) then (bif (a_1.Kind==b_1.Kind) then (bif (a_1.Name==b_1.Name) then (bif (a_1.N==b_1.N) then (bif (a_1.M==b_1.M) then ((uC F a_1.Stack b_1.Stack).bind fun r_1=>some r_1) else (some false)) else (some false)) else (some false)) else (some false)) else (some false))).bind fun (p_1:Bool) =>
  some p_1


def z5 (F:Nat) (s1_1:List (zI)) (s2_1:List (zI)) (rec:Int→Option (Unit⊕Bool)) (v_1:Int):Option (Unit⊕Bool) :=
  (bif decide (v_1<(((s1_1).length:Nat):Int)) then (wB s1_1 v_1).bind fun x_1 =>
  (wB s2_1 v_1).bind fun x_2 =>
  (zAf F x_1 x_2).bind fun r_1 =>
  (bif !r_1 then some (.inr false) else
  rec (zK (v_1+(1:Int)))) else
  some (.inl ()))

def yL (F:Nat) (s1_1:List (zI)) (s2_1:List (zI)):Nat→Int→Option (Unit⊕Bool)
  | 0,_=>none
  | n+1,v_1=>z5 F s1_1 s2_1 (yL F s1_1 s2_1 n) v_1

def y0 (F:Nat) (s1_1:List (zI)) (s2_1:List (zI)):Option Bool :=
  (bif ((((s1_1).length:Nat):Int) != (((s2_1).length:Nat):Int)) then some false else
  (yL F s1_1 s2_1 F (0:Int)).bind fun (o_1:Unit⊕Bool) =>
  (match o_1 with
  | (.inl q_1) =>
  some true
  | (.inr q_2) =>
  some q_2))


def nC (F:Nat) (a_1:zB) (b_1:zB):Option Bool :=
  ((bif (a_1.Thread==b_1.Thread) then (bif (a_1.Serial==b_1.Serial) then (bif (a_1.Lost==b_1.Lost) then ((y0 F a_1.Events b_1.Events).bind fun r_1=>some r_1) else (some false)) else (some false)) else (some false))).bind fun (p_1:Bool) =>
  some p_1


def zBi (F:Nat) (p_1:zB) (q_1:zB):Option Bool :=
  (nC F p_1 q_1).bind fun r_1 =>
  some r_1


def z0 (F:Nat) (s1_1:List (zB)) (s2_1:List (zB)) (rec:Int→Option (Unit⊕Bool)) (v_1:Int):Option (Unit⊕Bool) :=
  (bif decide (v_1<(((s1_1).length:Nat):Int)) then (wB s1_1 v_1).bind fun x_1 =>
  (wB s2_1 v_1).bind fun x_2 =>
  (zBi F x_1 x_2).bind fun r_1 =>
  (bif !r_1 then some (.inr false) else
  rec (zK (v_1+(1:Int)))) else
  some (.inl ()))

def yF (F:Nat) (s1_1:List (zB)) (s2_1:List (zB)):Nat→Int→Option (Unit⊕Bool)
  | 0,_=>none
  | n+1,v_1=>z0 F s1_1 s2_1 (yF F s1_1 s2_1 n) v_1

def yJ (F:Nat) (s1_1:List (zB)) (s2_1:List (zB)):Option Bool :=
  (bif ((((s1_1).length:Nat):Int) != (((s2_1).length:Nat):Int)) then some false else
  (yF F s1_1 s2_1 F (0:Int)).bind fun (o_1:Unit⊕Bool) =>
  (match o_1 with
  | (.inl q_1) =>
  some true
  | (.inr q_2) =>
  some q_2))


def zAz (F:Nat) (a_1:z9) (b_1:z9):Option Bool :=
  (((xV F a_1.Head.Threads b_1.Head.Threads).bind fun r_1=>bif r_1 then ((xU F a_1.Head.Domains b_1.Head.Domains).bind fun r_2=>bif r_2 then ((x5 F a_1.Head.Snaps b_1.Head.Snaps).bind fun r_3=>bif r_3 then ((yJ F a_1.Parts b_1.Parts).bind fun r_4=>some r_4) else (some false)) else (some false)) else (some false))).bind fun (p_1:Bool) =>
  some p_1


def zA3 (F:Nat) (l_1:z9):Option Int :=
  (kT F l_1.Head l_1.Parts).bind fun r_1 =>
  ((bif (r_1.2==(0:Int)) then ((zAz F r_1.1 l_1).bind fun r_2=>some (!r_2)) else (some false))).bind fun (p_1:Bool) =>
  (bif p_1 then some (10:Int) else
  some r_1.2)


structure yO where
  Thread:Int
  Serial:Int
  Count:Int
  deriving DecidableEq,Inhabited
def zEc (s:yO):List AV:=[.int .i64 s.Thread,.int .i64 s.Serial,.int .i64 s.Count]
def yR (s:yO):AV:=.agg (zEc s)

def nK (F:Nat) (l_1:z9) (rec:Int→(List yO)→Option (List yO)) (v_1:Int) (zC:List yO):Option (List yO) :=
  (bif decide (v_1<(((l_1.Parts).length:Nat):Int)) then (wB l_1.Parts v_1).bind fun x_1 =>
  (bif decide (x_1.Lost>(0:Int)) then (need (((zC).length+(([(⟨x_1.Thread,zK (x_1.Serial - x_1.Lost),x_1.Lost⟩:yO)]:List yO)).length) * 24≤140737488355328)).bind fun _ =>
  rec (zK (v_1+(1:Int))) (zC++([(⟨x_1.Thread,zK (x_1.Serial - x_1.Lost),x_1.Lost⟩:yO)]:List yO)) else
  rec (zK (v_1+(1:Int))) zC) else
  some zC)

def zAW (F:Nat) (l_1:z9):Nat→Int→(List yO)→Option (List yO)
  | 0,_,_=>none
  | n+1,v_1,zC=>nK F l_1 (zAW F l_1 n) v_1 zC

def zEF (F:Nat) (l_1:z9):Option (List (yO)) :=
  (zA3 F l_1).bind fun r_1 =>
  (bif (r_1 != (0:Int)) then some [] else
  (zAW F l_1 F (0:Int) []).bind fun (o_1:(List yO)) =>
  some o_1)


structure tE where
  Thread:Int
  Serial:Int
  deriving DecidableEq,Inhabited
def uQ (s:tE):List AV:=[.int .i64 s.Thread,.int .i64 s.Serial]
def zFN (s:tE):AV:=.agg (uQ s)

def zAh (F:Nat) (l_1:z9) (x4:tE) (rec:Int→Option (Unit⊕(zI×Bool))) (v_1:Int):Option (Unit⊕(zI×Bool)) :=
  (bif decide (v_1<(((l_1.Parts).length:Nat):Int)) then (wB l_1.Parts v_1).bind fun x_1 =>
  (bif ((x_1.Thread==x4.Thread)&&(decide (x4.Serial≥x_1.Serial)&&decide (x4.Serial<(zK (x_1.Serial+(((x_1.Events).length:Nat):Int)))))) then (wB x_1.Events (zK (x4.Serial - x_1.Serial))).bind fun x_2 =>
  some (.inr (x_2,true)) else
  rec (zK (v_1+(1:Int)))) else
  some (.inl ()))

def zBg (F:Nat) (l_1:z9) (x4:tE):Nat→Int→Option (Unit⊕(zI×Bool))
  | 0,_=>none
  | n+1,v_1=>zAh F l_1 x4 (zBg F l_1 x4 n) v_1

def zFQ (F:Nat) (l_1:z9) (x4:tE):Option (zI×Bool) :=
  (zA3 F l_1).bind fun r_1 =>
  (bif (r_1 != (0:Int)) then some ((⟨(0:Int),(0:Int),([]:List Int),(0:Int),(0:Int),[]⟩:zI),false) else
  (zBg F l_1 x4 F (0:Int)).bind fun (o_1:Unit⊕(zI×Bool)) =>
  (match o_1 with
  | (.inl q_1) =>
  some ((⟨(0:Int),(0:Int),([]:List Int),(0:Int),(0:Int),[]⟩:zI),false)
  | (.inr q_2) =>
  some q_2))


def nY (F:Nat):Option Bool :=
  (zAd F (0:Int) (0:Int) ([(1:Int),(2:Int)]:List Int)).bind fun r_1=>(zAd F (2:Int) (0:Int) ([(2:Int),(3:Int)]:List Int)).bind fun r_2=>(kT F (⟨([(⟨(1:Int),([116,49]:List Int),(0:Int)⟩:zQ)]:List zQ),([(⟨(0:Int),(0:Int)⟩:zM)]:List zM),[]⟩:zS) ([r_1,r_2]:List zB)).bind fun r_3 =>
  (zAd F (3:Int) (3:Int) ([(5:Int)]:List Int)).bind fun r_4=>(kT F (⟨([(⟨(1:Int),([116,49]:List Int),(0:Int)⟩:zQ)]:List zQ),([(⟨(0:Int),(0:Int)⟩:zM)]:List zM),[]⟩:zS) ([r_4]:List zB)).bind fun r_5 =>
  (zAd F (3:Int) (2:Int) ([(5:Int)]:List Int)).bind fun r_6=>(kT F (⟨([(⟨(1:Int),([116,49]:List Int),(0:Int)⟩:zQ)]:List zQ),([(⟨(0:Int),(0:Int)⟩:zM)]:List zM),[]⟩:zS) ([r_6]:List zB)).bind fun r_7 =>
  (zEF F r_5.1).bind fun r_8 =>
  (zFQ F r_3.1 (⟨(1:Int),(3:Int)⟩:tE)).bind fun r_9 =>
  ((bif (r_3.2==(0:Int)) then (bif ((((r_3.1.Parts).length:Nat):Int)==(1:Int)) then ((wB r_3.1.Parts (0:Int)).bind fun x_1=>bif ((((x_1.Events).length:Nat):Int)==(4:Int)) then (bif (r_5.2==(0:Int)) then (bif ((((r_8).length:Nat):Int)==(1:Int)) then ((wB r_8 (0:Int)).bind fun x_2=>bif (decide (x_2=(⟨(1:Int),(0:Int),(3:Int)⟩:yO))) then (bif (r_7.2==(11:Int)) then (bif r_9.2 then (bif (r_9.1.At==(3:Int)) then ((zA3 F r_3.1).bind fun r_10=>some (r_10==(0:Int))) else (some false)) else (some false)) else (some false)) else (some false)) else (some false)) else (some false)) else (some false)) else (some false)) else (some false))).bind fun (p_1:Bool) =>
  some p_1


def wR (n_1:Int):Option (List (yC)) :=
  (((bif decide (n_1<(0:Int)) then none else
  some ()):Option Unit)).bind fun (o_1:Unit) =>
  (bif decide ((zK (n_1 - (zK ((0:Int) - ((0:Nat):Int)))))>(0:Int)) then (need ((0:Int)≤(zK (n_1 - (zK ((0:Int) - ((0:Nat):Int)))))∧0<((zK (n_1 - (zK ((0:Int) - ((0:Nat):Int))))).toNat)∧((zK (n_1 - (zK ((0:Int) - ((0:Nat):Int))))).toNat) * 40≤140737488355328)).bind fun _ =>
  some [] else
  some [])


def yN (F:Nat) (zP:List (List (yC))) (rec:Int→Int→Option Int) (w7:Int) (v_1:Int):Option Int :=
  (bif decide (v_1<(((zP).length:Nat):Int)) then (wB zP v_1).bind fun x_1 =>
  (bif decide ((zK (w7+(((x_1).length:Nat):Int)))<(0:Int)) then none else
  rec (zK (w7+(((x_1).length:Nat):Int))) (zK (v_1+(1:Int)))) else
  some w7)

def xR (F:Nat) (zP:List (List (yC))):Nat→Int→Int→Option Int
  | 0,_,_=>none
  | n+1,w7,v_1=>yN F zP (xR F zP n) w7 v_1

def yM (F:Nat) (zP:List (List (yC))) (rec:Int→(List yC)→Option (List yC)) (v_2:Int) (zC:List yC):Option (List yC) :=
  (bif decide (v_2<(((zP).length:Nat):Int)) then (wB zP v_2).bind fun x_2 =>
  (need (((zC).length+(x_2).length) * 40≤140737488355328)).bind fun _ =>
  rec (zK (v_2+(1:Int))) (zC++x_2) else
  some zC)

def xS (F:Nat) (zP:List (List (yC))):Nat→Int→(List yC)→Option (List yC)
  | 0,_,_=>none
  | n+1,v_2,zC=>yM F zP (xS F zP n) v_2 zC

def xZ (F:Nat) (zP:List (List (yC))):Option (List (yC)) :=
  (xR F zP F (0:Int) (0:Int)).bind fun (o_1:Int) =>
  (wR o_1).bind fun r_1 =>
  (xS F zP F (0:Int) r_1).bind fun (o_2:(List yC)) =>
  some o_2


def wN (n_1:Int):Option (List (zB)) :=
  (((bif decide (n_1<(0:Int)) then none else
  some ()):Option Unit)).bind fun (o_1:Unit) =>
  (bif decide ((zK (n_1 - (zK ((0:Int) - ((0:Nat):Int)))))>(0:Int)) then (need ((0:Int)≤(zK (n_1 - (zK ((0:Int) - ((0:Nat):Int)))))∧0<((zK (n_1 - (zK ((0:Int) - ((0:Nat):Int))))).toNat)∧((zK (n_1 - (zK ((0:Int) - ((0:Nat):Int))))).toNat) * 48≤140737488355328)).bind fun _ =>
  some [] else
  some [])


def yD (F:Nat) (zP:List (List (zB))) (rec:Int→Int→Option Int) (w7:Int) (v_1:Int):Option Int :=
  (bif decide (v_1<(((zP).length:Nat):Int)) then (wB zP v_1).bind fun x_1 =>
  (bif decide ((zK (w7+(((x_1).length:Nat):Int)))<(0:Int)) then none else
  rec (zK (w7+(((x_1).length:Nat):Int))) (zK (v_1+(1:Int)))) else
  some w7)

def xI (F:Nat) (zP:List (List (zB))):Nat→Int→Int→Option Int
  | 0,_,_=>none
  | n+1,w7,v_1=>yD F zP (xI F zP n) w7 v_1

def yE (F:Nat) (zP:List (List (zB))) (rec:Int→(List zB)→Option (List zB)) (v_2:Int) (zC:List zB):Option (List zB) :=
  (bif decide (v_2<(((zP).length:Nat):Int)) then (wB zP v_2).bind fun x_2 =>
  (need (((zC).length+(x_2).length) * 48≤140737488355328)).bind fun _ =>
  rec (zK (v_2+(1:Int))) (zC++x_2) else
  some zC)

def xG (F:Nat) (zP:List (List (zB))):Nat→Int→(List zB)→Option (List zB)
  | 0,_,_=>none
  | n+1,v_2,zC=>yE F zP (xG F zP n) v_2 zC

def xP (F:Nat) (zP:List (List (zB))):Option (List (zB)) :=
  (xI F zP F (0:Int) (0:Int)).bind fun (o_1:Int) =>
  (wN o_1).bind fun r_1 =>
  (xG F zP F (0:Int) r_1).bind fun (o_2:(List zB)) =>
  some o_2


def zB2 (F:Nat) (a_1:z9) (y5:List (yC)) (l_1:List (zB)):Option (z9×Int) :=
  (xZ F ([a_1.Head.Snaps,y5]:List (List (yC)))).bind fun r_1 =>
  (xP F ([a_1.Parts,l_1]:List (List (zB)))).bind fun r_2=>(kT F (⟨a_1.Head.Threads,a_1.Head.Domains,r_1⟩:zS) r_2).bind fun r_3 =>
  some (r_3.1,r_3.2)


def qN (F:Nat) (h_1:zS) (l_1:List (zB)) (y5:List (yC)) (n_1:Int):Option Bool :=
  (((zAZ F h_1 l_1).bind fun r_1=>bif !r_1 then (some true) else (bif decide ((((y5).length:Nat):Int)>(20:Int)) then (some true) else (bif decide (n_1<(0:Int)) then (some true) else (some (decide (n_1>(((l_1).length:Nat):Int)))))))).bind fun (p_1:Bool) =>
  (bif p_1 then (nY F).bind fun r_2 =>
  some r_2 else
  (need ((0:Int)≤n_1∧n_1≤(((l_1).length:Nat):Int))).bind fun _=>(kT F h_1 (sub l_1 (0:Int) n_1)).bind fun r_3 =>
  (bif (r_3.2 != (0:Int)) then (nY F).bind fun r_4 =>
  some r_4 else
  (need ((0:Int)≤n_1∧n_1≤(((l_1).length:Nat):Int))).bind fun _=>(zB2 F r_3.1 y5 (sub l_1 n_1 (((l_1).length:Nat):Int))).bind fun r_5 =>
  (need (((([]:List yC)).length+(h_1.Snaps).length) * 40≤140737488355328)).bind fun _=>(need (((([]++h_1.Snaps)).length+(y5).length) * 40≤140737488355328)).bind fun _ =>
  (kT F (⟨h_1.Threads,h_1.Domains,(([]++h_1.Snaps)++y5)⟩:zS) l_1).bind fun r_6 =>
  ((bif (r_5.2==r_6.2) then ((zAz F r_5.1 r_6.1).bind fun r_7=>bif r_7 then ((nY F).bind fun r_8=>some r_8) else (some false)) else (some false))).bind fun (p_2:Bool) =>
  some p_2))


end Go.Ab
