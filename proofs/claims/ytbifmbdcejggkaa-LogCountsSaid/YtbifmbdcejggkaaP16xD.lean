/- Printed: the typed Lean functions of the Go functions, or the proofs that the Go functions meet them. No conditions but those that the theorems name. -/
import Derived.Test.YtbifmbdcejggkaaA35
import Derived.Test.YtbifmbdcejggkaaA50
namespace Go.Ab
open Go
set_option linter.unusedVariables false

structure zP where
  Id:Int
  Name:List Int
  Domain:Int
  deriving DecidableEq,Inhabited
def z5 (s:zP):List AV:=[.int .i64 s.Id,.str s.Name,.int .i64 s.Domain]
def zF (s:zP):AV:=.agg (z5 s)

structure zL where
  Id:Int
  Ppm:Int
  deriving DecidableEq,Inhabited
def uA (s:zL):List AV:=[.int .i64 s.Id,.int .i64 s.Ppm]
def zD (s:zL):AV:=.agg (uA s)

structure pW where
  Lo:Int
  Hi:Int
  deriving DecidableEq,Inhabited
structure x9 where
  A:Int
  AtA:Int
  B:Int
  AtB:pW
  deriving DecidableEq,Inhabited
def uK (s:x9):List AV:=[.int .i64 s.A,.int .i64 s.AtA,.int .i64 s.B,.int .i64 s.AtB.Lo,.int .i64 s.AtB.Hi]
def zO (s:x9):AV:=.agg (uK s)

structure zR where
  Threads:List (zP)
  Domains:List (zL)
  Snaps:List (x9)
  deriving DecidableEq,Inhabited
def z0 (s:zR):List AV:=[.sl false 3 (List.map zF s.Threads),.sl false 2 (List.map zD s.Domains),.sl false 5 (List.map zO s.Snaps)]
def xO (s:zR):AV:=.agg (z0 s)

structure zH where
  At:Int
  Kind:Int
  Name:List Int
  N:Int
  M:Int
  Stack:List (List Int)
  deriving DecidableEq,Inhabited
def yA (s:zH):List AV:=[.int .i64 s.At,.int .i64 s.Kind,.str s.Name,.int .i64 s.N,.int .i64 s.M,.sl false 1 (List.map AV.str s.Stack)]
def zE (s:zH):AV:=.agg (yA s)

structure zB where
  Thread:Int
  Serial:Int
  Lost:Int
  Events:List (zH)
  deriving DecidableEq,Inhabited
def zZ (s:zB):List AV:=[.int .i64 s.Thread,.int .i64 s.Serial,.int .i64 s.Lost,.sl false 6 (List.map zE s.Events)]
def zA (s:zB):AV:=.agg (zZ s)

def uS (F:Nat) (l_1:List (zB)) (rec:Int→Int→Option Int) (n_1:Int) (v_1:Int):Option Int :=
  (bif decide (v_1<(((l_1).length:Nat):Int)) then (xW l_1 v_1).bind fun x_1 =>
  rec (zJ (n_1+(((x_1.Events).length:Nat):Int))) (zJ (v_1+(1:Int))) else
  some n_1)

def u0 (F:Nat) (l_1:List (zB)):Nat→Int→Int→Option Int
  | 0,_,_=>none
  | n+1,n_1,v_1=>uS F l_1 (u0 F l_1 n) n_1 v_1

def zBh (F:Nat) (h_1:zR) (l_1:List (zB)):Option Bool :=
  (u0 F l_1 F (0:Int) (0:Int)).bind fun (o_1:Int) =>
  some (decide ((((h_1.Threads).length:Nat):Int)≤(70:Int))&&(decide ((((h_1.Domains).length:Nat):Int)≤(10:Int))&&(decide ((((h_1.Snaps).length:Nat):Int)≤(20:Int))&&(decide ((((l_1).length:Nat):Int)≤(30:Int))&&decide (o_1≤(3000:Int))))))


def nS (F:Nat) (vE:List (Int)) (rec:Int→(List zH)→Option (List zH)) (v_1:Int) (zC:List zH):Option (List zH) :=
  (bif decide (v_1<(((vE).length:Nat):Int)) then (xW vE v_1).bind fun x_1 =>
  (need (((zC).length+(([(⟨x_1,(3:Int),([97]:List Int),(0:Int),(0:Int),[]⟩:zH)]:List zH)).length) * 72≤140737488355328)).bind fun _ =>
  rec (zJ (v_1+(1:Int))) (zC++([(⟨x_1,(3:Int),([97]:List Int),(0:Int),(0:Int),[]⟩:zH)]:List zH)) else
  some zC)

def zAA (F:Nat) (vE:List (Int)):Nat→Int→(List zH)→Option (List zH)
  | 0,_,_=>none
  | n+1,v_1,zC=>nS F vE (zAA F vE n) v_1 zC

def zAk (F:Nat) (wR:Int) (vR:Int) (vE:List (Int)):Option zB :=
  (zAA F vE F (0:Int) []).bind fun (o_1:(List zH)) =>
  some (⟨(1:Int),wR,vR,o_1⟩:zB)


def qD (s_1:List Int) (c_1:Int):Option Int :=
  some (uP s_1 c_1)


def w5 (s_1:List Int) (c_1:Int):Option Int :=
  (qD s_1 c_1).bind fun r_1 =>
  some r_1


def kY (c_1:Int):Option Bool :=
  ((bif decide (c_1≥(97:Int)) then (bif decide (c_1≤(122:Int)) then (some true) else (bif decide (c_1≥(65:Int)) then (bif decide (c_1≤(90:Int)) then (some true) else (bif decide (c_1≥(48:Int)) then (bif decide (c_1≤(57:Int)) then (some true) else ((w5 ([95,46,58,47,60,62,36,42,126,45]:List Int) c_1).bind fun r_1=>some (decide (r_1≥(0:Int))))) else ((w5 ([95,46,58,47,60,62,36,42,126,45]:List Int) c_1).bind fun r_1=>some (decide (r_1≥(0:Int)))))) else (bif decide (c_1≥(48:Int)) then (bif decide (c_1≤(57:Int)) then (some true) else ((w5 ([95,46,58,47,60,62,36,42,126,45]:List Int) c_1).bind fun r_1=>some (decide (r_1≥(0:Int))))) else ((w5 ([95,46,58,47,60,62,36,42,126,45]:List Int) c_1).bind fun r_1=>some (decide (r_1≥(0:Int))))))) else (bif decide (c_1≥(65:Int)) then (bif decide (c_1≤(90:Int)) then (some true) else (bif decide (c_1≥(48:Int)) then (bif decide (c_1≤(57:Int)) then (some true) else ((w5 ([95,46,58,47,60,62,36,42,126,45]:List Int) c_1).bind fun r_1=>some (decide (r_1≥(0:Int))))) else ((w5 ([95,46,58,47,60,62,36,42,126,45]:List Int) c_1).bind fun r_1=>some (decide (r_1≥(0:Int)))))) else (bif decide (c_1≥(48:Int)) then (bif decide (c_1≤(57:Int)) then (some true) else ((w5 ([95,46,58,47,60,62,36,42,126,45]:List Int) c_1).bind fun r_1=>some (decide (r_1≥(0:Int))))) else ((w5 ([95,46,58,47,60,62,36,42,126,45]:List Int) c_1).bind fun r_1=>some (decide (r_1≥(0:Int)))))))).bind fun (p_1:Bool) =>
  some p_1


def tR (F:Nat) (s_1:List Int) (rec:Int→Option (Unit⊕Int)) (v_1:Int):Option (Unit⊕Int) :=
  (bif decide (v_1<(((s_1).length:Nat):Int)) then (xW s_1 v_1).bind fun c_1=>(kY c_1).bind fun r_1 =>
  (bif !r_1 then some (.inr (3:Int)) else
  rec (zJ (v_1+(1:Int)))) else
  some (.inl ()))

def kB (F:Nat) (s_1:List Int):Nat→Int→Option (Unit⊕Int)
  | 0,_=>none
  | n+1,v_1=>tR F s_1 (kB F s_1 n) v_1

def jW (F:Nat) (s_1:List Int):Option Int :=
  (bif ((s_1==([]:List Int))||decide ((((s_1).length:Nat):Int)>(40:Int))) then some (3:Int) else
  (kB F s_1 F (0:Int)).bind fun (o_1:Unit⊕Int) =>
  (match o_1 with
  | (.inl q_1) =>
  some (0:Int)
  | (.inr q_2) =>
  some q_2))


def jG (F:Nat) (t_1:zP):Option Int :=
  (bif (decide (t_1.Id<(0:Int))||(decide (t_1.Id>(1000000000000000:Int))||(decide (t_1.Domain<(0:Int))||decide (t_1.Domain≥(8:Int))))) then some (2:Int) else
  (jW F t_1.Name).bind fun r_1 =>
  some r_1)


def zAe (x_1:zL) (a_1:Int):Option Bool :=
  some (x_1.Id==a_1)


def yQ (F:Nat) (s_1:List (zL)) (c_1:Int) (rec:Int→Option (Unit⊕Int)) (v_1:Int):Option (Unit⊕Int) :=
  (bif decide (v_1<(((s_1).length:Nat):Int)) then (xW s_1 v_1).bind fun x_1=>(zAe x_1 c_1).bind fun r_1 =>
  (bif r_1 then some (.inr v_1) else
  rec (zJ (v_1+(1:Int)))) else
  some (.inl ()))

def xB (F:Nat) (s_1:List (zL)) (c_1:Int):Nat→Int→Option (Unit⊕Int)
  | 0,_=>none
  | n+1,v_1=>yQ F s_1 c_1 (xB F s_1 c_1 n) v_1

def xG (F:Nat) (s_1:List (zL)) (c_1:Int):Option Int :=
  (xB F s_1 c_1 F (0:Int)).bind fun (o_1:Unit⊕Int) =>
  (match o_1 with
  | (.inl q_1) =>
  some (-1:Int)
  | (.inr q_2) =>
  some q_2)


def jU (F:Nat) (d_1:List (zL)) (xX:Int):Option Int :=
  (xG F d_1 xX).bind fun r_1 =>
  some r_1


def vY (F:Nat) (d_1:List (zL)) (rec:Int→Option (Unit⊕Int)) (v_1:Int):Option (Unit⊕Int) :=
  (bif decide (v_1<(((d_1).length:Nat):Int)) then (xW d_1 v_1).bind fun x_1 =>
  (bif (decide (x_1.Id<(0:Int))||(decide (x_1.Id≥(8:Int))||(decide (x_1.Ppm<(0:Int))||decide (x_1.Ppm>(10000:Int))))) then some (.inr (2:Int)) else
  (need ((0:Int)≤v_1∧v_1≤(((d_1).length:Nat):Int))).bind fun _=>(jU F (sub d_1 (0:Int) v_1) x_1.Id).bind fun r_1 =>
  (bif decide (r_1≥(0:Int)) then some (.inr (4:Int)) else
  rec (zJ (v_1+(1:Int))))) else
  some (.inl ()))

def qV (F:Nat) (d_1:List (zL)):Nat→Int→Option (Unit⊕Int)
  | 0,_=>none
  | n+1,v_1=>vY F d_1 (qV F d_1 n) v_1

def kU (F:Nat) (d_1:List (zL)):Option Int :=
  (qV F d_1 F (0:Int)).bind fun (o_1:Unit⊕Int) =>
  (match o_1 with
  | (.inl q_1) =>
  some (0:Int)
  | (.inr q_2) =>
  some q_2)


def jD (n_1:Int):Option Bool :=
  some (decide (n_1≥(0:Int))&&decide (n_1≤(1000000000000:Int)))


def zAF (F:Nat) (d_1:List (zL)) (x_1:x9):Option Int :=
  (jU F d_1 x_1.A).bind fun r_1 =>
  (((bif decide (r_1<(0:Int)) then some (decide (r_1<(0:Int))) else
  (jU F d_1 x_1.B).bind fun r_2 =>
  some (decide (r_2<(0:Int)))):Option Bool)).bind fun (o_1:Bool) =>
  (bif o_1 then some (5:Int) else
  (bif (x_1.A==x_1.B) then some (1:Int) else
  (jD x_1.AtA).bind fun r_3 =>
  (bif !r_3 then some (2:Int) else
  (jD x_1.AtB.Lo).bind fun r_4 =>
  (bif !r_4 then some (2:Int) else
  (jD x_1.AtB.Hi).bind fun r_5 =>
  (bif !r_5 then some (2:Int) else
  (bif decide (x_1.AtB.Lo>x_1.AtB.Hi) then some (2:Int) else
  some (0:Int)))))))


def uD (F:Nat) (d_1:List (zL)) (l_1:List (x9)) (rec:Int→Option (Unit⊕Int)) (v_1:Int):Option (Unit⊕Int) :=
  (bif decide (v_1<(((l_1).length:Nat):Int)) then (xW l_1 v_1).bind fun x_2 =>
  (zAF F d_1 x_2).bind fun r_2 =>
  (bif (r_2 != (0:Int)) then some (.inr r_2) else
  rec (zJ (v_1+(1:Int)))) else
  some (.inl ()))

def kE (F:Nat) (d_1:List (zL)) (l_1:List (x9)):Nat→Int→Option (Unit⊕Int)
  | 0,_=>none
  | n+1,v_1=>uD F d_1 l_1 (kE F d_1 l_1 n) v_1

def nY (F:Nat) (d_1:List (zL)) (l_1:List (x9)):Option Int :=
  (bif ((((d_1).length:Nat):Int)==(0:Int)) then some (8:Int) else
  (bif (decide ((((d_1).length:Nat):Int)>(8:Int))||decide ((((l_1).length:Nat):Int)>(200:Int))) then some (7:Int) else
  (xW d_1 (0:Int)).bind fun x_1 =>
  (bif (!(decide (x_1=(⟨(0:Int),(0:Int)⟩:zL)))) then some (10:Int) else
  (kU F d_1).bind fun r_1 =>
  (bif (r_1 != (0:Int)) then some r_1 else
  (kE F d_1 l_1 F (0:Int)).bind fun (o_1:Unit⊕Int) =>
  (match o_1 with
  | (.inl q_1) =>
  some (0:Int)
  | (.inr q_2) =>
  some q_2)))))


def zA6 (d_1:zL) (a_1:zP):Option Bool :=
  some (d_1.Id==a_1.Domain)


def yO (F:Nat) (s_1:List (zL)) (c_1:zP) (rec:Int→Option (Unit⊕Int)) (v_1:Int):Option (Unit⊕Int) :=
  (bif decide (v_1<(((s_1).length:Nat):Int)) then (xW s_1 v_1).bind fun x_1=>(zA6 x_1 c_1).bind fun r_1 =>
  (bif r_1 then some (.inr v_1) else
  rec (zJ (v_1+(1:Int)))) else
  some (.inl ()))

def y7 (F:Nat) (s_1:List (zL)) (c_1:zP):Nat→Int→Option (Unit⊕Int)
  | 0,_=>none
  | n+1,v_1=>yO F s_1 c_1 (y7 F s_1 c_1 n) v_1

def xA (F:Nat) (s_1:List (zL)) (c_1:zP):Option Int :=
  (y7 F s_1 c_1 F (0:Int)).bind fun (o_1:Unit⊕Int) =>
  (match o_1 with
  | (.inl q_1) =>
  some (-1:Int)
  | (.inr q_2) =>
  some q_2)


def xU (F:Nat) (s_1:List (zL)) (c_1:zP):Option Bool :=
  (xA F s_1 c_1).bind fun r_1 =>
  some (decide (r_1≥(0:Int)))


def qK (F:Nat) (h_1:zR) (rec:Int→(List (Int×Bool))→Option (Unit⊕Int)) (v_1:Int) (zC:List (Int×Bool)):Option (Unit⊕Int) :=
  (bif decide (v_1<(((h_1.Threads).length:Nat):Int)) then (xW h_1.Threads v_1).bind fun x_1 =>
  (jG F x_1).bind fun r_1 =>
  (bif (r_1 != (0:Int)) then some (.inr r_1) else
  (bif ((yD zC x_1.Id).getD false) then some (.inr (4:Int)) else
  (need ((zC).length<140737488355328)).bind fun _ =>
  rec (zJ (v_1+(1:Int))) (uH zC x_1.Id true))) else
  some (.inl ()))

def j9 (F:Nat) (h_1:zR):Nat→Int→(List (Int×Bool))→Option (Unit⊕Int)
  | 0,_,_=>none
  | n+1,v_1,zC=>qK F h_1 (j9 F h_1 n) v_1 zC

def uT (F:Nat) (h_1:zR) (rec:Int→Option (Unit⊕Int)) (v_2:Int):Option (Unit⊕Int) :=
  (bif decide (v_2<(((h_1.Threads).length:Nat):Int)) then (xW h_1.Threads v_2).bind fun x_2 =>
  (xU F h_1.Domains x_2).bind fun r_3 =>
  (bif !r_3 then some (.inr (5:Int)) else
  rec (zJ (v_2+(1:Int)))) else
  some (.inl ()))

def kG (F:Nat) (h_1:zR):Nat→Int→Option (Unit⊕Int)
  | 0,_=>none
  | n+1,v_2=>uT F h_1 (kG F h_1 n) v_2

def zBd (F:Nat) (h_1:zR):Option Int :=
  (bif ((((h_1.Threads).length:Nat):Int)==(0:Int)) then some (8:Int) else
  (bif decide ((((h_1.Threads).length:Nat):Int)>(64:Int)) then some (7:Int) else
  (j9 F h_1 F (0:Int) []).bind fun (o_1:Unit⊕Int) =>
  (match o_1 with
  | (.inl q_1) =>
  (nY F h_1.Domains h_1.Snaps).bind fun r_2 =>
  (bif (r_2 != (0:Int)) then some r_2 else
  (kG F h_1 F (0:Int)).bind fun (o_2:Unit⊕Int) =>
  (match o_2 with
  | (.inl q_3) =>
  some (0:Int)
  | (.inr q_4) =>
  some q_4))
  | (.inr q_2) =>
  some q_2)))


structure zX where
  Head:zR
  Parts:List (zB)
  deriving DecidableEq,Inhabited
def yB (s:zX):List AV:=[.sl false 3 (List.map zF s.Head.Threads),.sl false 2 (List.map zD s.Head.Domains),.sl false 5 (List.map zO s.Head.Snaps),.sl false 4 (List.map zA s.Parts)]
def yH (s:zX):AV:=.agg (yB s)

structure y8 where
  next:Int
  last:Int
  deriving DecidableEq,Inhabited
def xC (s:y8):List AV:=[.int .i64 s.next,.int .i64 s.last]
def yY (s:y8):AV:=.agg (xC s)

structure zM where
  word:List Int
  name:Bool
  n:Bool
  m:Bool
  stack:Bool
  least:Int
  most:Int
  mLeast:Int
  mMost:Int
  deriving DecidableEq,Inhabited
def yI (s:zM):List AV:=[.str s.word,.bool s.name,.bool s.n,.bool s.m,.bool s.stack,.int .i64 s.least,.int .i64 s.most,.int .i64 s.mLeast,.int .i64 s.mMost]
def wA (s:zM):AV:=.agg (yI s)

def k0:Option (List (zM)) :=
  some ([(⟨([]:List Int),false,false,false,false,(0:Int),(0:Int),(0:Int),(0:Int)⟩:zM),(⟨([98,101,103,105,110]:List Int),true,false,false,false,(0:Int),(0:Int),(0:Int),(0:Int)⟩:zM),(⟨([101,110,100]:List Int),false,false,false,false,(0:Int),(0:Int),(0:Int),(0:Int)⟩:zM),(⟨([109,97,114,107]:List Int),true,false,false,false,(0:Int),(0:Int),(0:Int),(0:Int)⟩:zM),(⟨([99,111,117,110,116]:List Int),true,true,false,false,(-1000000000000000:Int),(1000000000000000:Int),(0:Int),(0:Int)⟩:zM),(⟨([115,97,109,112,108,101]:List Int),false,true,false,true,(1:Int),(1000000000000:Int),(0:Int),(0:Int)⟩:zM),(⟨([115,101,110,100]:List Int),false,true,false,false,(0:Int),(1000000000000000:Int),(0:Int),(0:Int)⟩:zM),(⟨([114,101,99,118]:List Int),false,true,false,false,(0:Int),(1000000000000000:Int),(0:Int),(0:Int)⟩:zM),(⟨([114,117,110]:List Int),false,true,false,false,(0:Int),(63:Int),(0:Int),(0:Int)⟩:zM),(⟨([115,116,111,112]:List Int),false,true,true,false,(0:Int),(3:Int),(0:Int),(1000000000000000:Int)⟩:zM),(⟨([119,97,107,101]:List Int),false,true,false,false,(0:Int),(1000000000000000:Int),(0:Int),(0:Int)⟩:zM),(⟨([97,108,108,111,99]:List Int),false,true,true,true,(0:Int),(1000000000000000:Int),(1:Int),(1000000000000:Int)⟩:zM),(⟨([102,114,101,101]:List Int),false,true,false,false,(0:Int),(1000000000000000:Int),(0:Int),(0:Int)⟩:zM)]:List zM)


def pD (k_1:Int):Option (zM×Bool) :=
  (k0 ).bind fun r_1 =>
  (bif (decide (k_1<(1:Int))||decide (k_1≥(((r_1).length:Nat):Int))) then some ((⟨([]:List Int),false,false,false,false,(0:Int),(0:Int),(0:Int),(0:Int)⟩:zM),false) else
  (xW r_1 k_1).bind fun x_1 =>
  some (x_1,true))


def tB (F:Nat) (l_1:List (List Int)) (rec:Int→Option (Unit⊕Int)) (v_1:Int):Option (Unit⊕Int) :=
  (bif decide (v_1<(((l_1).length:Nat):Int)) then (xW l_1 v_1).bind fun x_1 =>
  (jW F x_1).bind fun r_1 =>
  (bif (r_1 != (0:Int)) then some (.inr r_1) else
  rec (zJ (v_1+(1:Int)))) else
  some (.inl ()))

def q7 (F:Nat) (l_1:List (List Int)):Nat→Int→Option (Unit⊕Int)
  | 0,_=>none
  | n+1,v_1=>tB F l_1 (q7 F l_1 n) v_1

def kW (F:Nat) (l_1:List (List Int)):Option Int :=
  (bif decide ((((l_1).length:Nat):Int)>(32:Int)) then some (7:Int) else
  (q7 F l_1 F (0:Int)).bind fun (o_1:Unit⊕Int) =>
  (match o_1 with
  | (.inl q_1) =>
  some (0:Int)
  | (.inr q_2) =>
  some q_2))


def nX (F:Nat) (f_1:zM) (e_1:zH):Option Int :=
  (bif f_1.name then (jW F e_1.Name).bind fun r_1 =>
  some r_1 else
  (kW F e_1.Stack).bind fun r_2 =>
  some r_2)


def nZ (F:Nat) (e_1:zH):Option Int :=
  (bif (decide (e_1.At<(0:Int))||decide (e_1.At>(1000000000000:Int))) then some (2:Int) else
  (pD e_1.Kind).bind fun r_1 =>
  ((bif !r_1.2 then (some true) else (bif !r_1.1.name then (bif !(e_1.Name==([]:List Int)) then (some true) else (bif !r_1.1.n then (bif (e_1.N != (0:Int)) then (some true) else (bif !r_1.1.m then (bif (e_1.M != (0:Int)) then (some true) else (bif !r_1.1.stack then (some (decide ((((e_1.Stack).length:Nat):Int)>(0:Int)))) else (some false))) else (bif !r_1.1.stack then (some (decide ((((e_1.Stack).length:Nat):Int)>(0:Int)))) else (some false)))) else (bif !r_1.1.m then (bif (e_1.M != (0:Int)) then (some true) else (bif !r_1.1.stack then (some (decide ((((e_1.Stack).length:Nat):Int)>(0:Int)))) else (some false))) else (bif !r_1.1.stack then (some (decide ((((e_1.Stack).length:Nat):Int)>(0:Int)))) else (some false))))) else (bif !r_1.1.n then (bif (e_1.N != (0:Int)) then (some true) else (bif !r_1.1.m then (bif (e_1.M != (0:Int)) then (some true) else (bif !r_1.1.stack then (some (decide ((((e_1.Stack).length:Nat):Int)>(0:Int)))) else (some false))) else (bif !r_1.1.stack then (some (decide ((((e_1.Stack).length:Nat):Int)>(0:Int)))) else (some false)))) else (bif !r_1.1.m then (bif (e_1.M != (0:Int)) then (some true) else (bif !r_1.1.stack then (some (decide ((((e_1.Stack).length:Nat):Int)>(0:Int)))) else (some false))) else (bif !r_1.1.stack then (some (decide ((((e_1.Stack).length:Nat):Int)>(0:Int)))) else (some false))))))).bind fun (p_1:Bool) =>
  (bif p_1 then some (1:Int) else
  (nX F r_1.1 e_1).bind fun r_2 =>
  (bif (r_2 != (0:Int)) then some r_2 else
  (bif (r_1.1.n&&(decide (e_1.N<r_1.1.least)||decide (e_1.N>r_1.1.most))) then some (2:Int) else
  (bif ((e_1.Kind==(9:Int))&&((e_1.N != (2:Int))&&(e_1.M != (0:Int)))) then some (1:Int) else
  (bif (r_1.1.m&&(bif decide (e_1.M<r_1.1.mLeast) then ((e_1.Kind != (9:Int))||(e_1.N==(2:Int))) else (decide (e_1.M>r_1.1.mMost)&&((e_1.Kind != (9:Int))||(e_1.N==(2:Int)))))) then some (2:Int) else
  some (0:Int)))))))


def uY (F:Nat) (l_1:List (zH)) (rec:Int→Option (Unit⊕Int)) (v_1:Int):Option (Unit⊕Int) :=
  (bif decide (v_1<(((l_1).length:Nat):Int)) then (xW l_1 v_1).bind fun x_1 =>
  (nZ F x_1).bind fun r_1 =>
  (bif (r_1 != (0:Int)) then some (.inr r_1) else
  ((bif decide (v_1>(0:Int)) then ((xW l_1 (zJ (v_1 - (1:Int)))).bind fun x_2=>some (decide (x_1.At<x_2.At))) else (some false))).bind fun (p_1:Bool) =>
  (bif p_1 then some (.inr (11:Int)) else
  rec (zJ (v_1+(1:Int))))) else
  some (.inl ()))

def tN (F:Nat) (l_1:List (zH)):Nat→Int→Option (Unit⊕Int)
  | 0,_=>none
  | n+1,v_1=>uY F l_1 (tN F l_1 n) v_1

def j8 (F:Nat) (l_1:List (zH)):Option Int :=
  (tN F l_1 F (0:Int)).bind fun (o_1:Unit⊕Int) =>
  (match o_1 with
  | (.inl q_1) =>
  some (0:Int)
  | (.inr q_2) =>
  some q_2)


def w8 (F:Nat) (p_1:zB) (rec:Int→Option (Unit⊕Int)) (v_1:Int):Option (Unit⊕Int) :=
  (bif decide (v_1<((3:Nat):Int)) then (xW ([p_1.Thread,p_1.Serial,p_1.Lost]:List Int) v_1).bind fun x_1 =>
  (bif (decide (x_1<(0:Int))||decide (x_1>(1000000000000000:Int))) then some (.inr (2:Int)) else
  rec (zJ (v_1+(1:Int)))) else
  some (.inl ()))

def jE (F:Nat) (p_1:zB):Nat→Int→Option (Unit⊕Int)
  | 0,_=>none
  | n+1,v_1=>w8 F p_1 (jE F p_1 n) v_1

def pK (F:Nat) (p_1:zB):Option Int :=
  (jE F p_1 F (0:Int)).bind fun (o_1:Unit⊕Int) =>
  (match o_1 with
  | (.inl q_1) =>
  (((bif decide (p_1.Lost>p_1.Serial) then some (decide (p_1.Lost>p_1.Serial)) else
  some (decide ((zJ (p_1.Serial+(((p_1.Events).length:Nat):Int)))>(1000000000000000:Int)))):Option Bool)).bind fun (o_2:Bool) =>
  (bif o_2 then some (2:Int) else
  (bif ((((p_1.Events).length:Nat):Int)==(0:Int)) then some (8:Int) else
  (bif decide ((((p_1.Events).length:Nat):Int)>(1000:Int)) then some (7:Int) else
  (j8 F p_1.Events).bind fun r_1 =>
  some r_1)))
  | (.inr q_2) =>
  some q_2)


def q5 (t_1:y8) (p_1:zB):Option Bool :=
  ((bif ((zJ (p_1.Serial - p_1.Lost))==t_1.next) then ((xW p_1.Events (0:Int)).bind fun x_1=>some (decide (x_1.At≥t_1.last))) else (some false))).bind fun (p_2:Bool) =>
  some p_2


def q8 (t_1:y8) (p_1:zB):Option y8 :=
  (xW p_1.Events (zJ ((((p_1.Events).length:Nat):Int) - (1:Int)))).bind fun x_1 =>
  some (⟨zJ (p_1.Serial+(((p_1.Events).length:Nat):Int)),x_1.At⟩:y8)


def qN (F:Nat) (h_1:zR) (rec:Int→(List (Int×y8))→Option (List (Int×y8))) (v_1:Int) (zC:List (Int×y8)):Option (List (Int×y8)) :=
  (bif decide (v_1<(((h_1.Threads).length:Nat):Int)) then (xW h_1.Threads v_1).bind fun x_1 =>
  (need ((zC).length<140737488355328)).bind fun _ =>
  rec (zJ (v_1+(1:Int))) (uH zC x_1.Id (⟨(0:Int),(0:Int)⟩:y8)) else
  some zC)

def t3 (F:Nat) (h_1:zR):Nat→Int→(List (Int×y8))→Option (List (Int×y8))
  | 0,_,_=>none
  | n+1,v_1,zC=>qN F h_1 (t3 F h_1 n) v_1 zC

def qL (F:Nat) (l_1:List (zB)) (rec:Int→Int→(List (Int×y8))→Option (Int⊕Int)) (v4:Int) (v_2:Int) (yP:List (Int×y8)):Option (Int⊕Int) :=
  (bif decide (v_2<(((l_1).length:Nat):Int)) then (xW l_1 v_2).bind fun x_2 =>
  (pK F x_2).bind fun r_1 =>
  (bif (r_1 != (0:Int)) then some (.inr r_1) else
  (zJ9 (yD yP x_2.Thread) (some (.inr (5:Int))) fun x_3 =>
  (q5 x_3 x_2).bind fun r_2 =>
  (bif !r_2 then some (.inr (11:Int)) else
  (q8 x_3 x_2).bind fun r_3 =>
  rec (zJ (v4+(((x_2.Events).length:Nat):Int))) (zJ (v_2+(1:Int))) (uH yP x_2.Thread r_3)))) else
  some (.inl v4))

def t4 (F:Nat) (l_1:List (zB)):Nat→Int→Int→(List (Int×y8))→Option (Int⊕Int)
  | 0,_,_,_=>none
  | n+1,v4,v_2,yP=>qL F l_1 (t4 F l_1 n) v4 v_2 yP

def zBf (F:Nat) (h_1:zR) (l_1:List (zB)):Option Int :=
  (t3 F h_1 F (0:Int) ([]:List (Int×y8))).bind fun (o_1:(List (Int×y8))) =>
  (t4 F l_1 F (0:Int) (0:Int) o_1).bind fun (o_2:Int⊕Int) =>
  (match o_2 with
  | (.inl q_1) =>
  (bif decide (q_1>(20000:Int)) then some (7:Int) else
  some (0:Int))
  | (.inr q_2) =>
  some q_2)


def yG (s:zB):List AV:=[.int .i64 s.Thread,.int .i64 s.Serial,.int .i64 s.Lost]
def yR (l:List zB):AV:=.tuple [.sl false 4 (List.map zA (ini l)),.bool (!l.isEmpty),.agg (yG (lst l)),.sl false 6 (List.map zE (lst l).Events)]

def qU (F:Nat) (rec:(List zH)→(List zB)→Option (List zB)) (zQ:List zH) (zC:List zB):Option (List zB) :=
  (bif decide ((((zQ).length:Nat):Int)>(0:Int)) then (need ((0:Int)≤(zJ ((((zC).length:Nat):Int) - (1:Int)))∧(zJ ((((zC).length:Nat):Int) - (1:Int)))<(((zC).length:Nat):Int))).bind fun _ =>
  (need ((zJ ((((zC).length:Nat):Int) - (1:Int))).toNat+1=(zC).length)).bind fun _ =>
  (bif ((wC (zJ ((1000:Int) - ((((lst zC).Events).length:Nat):Int))) (((zQ).length:Nat):Int))==(0:Int)) then (need ((zJ ((((zC).length:Nat):Int) - (1:Int))).toNat+1=(zC).length)).bind fun _=>(need ((zJ ((((zC).length:Nat):Int) - (1:Int))).toNat+1=(zC).length)).bind fun _=>(need (((zC).length+1) * 48≤140737488355328)).bind fun _ =>
  rec zQ (zC++[(⟨(lst zC).Thread,zJ (((lst zC).Serial)+(1000:Int)),(0:Int),[]⟩:zB)]) else
  (need ((zJ ((((zC).length:Nat):Int) - (1:Int))).toNat+1=(zC).length)).bind fun _=>(need ((0:Int)≤(wC (zJ ((1000:Int) - ((((lst zC).Events).length:Nat):Int))) (((zQ).length:Nat):Int))∧(wC (zJ ((1000:Int) - ((((lst zC).Events).length:Nat):Int))) (((zQ).length:Nat):Int))≤(((zQ).length:Nat):Int))).bind fun _=>(need ((((lst zC).Events).length+(sub zQ (0:Int) (wC (zJ ((1000:Int) - ((((lst zC).Events).length:Nat):Int))) (((zQ).length:Nat):Int))).length) * 72≤140737488355328)).bind fun _=>(need ((zJ ((((zC).length:Nat):Int) - (1:Int))).toNat+1=(zC).length)).bind fun _ =>
  (need ((0:Int)≤(wC (zJ ((1000:Int) - ((((lst zC).Events).length:Nat):Int))) (((zQ).length:Nat):Int))∧(wC (zJ ((1000:Int) - ((((lst zC).Events).length:Nat):Int))) (((zQ).length:Nat):Int))≤(((zQ).length:Nat):Int))).bind fun _ =>
  rec (sub zQ (wC (zJ ((1000:Int) - ((((lst zC).Events).length:Nat):Int))) (((zQ).length:Nat):Int)) (((zQ).length:Nat):Int)) ((ini zC)++[(⟨(lst zC).Thread,(lst zC).Serial,(lst zC).Lost,(((lst zC).Events)++(sub zQ (0:Int) (wC (zJ ((1000:Int) - ((((lst zC).Events).length:Nat):Int))) (((zQ).length:Nat):Int))))⟩:zB)])) else
  some zC)

def nT (F:Nat):Nat→(List zH)→(List zB)→Option (List zB)
  | 0,_,_=>none
  | n+1,zQ,zC=>qU F (nT F n) zQ zC

def zB1 (F:Nat) (uB:List (zB)) (events_1:List (zH)):Option (List (zB)) :=
  (nT F F events_1 uB).bind fun (o_1:(List zB)) =>
  some o_1


def j5 (F:Nat) (l_1:List (zB)) (rec:Int→(List (Int×(List (zB))))→Option (List (Int×(List (zB))))) (v_1:Int) (zC:List (Int×(List (zB)))):Option (List (Int×(List (zB)))) :=
  (bif decide (v_1<(((l_1).length:Nat):Int)) then (xW l_1 v_1).bind fun x_1 =>
  (((bif (decide (x_1.Lost>(0:Int))||((((((yD zC x_1.Thread).getD [])).length:Nat):Int)==(0:Int))) then (need (((((yD zC x_1.Thread).getD [])).length+1) * 48≤140737488355328)).bind fun _ =>
  some (((yD zC x_1.Thread).getD [])++[(⟨x_1.Thread,x_1.Serial,x_1.Lost,[]⟩:zB)]) else
  some ((yD zC x_1.Thread).getD [])):Option (List zB))).bind fun (o_2:(List zB)) =>
  (zB1 F o_2 x_1.Events).bind fun r_3=>(need ((zC).length<140737488355328)).bind fun _ =>
  rec (zJ (v_1+(1:Int))) (uH zC x_1.Thread r_3) else
  some zC)

def kL (F:Nat) (l_1:List (zB)):Nat→Int→(List (Int×(List (zB))))→Option (List (Int×(List (zB))))
  | 0,_,_=>none
  | n+1,v_1,zC=>j5 F l_1 (kL F l_1 n) v_1 zC

def kC (F:Nat) (h_1:zR) (o_1:(List (Int×(List (zB))))) (rec:Int→(List zB)→Option (List zB)) (v_2:Int) (yP:List zB):Option (List zB) :=
  (bif decide (v_2<(((h_1.Threads).length:Nat):Int)) then (xW h_1.Threads v_2).bind fun x_2 =>
  (need (((yP).length+(((yD o_1 x_2.Id).getD [])).length) * 48≤140737488355328)).bind fun _ =>
  rec (zJ (v_2+(1:Int))) (yP++((yD o_1 x_2.Id).getD [])) else
  some yP)

def zAw (F:Nat) (h_1:zR) (o_1:(List (Int×(List (zB))))):Nat→Int→(List zB)→Option (List zB)
  | 0,_,_=>none
  | n+1,v_2,yP=>kC F h_1 o_1 (zAw F h_1 o_1 n) v_2 yP

def zAG (F:Nat) (h_1:zR) (l_1:List (zB)):Option (zX×Int) :=
  (zBd F h_1).bind fun r_1 =>
  (bif (r_1 != (0:Int)) then some ((⟨(⟨[],[],[]⟩:zR),[]⟩:zX),r_1) else
  (zBf F h_1 l_1).bind fun r_2 =>
  (bif (r_2 != (0:Int)) then some ((⟨(⟨[],[],[]⟩:zR),[]⟩:zX),r_2) else
  (kL F l_1 F (0:Int) ([]:List (Int×(List (zB))))).bind fun (o_1:(List (Int×(List (zB))))) =>
  (zAw F h_1 o_1 F (0:Int) []).bind fun (o_3:(List zB)) =>
  some ((⟨h_1,o_3⟩:zX),(0:Int))))


def yW (F:Nat) (s1_1:List (zP)) (s2_1:List (zP)) (rec:Int→Option (Unit⊕Bool)) (v_1:Int):Option (Unit⊕Bool) :=
  (bif decide (v_1<(((s1_1).length:Nat):Int)) then (xW s1_1 v_1).bind fun x_1=>(xW s2_1 v_1).bind fun x_2 =>
  (bif (!(decide (x_1=x_2))) then some (.inr false) else
  rec (zJ (v_1+(1:Int)))) else
  some (.inl ()))

def xJ (F:Nat) (s1_1:List (zP)) (s2_1:List (zP)):Nat→Int→Option (Unit⊕Bool)
  | 0,_=>none
  | n+1,v_1=>yW F s1_1 s2_1 (xJ F s1_1 s2_1 n) v_1

def xP (F:Nat) (s1_1:List (zP)) (s2_1:List (zP)):Option Bool :=
  (bif ((((s1_1).length:Nat):Int) != (((s2_1).length:Nat):Int)) then some false else
  (xJ F s1_1 s2_1 F (0:Int)).bind fun (o_1:Unit⊕Bool) =>
  (match o_1 with
  | (.inl q_1) =>
  some true
  | (.inr q_2) =>
  some q_2))


def yV (F:Nat) (s1_1:List (zL)) (s2_1:List (zL)) (rec:Int→Option (Unit⊕Bool)) (v_1:Int):Option (Unit⊕Bool) :=
  (bif decide (v_1<(((s1_1).length:Nat):Int)) then (xW s1_1 v_1).bind fun x_1=>(xW s2_1 v_1).bind fun x_2 =>
  (bif (!(decide (x_1=x_2))) then some (.inr false) else
  rec (zJ (v_1+(1:Int)))) else
  some (.inl ()))

def xK (F:Nat) (s1_1:List (zL)) (s2_1:List (zL)):Nat→Int→Option (Unit⊕Bool)
  | 0,_=>none
  | n+1,v_1=>yV F s1_1 s2_1 (xK F s1_1 s2_1 n) v_1

def xN (F:Nat) (s1_1:List (zL)) (s2_1:List (zL)):Option Bool :=
  (bif ((((s1_1).length:Nat):Int) != (((s2_1).length:Nat):Int)) then some false else
  (xK F s1_1 s2_1 F (0:Int)).bind fun (o_1:Unit⊕Bool) =>
  (match o_1 with
  | (.inl q_1) =>
  some true
  | (.inr q_2) =>
  some q_2))


def y4 (F:Nat) (s1_1:List (x9)) (s2_1:List (x9)) (rec:Int→Option (Unit⊕Bool)) (v_1:Int):Option (Unit⊕Bool) :=
  (bif decide (v_1<(((s1_1).length:Nat):Int)) then (xW s1_1 v_1).bind fun x_1=>(xW s2_1 v_1).bind fun x_2 =>
  (bif (!(decide (x_1=x_2))) then some (.inr false) else
  rec (zJ (v_1+(1:Int)))) else
  some (.inl ()))

def xQ (F:Nat) (s1_1:List (x9)) (s2_1:List (x9)):Nat→Int→Option (Unit⊕Bool)
  | 0,_=>none
  | n+1,v_1=>y4 F s1_1 s2_1 (xQ F s1_1 s2_1 n) v_1

def xY (F:Nat) (s1_1:List (x9)) (s2_1:List (x9)):Option Bool :=
  (bif ((((s1_1).length:Nat):Int) != (((s2_1).length:Nat):Int)) then some false else
  (xQ F s1_1 s2_1 F (0:Int)).bind fun (o_1:Unit⊕Bool) =>
  (match o_1 with
  | (.inl q_1) =>
  some true
  | (.inr q_2) =>
  some q_2))


def wD (F:Nat) (s1_1:List (List Int)) (s2_1:List (List Int)) (rec:Int→Option (Unit⊕Bool)) (v_1:Int):Option (Unit⊕Bool) :=
  (bif decide (v_1<(((s1_1).length:Nat):Int)) then (xW s1_1 v_1).bind fun x_1=>(xW s2_1 v_1).bind fun x_2 =>
  (bif !(x_1==x_2) then some (.inr false) else
  rec (zJ (v_1+(1:Int)))) else
  some (.inl ()))

def vQ (F:Nat) (s1_1:List (List Int)) (s2_1:List (List Int)):Nat→Int→Option (Unit⊕Bool)
  | 0,_=>none
  | n+1,v_1=>wD F s1_1 s2_1 (vQ F s1_1 s2_1 n) v_1

def v8 (F:Nat) (s1_1:List (List Int)) (s2_1:List (List Int)):Option Bool :=
  (bif ((((s1_1).length:Nat):Int) != (((s2_1).length:Nat):Int)) then some false else
  (vQ F s1_1 s2_1 F (0:Int)).bind fun (o_1:Unit⊕Bool) =>
  (match o_1 with
  | (.inl q_1) =>
  some true
  | (.inr q_2) =>
  some q_2))


def zAB (F:Nat) (a_1:zH) (b_1:zH):Option Bool :=
  ((bif (a_1.At==b_1.At) then (bif (a_1.Kind==b_1.Kind) then (bif (a_1.Name==b_1.Name) then (bif (a_1.N==b_1.N) then (bif (a_1.M==b_1.M) then ((v8 F a_1.Stack b_1.Stack).bind fun r_1=>some r_1) else (some false)) else (some false)) else (some false)) else (some false)) else (some false))).bind fun (p_1:Bool) =>
  some p_1


def z7 (F:Nat) (s1_1:List (zH)) (s2_1:List (zH)) (rec:Int→Option (Unit⊕Bool)) (v_1:Int):Option (Unit⊕Bool) :=
  (bif decide (v_1<(((s1_1).length:Nat):Int)) then (xW s1_1 v_1).bind fun x_1 =>
  (xW s2_1 v_1).bind fun x_2 =>
  (zAB F x_1 x_2).bind fun r_1 =>
  (bif !r_1 then some (.inr false) else
  rec (zJ (v_1+(1:Int)))) else
  some (.inl ()))

def yK (F:Nat) (s1_1:List (zH)) (s2_1:List (zH)):Nat→Int→Option (Unit⊕Bool)
  | 0,_=>none
  | n+1,v_1=>z7 F s1_1 s2_1 (yK F s1_1 s2_1 n) v_1

def yZ (F:Nat) (s1_1:List (zH)) (s2_1:List (zH)):Option Bool :=
  (bif ((((s1_1).length:Nat):Int) != (((s2_1).length:Nat):Int)) then some false else
  (yK F s1_1 s2_1 F (0:Int)).bind fun (o_1:Unit⊕Bool) =>
  (match o_1 with
  | (.inl q_1) =>
  some true
  | (.inr q_2) =>
  some q_2))


def nW (F:Nat) (a_1:zB) (b_1:zB):Option Bool :=
  ((bif (a_1.Thread==b_1.Thread) then (bif (a_1.Serial==b_1.Serial) then (bif (a_1.Lost==b_1.Lost) then ((yZ F a_1.Events b_1.Events).bind fun r_1=>some r_1) else (some false)) else (some false)) else (some false))).bind fun (p_1:Bool) =>
  some p_1


def zBD (F:Nat) (p_1:zB) (q_1:zB):Option Bool :=
  (nW F p_1 q_1).bind fun r_1 =>
  some r_1


def z4 (F:Nat) (s1_1:List (zB)) (s2_1:List (zB)) (rec:Int→Option (Unit⊕Bool)) (v_1:Int):Option (Unit⊕Bool) :=
  (bif decide (v_1<(((s1_1).length:Nat):Int)) then (xW s1_1 v_1).bind fun x_1 =>
  (xW s2_1 v_1).bind fun x_2 =>
  (zBD F x_1 x_2).bind fun r_1 =>
  (bif !r_1 then some (.inr false) else
  rec (zJ (v_1+(1:Int)))) else
  some (.inl ()))

def yF (F:Nat) (s1_1:List (zB)) (s2_1:List (zB)):Nat→Int→Option (Unit⊕Bool)
  | 0,_=>none
  | n+1,v_1=>z4 F s1_1 s2_1 (yF F s1_1 s2_1 n) v_1

def yJ (F:Nat) (s1_1:List (zB)) (s2_1:List (zB)):Option Bool :=
  (bif ((((s1_1).length:Nat):Int) != (((s2_1).length:Nat):Int)) then some false else
  (yF F s1_1 s2_1 F (0:Int)).bind fun (o_1:Unit⊕Bool) =>
  (match o_1 with
  | (.inl q_1) =>
  some true
  | (.inr q_2) =>
  some q_2))


def zBM (F:Nat) (a_1:zX) (b_1:zX):Option Bool :=
  (((xP F a_1.Head.Threads b_1.Head.Threads).bind fun r_1=>bif r_1 then ((xN F a_1.Head.Domains b_1.Head.Domains).bind fun r_2=>bif r_2 then ((xY F a_1.Head.Snaps b_1.Head.Snaps).bind fun r_3=>bif r_3 then ((yJ F a_1.Parts b_1.Parts).bind fun r_4=>some r_4) else (some false)) else (some false)) else (some false))).bind fun (p_1:Bool) =>
  some p_1


def kI (F:Nat) (l_1:zX):Option Int :=
  (zAG F l_1.Head l_1.Parts).bind fun r_1 =>
  ((bif (r_1.2==(0:Int)) then ((zBM F r_1.1 l_1).bind fun r_2=>some (!r_2)) else (some false))).bind fun (p_1:Bool) =>
  (bif p_1 then some (10:Int) else
  some r_1.2)


structure yE where
  Thread:Int
  Serial:Int
  Count:Int
  deriving DecidableEq,Inhabited
def vG (s:yE):List AV:=[.int .i64 s.Thread,.int .i64 s.Serial,.int .i64 s.Count]
def z8 (s:yE):AV:=.agg (vG s)

def q6 (F:Nat) (l_1:zX) (rec:Int→(List yE)→Option (List yE)) (v_1:Int) (zC:List yE):Option (List yE) :=
  (bif decide (v_1<(((l_1.Parts).length:Nat):Int)) then (xW l_1.Parts v_1).bind fun x_1 =>
  (bif decide (x_1.Lost>(0:Int)) then (need (((zC).length+(([(⟨x_1.Thread,zJ (x_1.Serial - x_1.Lost),x_1.Lost⟩:yE)]:List yE)).length) * 24≤140737488355328)).bind fun _ =>
  rec (zJ (v_1+(1:Int))) (zC++([(⟨x_1.Thread,zJ (x_1.Serial - x_1.Lost),x_1.Lost⟩:yE)]:List yE)) else
  rec (zJ (v_1+(1:Int))) zC) else
  some zC)

def k8 (F:Nat) (l_1:zX):Nat→Int→(List yE)→Option (List yE)
  | 0,_,_=>none
  | n+1,v_1,zC=>q6 F l_1 (k8 F l_1 n) v_1 zC

def zA0 (F:Nat) (l_1:zX):Option (List (yE)) :=
  (kI F l_1).bind fun r_1 =>
  (bif (r_1 != (0:Int)) then some [] else
  (k8 F l_1 F (0:Int) []).bind fun (o_1:(List yE)) =>
  some o_1)


structure yC where
  Thread:Int
  Serial:Int
  deriving DecidableEq,Inhabited
def wY (s:yC):List AV:=[.int .i64 s.Thread,.int .i64 s.Serial]
def yS (s:yC):AV:=.agg (wY s)

def tH (F:Nat) (l_1:zX) (xX:yC) (rec:Int→Option (Unit⊕(zH×Bool))) (v_1:Int):Option (Unit⊕(zH×Bool)) :=
  (bif decide (v_1<(((l_1.Parts).length:Nat):Int)) then (xW l_1.Parts v_1).bind fun x_1 =>
  (bif ((x_1.Thread==xX.Thread)&&(decide (xX.Serial≥x_1.Serial)&&decide (xX.Serial<(zJ (x_1.Serial+(((x_1.Events).length:Nat):Int)))))) then (xW x_1.Events (zJ (xX.Serial - x_1.Serial))).bind fun x_2 =>
  some (.inr (x_2,true)) else
  rec (zJ (v_1+(1:Int)))) else
  some (.inl ()))

def nH (F:Nat) (l_1:zX) (xX:yC):Nat→Int→Option (Unit⊕(zH×Bool))
  | 0,_=>none
  | n+1,v_1=>tH F l_1 xX (nH F l_1 xX n) v_1

def zA3 (F:Nat) (l_1:zX) (xX:yC):Option (zH×Bool) :=
  (kI F l_1).bind fun r_1 =>
  (bif (r_1 != (0:Int)) then some ((⟨(0:Int),(0:Int),([]:List Int),(0:Int),(0:Int),[]⟩:zH),false) else
  (nH F l_1 xX F (0:Int)).bind fun (o_1:Unit⊕(zH×Bool)) =>
  (match o_1 with
  | (.inl q_1) =>
  some ((⟨(0:Int),(0:Int),([]:List Int),(0:Int),(0:Int),[]⟩:zH),false)
  | (.inr q_2) =>
  some q_2))


def pE (F:Nat):Option Bool :=
  (zAk F (0:Int) (0:Int) ([(1:Int),(2:Int)]:List Int)).bind fun r_1=>(zAk F (2:Int) (0:Int) ([(2:Int),(3:Int)]:List Int)).bind fun r_2=>(zAG F (⟨([(⟨(1:Int),([116,49]:List Int),(0:Int)⟩:zP)]:List zP),([(⟨(0:Int),(0:Int)⟩:zL)]:List zL),[]⟩:zR) ([r_1,r_2]:List zB)).bind fun r_3 =>
  (zAk F (3:Int) (3:Int) ([(5:Int)]:List Int)).bind fun r_4=>(zAG F (⟨([(⟨(1:Int),([116,49]:List Int),(0:Int)⟩:zP)]:List zP),([(⟨(0:Int),(0:Int)⟩:zL)]:List zL),[]⟩:zR) ([r_4]:List zB)).bind fun r_5 =>
  (zAk F (3:Int) (2:Int) ([(5:Int)]:List Int)).bind fun r_6=>(zAG F (⟨([(⟨(1:Int),([116,49]:List Int),(0:Int)⟩:zP)]:List zP),([(⟨(0:Int),(0:Int)⟩:zL)]:List zL),[]⟩:zR) ([r_6]:List zB)).bind fun r_7 =>
  (zA0 F r_5.1).bind fun r_8 =>
  (zA3 F r_3.1 (⟨(1:Int),(3:Int)⟩:yC)).bind fun r_9 =>
  ((bif (r_3.2==(0:Int)) then (bif ((((r_3.1.Parts).length:Nat):Int)==(1:Int)) then ((xW r_3.1.Parts (0:Int)).bind fun x_1=>bif ((((x_1.Events).length:Nat):Int)==(4:Int)) then (bif (r_5.2==(0:Int)) then (bif ((((r_8).length:Nat):Int)==(1:Int)) then ((xW r_8 (0:Int)).bind fun x_2=>bif (decide (x_2=(⟨(1:Int),(0:Int),(3:Int)⟩:yE))) then (bif (r_7.2==(11:Int)) then (bif r_9.2 then (bif (r_9.1.At==(3:Int)) then ((kI F r_3.1).bind fun xE=>some (xE==(0:Int))) else (some false)) else (some false)) else (some false)) else (some false)) else (some false)) else (some false)) else (some false)) else (some false)) else (some false))).bind fun (p_1:Bool) =>
  some p_1


def jP (F:Nat) (l_1:List (zB)) (zU:Int) (rec:Int→Int→Int→Option (Int×Int)) (n_1:Int) (pM:Int) (i_1:Int):Option (Int×Int) :=
  (bif decide (i_1<(((l_1).length:Nat):Int)) then (((xW l_1 i_1).bind fun x_1 =>
  (bif (x_1.Thread==zU) then (xW l_1 i_1).bind fun x_2=>(xW l_1 i_1).bind fun x_3 =>
  (xW l_1 i_1).bind fun x_4=>(xW l_1 i_1).bind fun x_5=>(xW x_4.Events (zJ ((((x_5.Events).length:Nat):Int) - (1:Int)))).bind fun x_6 =>
  some (zJ (x_2.Serial+(((x_3.Events).length:Nat):Int)),x_6.At) else
  some (n_1,pM)):Option (Int×Int))).bind fun (o_2:(Int×Int)) =>
  rec o_2.1 o_2.2 (zJ (i_1+(1:Int))) else
  some (n_1,pM))

def nF (F:Nat) (l_1:List (zB)) (zU:Int):Nat→Int→Int→Int→Option (Int×Int)
  | 0,_,_,_=>none
  | n+1,n_1,pM,i_1=>jP F l_1 zU (nF F l_1 zU n) n_1 pM i_1

def zCC (F:Nat) (l_1:List (zB)) (zU:Int):Option (Int×Int) :=
  (nF F l_1 zU F (0:Int) (0:Int) (0:Int)).bind fun (o_1:(Int×Int)) =>
  some (o_1.1,o_1.2)


def t0 (F:Nat) (l_1:List (zB)) (rec:Int→Int→Option Int) (n_1:Int) (i_1:Int):Option Int :=
  (bif decide (i_1<(((l_1).length:Nat):Int)) then (xW l_1 i_1).bind fun x_1 =>
  rec (zJ (n_1+(((x_1.Events).length:Nat):Int))) (zJ (i_1+(1:Int))) else
  some n_1)

def jB (F:Nat) (l_1:List (zB)):Nat→Int→Int→Option Int
  | 0,_,_=>none
  | n+1,n_1,i_1=>t0 F l_1 (jB F l_1 n) n_1 i_1

def zAE (F:Nat) (l_1:List (zB)):Option Int :=
  (jB F l_1 F (0:Int) (0:Int)).bind fun (o_1:Int) =>
  some o_1


def jO (F:Nat) (x_1:zB) (rec:Int→(List yC)→Option (List yC)) (v_2:Int) (yP:List yC):Option (List yC) :=
  (bif decide (v_2<(((x_1.Events).length:Nat):Int)) then (need (((yP).length+(([(⟨x_1.Thread,zJ (x_1.Serial+v_2)⟩:yC)]:List yC)).length) * 16≤140737488355328)).bind fun _ =>
  rec (zJ (v_2+(1:Int))) (yP++([(⟨x_1.Thread,zJ (x_1.Serial+v_2)⟩:yC)]:List yC)) else
  some yP)

def pX (F:Nat) (x_1:zB):Nat→Int→(List yC)→Option (List yC)
  | 0,_,_=>none
  | n+1,v_2,yP=>jO F x_1 (pX F x_1 n) v_2 yP

def jR (F:Nat) (l_1:zX) (rec:Int→(List yC)→Option (List yC)) (v_1:Int) (zC:List yC):Option (List yC) :=
  (bif decide (v_1<(((l_1.Parts).length:Nat):Int)) then (xW l_1.Parts v_1).bind fun x_1 =>
  (pX F x_1 F (0:Int) zC).bind fun (o_2:(List yC)) =>
  rec (zJ (v_1+(1:Int))) o_2 else
  some zC)

def nD (F:Nat) (l_1:zX):Nat→Int→(List yC)→Option (List yC)
  | 0,_,_=>none
  | n+1,v_1,zC=>jR F l_1 (nD F l_1 n) v_1 zC

def zCY (F:Nat) (l_1:zX):Option (List (yC)) :=
  (kI F l_1).bind fun r_1 =>
  (bif (r_1 != (0:Int)) then some [] else
  (nD F l_1 F (0:Int) []).bind fun (o_1:(List yC)) =>
  some o_1)


def u7 (F:Nat) (zU:Int) (r_4:zX×Int) (r_6:Int×Int) (r_8:(List (yC))) (rec:Int→(List Int)→Option ((List Int)⊕Bool)) (v_1:Int) (zC:List Int):Option ((List Int)⊕Bool) :=
  (bif decide (v_1<(((r_8).length:Nat):Int)) then (xW r_8 v_1).bind fun x_1 =>
  (bif (x_1.Thread != zU) then rec (zJ (v_1+(1:Int))) zC else
  (zA3 F r_4.1 x_1).bind fun r_9 =>
  (bif (!r_9.2||(decide (x_1.Serial<(0:Int))||decide (x_1.Serial≥r_6.1))) then some (.inr false) else
  (xW zC x_1.Serial).bind fun x_2=>(xW zC x_1.Serial).bind fun x_3 =>
  rec (zJ (v_1+(1:Int))) ((zC).set ((x_1.Serial).toNat) (zJ (x_2+(1:Int)))))) else
  some (.inl zC))

def tW (F:Nat) (zU:Int) (r_4:zX×Int) (r_6:Int×Int) (r_8:(List (yC))):Nat→Int→(List Int)→Option ((List Int)⊕Bool)
  | 0,_,_=>none
  | n+1,v_1,zC=>u7 F zU r_4 r_6 r_8 (tW F zU r_4 r_6 r_8 n) v_1 zC

def vW (F:Nat) (zU:Int) (r_4:zX×Int) (r_6:Int×Int) (x_4:yE) (rec:Int→(List Int)→Option ((List Int)⊕Bool)) (k_1:Int) (wX:List Int):Option ((List Int)⊕Bool) :=
  (bif (decide (k_1<x_4.Count)&&(x_4.Thread==zU)) then (zA3 F r_4.1 (⟨zU,zJ (x_4.Serial+k_1)⟩:yC)).bind fun pN =>
  (bif (pN.2||(decide (x_4.Serial<(0:Int))||decide ((zJ (x_4.Serial+k_1))≥r_6.1))) then some (.inr false) else
  (xW wX (zJ (x_4.Serial+k_1))).bind fun x_5=>(xW wX (zJ (x_4.Serial+k_1))).bind fun x_6 =>
  rec (zJ (k_1+(1:Int))) ((wX).set ((zJ (x_4.Serial+k_1)).toNat) (zJ (x_5+(1:Int))))) else
  some (.inl wX))

def uJ (F:Nat) (zU:Int) (r_4:zX×Int) (r_6:Int×Int) (x_4:yE):Nat→Int→(List Int)→Option ((List Int)⊕Bool)
  | 0,_,_=>none
  | n+1,k_1,wX=>vW F zU r_4 r_6 x_4 (uJ F zU r_4 r_6 x_4 n) k_1 wX

def u9 (F:Nat) (zU:Int) (r_4:zX×Int) (r_6:Int×Int) (xE:(List (yE))) (rec:Int→(List Int)→Option ((List Int)⊕Bool)) (v_2:Int) (yP:List Int):Option ((List Int)⊕Bool) :=
  (bif decide (v_2<(((xE).length:Nat):Int)) then (xW xE v_2).bind fun x_4 =>
  (uJ F zU r_4 r_6 x_4 F (0:Int) yP).bind fun (o_3:(List Int)⊕Bool) =>
  (match o_3 with
  | (.inl q_3) =>
  rec (zJ (v_2+(1:Int))) q_3
  | (.inr q_4) =>
  some (.inr q_4)) else
  some (.inl yP))

def tV (F:Nat) (zU:Int) (r_4:zX×Int) (r_6:Int×Int) (xE:(List (yE))):Nat→Int→(List Int)→Option ((List Int)⊕Bool)
  | 0,_,_=>none
  | n+1,v_2,yP=>u9 F zU r_4 r_6 xE (tV F zU r_4 r_6 xE n) v_2 yP

def tA (F:Nat) (q_5:(List Int)) (rec:Int→Option (Unit⊕Bool)) (v_3:Int):Option (Unit⊕Bool) :=
  (bif decide (v_3<(((q_5).length:Nat):Int)) then (xW q_5 v_3).bind fun x_7 =>
  (bif (x_7 != (1:Int)) then some (.inr false) else
  rec (zJ (v_3+(1:Int)))) else
  some (.inl ()))

def tX (F:Nat) (q_5:(List Int)):Nat→Int→Option (Unit⊕Bool)
  | 0,_=>none
  | n+1,v_3=>tA F q_5 (tX F q_5 n) v_3

def qF (F:Nat) (h_1:zR) (l_1:List (zB)) (zU:Int):Option Bool :=
  (((zBh F h_1 l_1).bind fun r_1=>bif !r_1 then (some true) else ((zAE F l_1).bind fun r_2=>some (decide (r_2>(300:Int)))))).bind fun (p_1:Bool) =>
  (bif p_1 then (pE F).bind fun r_3 =>
  some r_3 else
  (zAG F h_1 l_1).bind fun r_4 =>
  (bif (r_4.2 != (0:Int)) then (pE F).bind fun r_5 =>
  some r_5 else
  (zCC F l_1 zU).bind fun r_6 =>
  (bif (decide (r_6.1<(0:Int))||decide (r_6.1>(5000:Int))) then (pE F).bind fun r_7 =>
  some r_7 else
  (need ((0:Int)≤r_6.1∧((r_6.1).toNat) * 8≤281474976710656)).bind fun _ =>
  (zCY F r_4.1).bind fun r_8 =>
  (tW F zU r_4 r_6 r_8 F (0:Int) (List.replicate ((r_6.1).toNat) (0:Int))).bind fun (o_1:(List Int)⊕Bool) =>
  (match o_1 with
  | (.inl q_1) =>
  (zA0 F r_4.1).bind fun xE =>
  (tV F zU r_4 r_6 xE F (0:Int) q_1).bind fun (o_2:(List Int)⊕Bool) =>
  (match o_2 with
  | (.inl q_5) =>
  (tX F q_5 F (0:Int)).bind fun (o_4:Unit⊕Bool) =>
  (match o_4 with
  | (.inl q_7) =>
  (pE F).bind fun r_12 =>
  some r_12
  | (.inr q_8) =>
  some q_8)
  | (.inr q_6) =>
  some q_6)
  | (.inr q_2) =>
  some q_2))))


end Go.Ab
