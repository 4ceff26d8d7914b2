/- Plain laws of the functions w8 this seat's, laid anew from another seat's text. No conditions but those that the theorems name. -/
import Derived.Test.YtoeengmnmhhpgaaGreatP15zxD
import Derived.Test.YtoeengmnmhhpgaaGreatR15z
import Derived.Test.YtoeengmnmhhpgaaGreatB15za
import Derived.Test.YtoeengmnmhhpgaaGreatB15zb
import Derived.Test.YtoeengmnmhhpgaaGreatB15zc
import Derived.Test.YtoeengmnmhhpgaaGreatB15zd
import Derived.Test.YtoeengmnmhhpgaaGreatB15ze
import Derived.Test.YtoeengmnmhhpgaaGreatB15zf
import Derived.Test.YtoeengmnmhhpgaaGreatB15zg
import Derived.Test.YtoeengmnmhhpgaaGreatB15zh
import Derived.Test.YtoeengmnmhhpgaaGreatB15zi
import Derived.Test.YtoeengmnmhhpgaaGreatB15zj
import Derived.Test.YtoeengmnmhhpgaaGreatB15zk
import Derived.Test.YtoeengmnmhhpgaaGreatB15zt
import Derived.Test.YtoeengmnmhhpgaaGreatB15zm
import Derived.Test.YtoeengmnmhhpgaaGreatB15zn
import Derived.Test.YtoeengmnmhhpgaaGreatB15zo
import Derived.Test.YtoeengmnmhhpgaaGreatC15za
import Derived.Test.YtoeengmnmhhpgaaGreatC15zb
import Derived.Test.YtoeengmnmhhpgaaGreatC15zc
import Derived.Test.YtoeengmnmhhpgaaGreatC15zd
namespace Go.Ab
open Go
set_option linter.unusedVariables false
/-- What a reader knows: what complete flushes say, and what was read since. -/
structure RdS where
  snaps:List y2
  packs:List yE
  used:Int
  cs:List y2
  cp:List yE
  pos:Int
  stage:Nat
def KB (h:z6) (l:List yE) (body:List Int):Prop:=(b9 body).2.2=0∧(b9 body).2.1=(body.length:Int)∧(b9 body).1.Thread∈OJ h∧T1 l (b9 body).1=true∧evN l+(b9 body).1.Events.length≤20000
instance decGoodP {h:z6} {l:List yE} {b:List Int}:Decidable (KB h l b):=inferInstanceAs (Decidable (_∧_))
def TR (h:z6) (st:RdS) (k:Int) (body:List Int) (pos:Int):Option RdS :=
  if k=83 then (if st.stage≤1 then (match U8 body with
    | some (x,[])=>if qL h.Domains (st.cs++[x])=0 then some { st with cs:=st.cs++[x],stage:=1,pos:=pos } else none
    | _=>none) else none)
  else if k=80 then (if KB h st.cp body then some { st with cp:=st.cp++[(b9 body).1],stage:=2,pos:=pos } else none)
  else if k=70 then (if body=[]∧st.stage≠0 then some ⟨st.cs,st.cp,pos,st.cs,st.cp,pos,0⟩ else none)
  else none
def J1 (h:z6):Nat→RdS→List Int→RdS
  | 0,st,_=>st
  | n+1,st,b=>match W4 b with
    | none=>st
    | some (k,body,r)=>match TR h st k body (st.pos+((b.length:Int) - r.length)) with
      | none=>st
      | some st'=>J1 h n st' r
def UM (h:z6) (n:Int):RdS:=⟨h.Snaps,[],n,h.Snaps,[],n,0⟩
def fin (b:List Int) (h:z6) (r:List Int):RdS:=J1 h r.length (UM h ((b.length:Int) - r.length)) r
/-- What a reader's state keeps. -/
structure RdI (st:RdS):Prop where
  v:WJ st.cp
  ev:evN st.cp≤20000
  cs:st.cs.length≤200
  pre:∃ m,st.cp=st.packs++m
  snaps:st.snaps.length≤200
  stg:st.stage≤2
/-! The program's side. -/
end Go.Ab
