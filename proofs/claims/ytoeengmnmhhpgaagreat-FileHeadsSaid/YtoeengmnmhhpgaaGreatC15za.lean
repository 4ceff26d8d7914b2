/- Plain laws of the functions w8 this seat's, laid anew from another seat's text. No conditions but those that the theorems name. -/
import Derived.Test.YtoeengmnmhhpgaaGreatP15zxD
import Derived.Test.YtoeengmnmhhpgaaGreatR15z
import Derived.Test.YtoeengmnmhhpgaaGreatB15za
import Derived.Test.YtoeengmnmhhpgaaGreatB15zb
import Derived.Test.YtoeengmnmhhpgaaGreatB15zc
import Derived.Test.YtoeengmnmhhpgaaGreatB15zd
import Derived.Test.YtoeengmnmhhpgaaGreatB15ze
import Derived.Test.YtoeengmnmhhpgaaGreatB15zf
import Derived.Test.YtoeengmnmhhpgaaGreatB15zg
import Derived.Test.YtoeengmnmhhpgaaGreatB15zh
import Derived.Test.YtoeengmnmhhpgaaGreatB15zi
import Derived.Test.YtoeengmnmhhpgaaGreatB15zj
import Derived.Test.YtoeengmnmhhpgaaGreatB15zk
import Derived.Test.YtoeengmnmhhpgaaGreatB15zt
import Derived.Test.YtoeengmnmhhpgaaGreatB15zm
import Derived.Test.YtoeengmnmhhpgaaGreatB15zn
import Derived.Test.YtoeengmnmhhpgaaGreatB15zo
namespace Go.Ab
open Go
set_option linter.unusedVariables false
def kC (b:List Int):Prop:=(∀ x∈b,v6 x)∧b.length≤100000
theorem kC.drop {b:List Int} (h:kC b) (n:Nat):kC (b.drop n):=⟨fun x hx=>h.1 x (List.mem_of_mem_drop hx),by rw [List.length_drop];have:=h.2;omega⟩
theorem kC.nil:kC []:=⟨fun x hx=>(by cases hx),by simp⟩
def p9 (n:Int):List Int:=tT 9 (tU n)
theorem mO (n:Int):1≤(p9 n).length∧(p9 n).length≤10:=CG 9 _
def bI (b:List Int):Option (Int×List Int):=if (vrd b 0 0).2.2=0 then some ((vrd b 0 0).1,b.drop (vrd b 0 0).2.1.toNat) else none
def iU {α β:Type} (p:List Int→Option (α×List Int)) (q:α→List Int→Option (β×List Int)) (b:List Int):Option (β×List Int):=(p b).bind fun x=>q x.1 x.2
def KX {α:Type} (x:α) (b:List Int):Option (α×List Int):=some (x,b)
/-- What a parser accepts is an encoding, and it reads encodings back. -/
structure Cod {α:Type} (p:List Int→Option (α×List Int)) (enc:α→List Int) (lim:α→Prop):Prop where
  uniq:∀ b x r,(∀ y∈b,v6 y)→p b=some (x,r)→b=enc x++r∧lim x
  back:∀ x r,lim x→p (enc x++r)=some (x,r)
theorem Cod.enc {α:Type} {p:List Int→Option (α×List Int)} {enc enc':α→List Int} {lim lim':α→Prop} (h:Cod p enc lim) (he:∀ x,enc x=enc' x) (hl:∀ x,lim x↔lim' x):Cod p enc' lim' :=
  ⟨fun b x r hb hp=>by rw [← he,← hl];exact h.uniq b x r hb hp,fun x r hx=>by rw [← he];exact h.back x r ((hl x).2 hx)⟩
/-! A head's parts. -/
def U8:List Int→Option (y2×List Int):=iU bI fun a=>iU bI fun ata=>iU bI fun b=>iU bI fun lo=>iU bI fun hi=>KX ⟨a,ata,b,⟨lo,hi⟩⟩
def M1 (t:y6):Prop:=w3 t.Id∧t.Name.length≤40∧w3 t.Domain
def R4 (d:yQ):Prop:=w3 d.Id∧w3 d.Ppm
def N8 (s:y2):Prop:=w3 s.A∧w3 s.AtA∧w3 s.B∧w3 s.AtB.Lo∧w3 s.AtB.Hi
structure XK (h:z6):Prop where
  nt:h.Threads.length≤64
  t:∀ x∈h.Threads,M1 x
  nd:h.Domains.length≤8
  d:∀ x∈h.Domains,R4 x
  ns:h.Snaps.length≤200
  s:∀ x∈h.Snaps,N8 x
end Go.Ab
