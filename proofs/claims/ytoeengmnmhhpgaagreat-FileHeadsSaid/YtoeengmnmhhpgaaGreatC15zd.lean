/- Plain laws of the functions w8 this seat's, laid anew from another seat's text. No conditions but those that the theorems name. -/
import Derived.Test.YtoeengmnmhhpgaaGreatP15zxD
import Derived.Test.YtoeengmnmhhpgaaGreatR15z
import Derived.Test.YtoeengmnmhhpgaaGreatB15za
import Derived.Test.YtoeengmnmhhpgaaGreatB15zb
import Derived.Test.YtoeengmnmhhpgaaGreatB15zc
import Derived.Test.YtoeengmnmhhpgaaGreatB15zd
import Derived.Test.YtoeengmnmhhpgaaGreatB15ze
import Derived.Test.YtoeengmnmhhpgaaGreatB15zf
import Derived.Test.YtoeengmnmhhpgaaGreatB15zg
import Derived.Test.YtoeengmnmhhpgaaGreatB15zh
import Derived.Test.YtoeengmnmhhpgaaGreatB15zi
import Derived.Test.YtoeengmnmhhpgaaGreatB15zj
import Derived.Test.YtoeengmnmhhpgaaGreatB15zk
import Derived.Test.YtoeengmnmhhpgaaGreatB15zt
import Derived.Test.YtoeengmnmhhpgaaGreatB15zm
import Derived.Test.YtoeengmnmhhpgaaGreatB15zn
import Derived.Test.YtoeengmnmhhpgaaGreatB15zo
import Derived.Test.YtoeengmnmhhpgaaGreatC15za
import Derived.Test.YtoeengmnmhhpgaaGreatC15zb
import Derived.Test.YtoeengmnmhhpgaaGreatC15zc
namespace Go.Ab
open Go
set_option linter.unusedVariables false
/-! Chunks. -/
def pR (k:Int) (b:List Int):Int:=i32 (kF (k::b))
theorem G5 (k:Int) (b:List Int):w3 (pR k b):=by
  have:=fV (kF (k::b))
  unfold pR w3;omega
def mZ (k:Int) (b:List Int):List Int:=k::(p9 b.length++p9 (pR k b)++b)
def W4:List Int→Option (Int×List Int×List Int)
  | []=>none
  | k::t=>(bI t).bind fun x=>(bI x.2).bind fun y=>if 0≤x.1∧x.1≤y.2.length∧pR k (y.2.take x.1.toNat)=y.1 then some (k,y.2.take x.1.toNat,y.2.drop x.1.toNat) else none
theorem Q7 {k:Int} {b:List Int} (hk:v6 k) (hb:∀ x∈b,v6 x) (hl:b.length≤100000):cN 281474976710656 k b=some (pR k b):=by
  unfold cN
  rw [t8 (by simp only [List.length_singleton];omega),zbs,List.singleton_append,U1 (fun x hx=>by rcases List.mem_cons.1 hx with rfl | hx;exact hk;exact hb x hx) (by simp only [List.length_cons];omega) (by omega) (by simp only [List.length_cons];omega)];rfl
theorem XG {k:Int} {b:List Int} (hk:v6 k) (hb:∀ x∈b,v6 x) (hl:b.length≤100000):kV 281474976710656 k b=some (mZ k b):=by
  have h1:=(mO (b.length:Int)).2;have h2:=(mO (pR k b)).2
  unfold p9 at h1 h2
  unfold kV
  rw [HL (by unfold w3;omega) (by simp) (by omega),zbs,Q7 hk hb hl,zbs,HL (G5 _ _) (by simp only [List.length_append,List.length_singleton];omega) (by omega),zbs,t8 (by simp only [List.length_append,List.length_singleton];omega),zbs]
  simp [mZ,p9]
theorem UJ {k:Int} {b:List Int} (hk:v6 k) (hb:∀ x∈b,v6 x) (hl:b.length≤100000):gD 281474976710656 k b=some (mZ k b):=by
  have h1:=(mO (b.length:Int)).2;have h2:=(mO (pR k b)).2
  unfold p9 at h1 h2
  unfold gD
  rw [t8 (by simp only [List.length_singleton];omega),zbs,KA (by unfold w3;omega) (by simp) (by omega),zbs,List.singleton_append,
    UK (fun x hx=>by rcases List.mem_cons.1 hx with rfl | hx;exact hk;exact hb x hx) (by simp only [List.length_cons];omega) (by omega) (by simp only [List.length_cons];omega),zbs]
  change ((bP 281474976710656 ([k]++tT 9 (tU (b.length:Int))) (pR k b)).bind fun _=>_)=_
  rw [KA (G5 _ _) (by simp only [List.length_append,List.length_singleton];omega) (by omega),zbs,t8 (by simp only [List.length_append,List.length_singleton];omega),zbs]
  simp [mZ,p9]
end Go.Ab
