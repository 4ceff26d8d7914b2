/- Plain laws of the functions uI this seat's, laid anew from another seat's text. No conditions but those that the theorems name. -/
import Derived.Test.YtdpgdpjoemdkjaaP10xD
import Derived.Test.YtdpgdpjoemdkjaaB10a
import Derived.Test.YtdpgdpjoemdkjaaB10b
import Derived.Test.YtdpgdpjoemdkjaaB10c
import Derived.Test.YtdpgdpjoemdkjaaB10d
namespace Go.Ab
open Go
set_option linter.unusedVariables false
def pB (b:List Int) (u f:Int):Int×Int×Int:=if f≠0 then (0,u,f) else ((vrd (b.drop u.toNat) 0 0).1,u+(vrd (b.drop u.toNat) 0 0).2.1,(vrd (b.drop u.toNat) 0 0).2.2)
theorem zHi {b:List Int} (hb:∀ x∈b,xJ x) (n:Nat):∀ x∈b.drop n,xJ x:=fun x hx=>hb x (List.mem_of_mem_drop hx)
theorem zA1 {b:List Int} {u f:Int} (hb:∀ x∈b,xJ x) (h0:0≤u) (h1:u≤b.length):yS (pB b u f).1∧u≤(pB b u f).2.1∧(pB b u f).2.1≤b.length∧((pB b u f).2.2=0→f=0∧u<(pB b u f).2.1):=by
 unfold pB
 split
 ·exact ⟨by simp [yS],Int.le_refl _,h1,fun h=>absurd h (by assumption)⟩
 ·have hv:=zAg (l:=b.drop u.toNat) (i:=0) (u:=0) (zHi hb _) (by omega) (by omega) (by simp)
  obtain ⟨v1,v2,v3⟩:=hv
  simp only
  have hl:(b.drop u.toNat).length=b.length - u.toNat:=List.length_drop
  refine ⟨v1,?_,?_,fun h=>⟨by omega,by have:=(v2 h).1;omega⟩⟩
  ·rcases v3 with h | h
   ·have:=(v2 h).1;omega
   ·omega
  ·rcases v3 with h | h
   ·have:=(v2 h).2.2;omega
   ·omega
theorem zM7 (b:List Int) {u:Int} (h0:0≤u):sub b u (b.length:Int)=b.drop u.toNat:=by
 unfold sub;rw [Int.toNat_natCast,List.take_length]
theorem j9 {b:List Int} {u f:Int} (hb:∀ x∈b,xJ x) (hl:b.length≤100000) (h0:0≤u) (h1:u≤b.length) :
  wA 200000 ⟨b,u,f⟩=some ((pB b u f).1,⟨b,(pB b u f).2.1,(pB b u f).2.2⟩):=by
 unfold wA
 have hr:=zA1 (f:=f) hb h0 h1
 unfold pB at *
 by_cases hf:f≠0
 ·rw [w4 hf,if_pos hf];rfl
 ·rw [if_neg hf] at hr ⊢
  rw [xS (show f=0 by omega),cond_false,xO ⟨h0,h1⟩,Option.bind_some,zM7 b h0,zEd (zHi hb _) (by rw [List.length_drop];omega) (by rw [List.length_drop];omega),Option.bind_some]
  simp only at hr
  show some (_,(⟨b,zG (u+_),_⟩:yY))=_
  rw [w64 (by omega) (by omega)]
end Go.Ab
