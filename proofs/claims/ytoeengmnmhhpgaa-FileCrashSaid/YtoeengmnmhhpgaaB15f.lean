/- Plain laws of the functions wU this seat's, laid anew from another seat's text. No conditions but those that the theorems name. -/
import Derived.Test.YtoeengmnmhhpgaaP15xD
import Derived.Test.YtoeengmnmhhpgaaB15a
import Derived.Test.YtoeengmnmhhpgaaB15b
import Derived.Test.YtoeengmnmhhpgaaB15c
import Derived.Test.YtoeengmnmhhpgaaB15d
import Derived.Test.YtoeengmnmhhpgaaB15e
namespace Go.Ab
open Go
set_option linter.unusedVariables false
def vI (b:List Int) (u f:Int):Int×Int×Int:=if f≠0 then (0,u,f) else ((vrd (b.drop u.toNat) 0 0).1,u+(vrd (b.drop u.toNat) 0 0).2.1,(vrd (b.drop u.toNat) 0 0).2.2)
theorem fN {b:List Int} (hb:∀ x∈b,xO x) (n:Nat):∀ x∈b.drop n,xO x:=fun x hx=>hb x (List.mem_of_mem_drop hx)
theorem nP {b:List Int} {u f:Int} (hb:∀ x∈b,xO x) (h0:0≤u) (h1:u≤b.length):yS (vI b u f).1∧u≤(vI b u f).2.1∧(vI b u f).2.1≤b.length∧((vI b u f).2.2=0→f=0∧u<(vI b u f).2.1):=by
 unfold vI
 split
 ·exact ⟨by simp [yS],Int.le_refl _,h1,fun h=>absurd h (by assumption)⟩
 ·have hv:=dI (l:=b.drop u.toNat) (i:=0) (u:=0) (fN hb _) (by omega) (by omega) (by simp)
  obtain ⟨v1,v2,v3⟩:=hv
  simp only
  have hl:(b.drop u.toNat).length=b.length - u.toNat:=List.length_drop
  refine ⟨v1,?_,?_,fun h=>⟨by omega,by have:=(v2 h).1;omega⟩⟩
  ·rcases v3 with h | h
   ·have:=(v2 h).1;omega
   ·omega
  ·rcases v3 with h | h
   ·have:=(v2 h).2.2;omega
   ·omega
theorem ES (b:List Int) {u:Int} (h0:0≤u):sub b u (b.length:Int)=b.drop u.toNat:=by
 unfold sub;rw [Int.toNat_natCast,List.take_length]
theorem EC {b:List Int} {u f:Int} (hb:∀ x∈b,xO x) (hl:b.length≤100000) (h0:0≤u) (h1:u≤b.length) :
  nR 281474976710656 ⟨b,u,f⟩=some ((vI b u f).1,⟨b,(vI b u f).2.1,(vI b u f).2.2⟩):=by
 unfold nR
 have hr:=nP (f:=f) hb h0 h1
 unfold vI at *
 by_cases hf:f≠0
 ·rw [wA hf,if_pos hf];rfl
 ·rw [if_neg hf] at hr ⊢
  rw [x8 (show f=0 by omega),cond_false,x7 ⟨h0,h1⟩,zbs,ES b h0,oP (fN hb _) (by rw [List.length_drop];omega) (by rw [List.length_drop];omega),zbs]
  simp only at hr
  show some (_,(⟨b,zI (u+_),_⟩:jM))=_
  rw [w64 (by omega) (by omega)]
end Go.Ab
