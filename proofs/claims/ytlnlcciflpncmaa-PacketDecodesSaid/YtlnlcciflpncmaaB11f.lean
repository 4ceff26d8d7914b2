/- Plain laws of the functions uE this seat's, laid anew from another seat's text. No conditions but those that the theorems name. -/
import Derived.Test.YtlnlcciflpncmaaP11xD
import Derived.Test.YtlnlcciflpncmaaB11a
import Derived.Test.YtlnlcciflpncmaaB11b
import Derived.Test.YtlnlcciflpncmaaB11c
import Derived.Test.YtlnlcciflpncmaaB11d
import Derived.Test.YtlnlcciflpncmaaB11e
namespace Go.Ab
open Go
set_option linter.unusedVariables false
theorem zDS {l:List Int} (hl:l.length≤1000) (h:∀ x∈l,yH x):zAi 200000 l=some (xX l):=by
 unfold zAi
 have:=zEi (l:=l) (fun n i s=>pQ 200000 l n s i) (fun i r _=>xX l) (fun i s=>s=xX (l.take i)) ?_ ?_ (n:=200000) (s:=[]) rfl (by omega)
 ·rw [this];rfl
 ·intro n i s hi hs
  show v8 _ _ _ _ _=_
  unfold v8
  rw [z7 (by omega),cond_false,hs,List.take_of_length_le hi]
 ·intro n i s x r hd hlt hs ih
  show v8 _ _ _ _ _=_
  unfold v8
  have:=tM (l.take i)
  rw [List.length_take] at this
  simp (disch:=omega) only [z9,cond_true,yQ hd,Option.bind_some,xP]
  rw [hs,uA (h x (nY hd)) (by omega) (by omega),Option.bind_some]
  exact ih _ (by rw [pF hd,zBJ])
theorem zIr {names:List (List Int)} {stacks:List zE} {e:zA} (hn:names.length≤40000) (hs:stacks.length≤40000):zA3 200000 names stacks e=some (kN names stacks e):=by
 unfold zA3 kN
 rw [show tH 200000 names stacks=some (tC names stacks) from zA5,Option.bind_some]
 by_cases hc:tC names stacks≠0
 ·rw [y0 hc,if_pos hc];rfl
 rw [y6 (by omega),cond_false,if_neg hc,zCz,Option.bind_some]
 by_cases he:evS e≠0
 ·rw [y0 he,if_pos he];rfl
 rw [y6 (by omega),cond_false,if_neg he]
 obtain ⟨r1,r2,r3,r4⟩:=zEd (show evS e=0 by omega)
 obtain ⟨_,_,k1,k2,_⟩:=zFx (show evS e=0 by omega)
 rw [zFh ⟨k1,k2⟩,Option.bind_some]
 have hpn:=zB1 names e.Name
 have hpi:=zGC (n:=names) (x:=e.Name) (by omega)
 simp only [zGl (show names.length≤100000 by omega),Option.bind_some]
 unfold qF zAh
 have tail:∀ (pre:List Int) (nm:List (List Int)),pre.length≤3→(∀ x∈pre,yH x)→nm.length≤50000 →
   ((((bif wE e.Kind then (need (((pre).length+(([e.N]:List Int)).length) * 8≤140737488355328)).bind fun _=>some (pre++([e.N]:List Int)) else some pre):Option (List Int))).bind fun (o_2:(List Int)) =>
   (((bif wI e.Kind then (need (((o_2).length+(([e.M]:List Int)).length) * 8≤140737488355328)).bind fun _=>some (o_2++([e.M]:List Int)) else some o_2):Option (List Int))).bind fun (o_3:(List Int)) =>
   (((bif yP e.Kind then (kY 200000 nm stacks e.Stack).bind fun r_5 =>
   (bif (r_5.2.2.2 != (0:Int)) then some (.inr ([],[],[],r_5.2.2.2)) else
   (need (((o_3).length+(([r_5.1]:List Int)).length) * 8≤140737488355328)).bind fun _ =>
   some (.inl (r_5.2.1,r_5.2.2.1,(o_3++([r_5.1]:List Int))))) else
   some (.inl (nm,stacks,o_3))):Option (((List (List Int))×(List zE)×(List Int))⊕((List (Int))×(List (List Int))×(List (zE))×Int)))).bind fun (o_4:((List (List Int))×(List zE)×(List Int))⊕((List (Int))×(List (List Int))×(List (zE))×Int)) =>
   (match o_4 with
   | (.inl q_3)=>(zAi 200000 q_3.2.2).bind fun r_6=>some (r_6,q_3.1,q_3.2.1,(0:Int))
   | (.inr q_4)=>some q_4)) =
   some (if (qG nm stacks e).2.2.2≠0 then ([],[],[],(qG nm stacks e).2.2.2) else
    (xX (pre++(if wE e.Kind then [e.N] else [])++(if wI e.Kind then [e.M] else [])++(if yP e.Kind then [(qG nm stacks e).1] else [])),(qG nm stacks e).2.1,(qG nm stacks e).2.2.1,0)):=by
  intro pre nm hp hok hnm
  have h1:(((bif wE e.Kind then (need (((pre).length+(([e.N]:List Int)).length) * 8≤140737488355328)).bind fun _=>some (pre++([e.N]:List Int)) else some pre):Option (List Int)))=some (pre++(if wE e.Kind then [e.N] else [])):=by
   cases wE e.Kind
   ·simp
   ·rw [cond_true,yN (by simp;omega),Option.bind_some];rfl
  rw [h1,Option.bind_some]
  have hq:(pre++(if wE e.Kind then [e.N] else [])).length≤4:=by cases wE e.Kind<;>simp<;>omega
  have hqo:∀ x∈(pre++(if wE e.Kind then [e.N] else [])),yH x:=by
   intro x hx
   rcases List.mem_append.1 hx with hx | hx
   ·exact hok x hx
   ·cases hu:wE e.Kind<;>rw [hu] at hx<;>simp at hx
    rw [hx];exact r3
  generalize pre++(if wE e.Kind then [e.N] else [])=q at *
  have h2:(((bif wI e.Kind then (need (((q).length+(([e.M]:List Int)).length) * 8≤140737488355328)).bind fun _=>some (q++([e.M]:List Int)) else some q):Option (List Int)))=some (q++(if wI e.Kind then [e.M] else [])):=by
   cases wI e.Kind
   ·simp
   ·rw [cond_true,yN (by simp;omega),Option.bind_some];rfl
  rw [h2,Option.bind_some]
  have hq2:(q++(if wI e.Kind then [e.M] else [])).length≤5:=by cases wI e.Kind<;>simp<;>omega
  have hqo2:∀ x∈(q++(if wI e.Kind then [e.M] else [])),yH x:=by
   intro x hx
   rcases List.mem_append.1 hx with hx | hx
   ·exact hqo x hx
   ·cases hu:wI e.Kind<;>rw [hu] at hx<;>simp at hx
    rw [hx];exact r4
  generalize q++(if wI e.Kind then [e.M] else [])=p at *
  unfold qG
  cases yP e.Kind
  ·simp only [cond_false,Option.bind_some]
   rw [zDS (by omega) hqo2];simp
  ·have hpx:=zDV (n:=nm) (s:=stacks) (l:=e.Stack) (by omega)
   simp only [cond_true,if_true]
   rw [zGf (by omega) (by omega),Option.bind_some]
   by_cases hz:(xM nm stacks e.Stack).2.2.2≠0
   ·rw [y0 hz,if_pos hz];rfl
   ·rw [y6 (by omega),if_neg hz,cond_false,yN (by simp;omega),Option.bind_some,Option.bind_some]
    simp only
    rw [zDS (by simp;omega) (fun x hx=>by
     rcases List.mem_append.1 hx with hx | hx
     ·exact hqo2 x hx
     ·simp at hx;rw [hx];exact hpx)]
    rfl
 have hbase:∀ x∈[e.Kind,e.At],yH x:=fun x hx=>by
  simp at hx
  rcases hx with rfl | rfl
  ·exact r2
  ·exact r1
 cases hun:yE e.Kind
 ·have:=tail [e.Kind,e.At] names (by simp) hbase (by omega)
  simp only [cond_false,Bool.false_eq_true,if_false,List.append_nil,Option.bind_some,ne_eq,not_true_eq_false]
  exact this
 ·simp only [cond_true,if_true]
  by_cases hp:(xH names e.Name).2.2≠0
  ·rw [y0 hp,if_pos hp];rfl
  ·have:=tail ([e.Kind,e.At]++[(xH names e.Name).1]) (xH names e.Name).2.1 (by simp) (fun x hx=>by
    rcases List.mem_append.1 hx with hx | hx
    ·exact hbase x hx
    ·simp at hx;rw [hx];exact hpi) (by omega)
   rw [y6 (by omega),if_neg hp,cond_false,yN (by simp),Option.bind_some,Option.bind_some]
   exact this
def y9 (b:List Int) (u f:Int):Int×Int×Int:=if f≠0 then (0,u,f) else ((vrd (b.drop u.toNat) 0 0).1,u+(vrd (b.drop u.toNat) 0 0).2.1,(vrd (b.drop u.toNat) 0 0).2.2)
theorem qZ {b:List Int} (hb:∀ x∈b,y8 x) (n:Nat):∀ x∈b.drop n,y8 x:=fun x hx=>hb x (List.mem_of_mem_drop hx)
theorem wH {b:List Int} {u f:Int} (hb:∀ x∈b,y8 x) (h0:0≤u) (h1:u≤b.length):yH (y9 b u f).1∧u≤(y9 b u f).2.1∧(y9 b u f).2.1≤b.length∧((y9 b u f).2.2=0→f=0∧u<(y9 b u f).2.1):=by
 unfold y9
 split
 ·exact ⟨by simp [yH],Int.le_refl _,h1,fun h=>absurd h (by assumption)⟩
 ·have hv:=zEC (l:=b.drop u.toNat) (i:=0) (u:=0) (qZ hb _) (by omega) (by omega) (by simp)
  obtain ⟨v1,v2,v3⟩:=hv
  simp only
  have hl:(b.drop u.toNat).length=b.length - u.toNat:=List.length_drop
  refine ⟨v1,?_,?_,fun h=>⟨by omega,by have:=(v2 h).1;omega⟩⟩
  ·rcases v3 with h | h
   ·have:=(v2 h).1;omega
   ·omega
  ·rcases v3 with h | h
   ·have:=(v2 h).2.2;omega
   ·omega
theorem nW (b:List Int) {u:Int} (h0:0≤u):sub b u (b.length:Int)=b.drop u.toNat:=by
 unfold sub;rw [Int.toNat_natCast,List.take_length]
theorem jY {b:List Int} {u f:Int} (hb:∀ x∈b,y8 x) (hl:b.length≤100000) (h0:0≤u) (h1:u≤b.length) :
  xN 200000 ⟨b,u,f⟩=some ((y9 b u f).1,⟨b,(y9 b u f).2.1,(y9 b u f).2.2⟩):=by
 unfold xN
 have hr:=wH (f:=f) hb h0 h1
 unfold y9 at *
 by_cases hf:f≠0
 ·rw [y0 hf,if_pos hf];rfl
 ·rw [if_neg hf] at hr ⊢
  rw [y6 (show f=0 by omega),cond_false,yN ⟨h0,h1⟩,Option.bind_some,nW b h0,zA7 (qZ hb _) (by rw [List.length_drop];omega) (by rw [List.length_drop];omega),Option.bind_some]
  simp only at hr
  show some (_,(⟨b,zK (u+_),_⟩:yI))=_
  rw [w64 (by omega) (by omega)]
end Go.Ab
