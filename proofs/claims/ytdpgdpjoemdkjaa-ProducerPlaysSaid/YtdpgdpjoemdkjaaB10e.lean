/- Plain laws of the functions qA this seat's, laid anew from another seat's text. No conditions but those that the theorems name. -/
import Derived.Test.YtdpgdpjoemdkjaaP10xD
import Derived.Test.YtdpgdpjoemdkjaaB10a
import Derived.Test.YtdpgdpjoemdkjaaB10b
import Derived.Test.YtdpgdpjoemdkjaaB10c
import Derived.Test.YtdpgdpjoemdkjaaB10d
namespace Go.Ab
open Go
set_option linter.unusedVariables false
theorem zGr {l:List Int} (hl:l.length≤1000) (h:∀ x∈l,y2 x):zBP 200000 l=some (wG l):=by
 unfold zBP
 have:=zHa (l:=l) (fun n i s=>zBc 200000 l n s i) (fun i r _=>wG l) (fun i s=>s=wG (l.take i)) ?_ ?_ (n:=200000) (s:=[]) rfl (by omega)
 ·rw [this];rfl
 ·intro n i s hi hs
  show t8 _ _ _ _ _=_
  unfold t8
  rw [yI (by omega),cond_false,hs,List.take_of_length_le hi]
 ·intro n i s x r hd hlt hs ih
  show t8 _ _ _ _ _=_
  unfold t8
  have:=zEV (l.take i)
  rw [List.length_take] at this
  simp (disch:=omega) only [yW,cond_true,x3 hd,zbs,vS]
  rw [hs,zGA (h x (zES hd)) (by omega) (by omega),zbs]
  exact ih _ (by rw [zAL hd,zBH])
theorem zKY {names:List (List Int)} {stacks:List zN} {e:zL} (hn:names.length≤40000) (hs:stacks.length≤40000):zCN 200000 names stacks e=some (vU names stacks e):=by
 unfold zCN vU
 rw [show pI 200000 names stacks=some (uW names stacks) from zCY,zbs]
 by_cases hc:uW names stacks≠0
 ·rw [xW hc,if_pos hc];rfl
 rw [xD (by omega),cond_false,if_neg hc,zEX,zbs]
 by_cases he:evS e≠0
 ·rw [xW he,if_pos he];rfl
 rw [xD (by omega),cond_false,if_neg he]
 obtain ⟨r1,r2,r3,r4⟩:=zFm (show evS e=0 by omega)
 obtain ⟨_,_,k1,k2,_⟩:=zDj (show evS e=0 by omega)
 rw [zHH ⟨k1,k2⟩,zbs]
 have hpn:=zEf names e.Name
 have hpi:=zI3 (n:=names) (x:=e.Name) (by omega)
 simp only [zJj (show names.length≤100000 by omega),zbs]
 unfold kP kS
 have tail:∀ (pre:List Int) (nm:List (List Int)),pre.length≤3→(∀ x∈pre,y2 x)→nm.length≤50000 →
   ((((bif vH e.Kind then (need (((pre).length+(([e.N]:List Int)).length) * 8≤140737488355328)).bind fun _=>some (pre++([e.N]:List Int)) else some pre):Option (List Int))).bind fun (o_2:(List Int)) =>
   (((bif v4 e.Kind then (need (((o_2).length+(([e.M]:List Int)).length) * 8≤140737488355328)).bind fun _=>some (o_2++([e.M]:List Int)) else some o_2):Option (List Int))).bind fun (o_3:(List Int)) =>
   (((bif xM e.Kind then (zAv 200000 nm stacks e.Stack).bind fun r_5 =>
   (bif (r_5.2.2.2 != (0:Int)) then some (.inr ([],[],[],r_5.2.2.2)) else
   (need (((o_3).length+(([r_5.1]:List Int)).length) * 8≤140737488355328)).bind fun _ =>
   some (.inl (r_5.2.1,r_5.2.2.1,(o_3++([r_5.1]:List Int))))) else
   some (.inl (nm,stacks,o_3))):Option (((List (List Int))×(List zN)×(List Int))⊕((List (Int))×(List (List Int))×(List (zN))×Int)))).bind fun (o_4:((List (List Int))×(List zN)×(List Int))⊕((List (Int))×(List (List Int))×(List (zN))×Int)) =>
   (match o_4 with
   | (.inl q_3)=>(zBP 200000 q_3.2.2).bind fun r_6=>some (r_6,q_3.1,q_3.2.1,(0:Int))
   | (.inr q_4)=>some q_4)) =
   some (if (kT nm stacks e).2.2.2≠0 then ([],[],[],(kT nm stacks e).2.2.2) else
    (wG (pre++(if vH e.Kind then [e.N] else [])++(if v4 e.Kind then [e.M] else [])++(if xM e.Kind then [(kT nm stacks e).1] else [])),(kT nm stacks e).2.1,(kT nm stacks e).2.2.1,0)):=by
  intro pre nm hp hok hnm
  have h1:(((bif vH e.Kind then (need (((pre).length+(([e.N]:List Int)).length) * 8≤140737488355328)).bind fun _=>some (pre++([e.N]:List Int)) else some pre):Option (List Int)))=some (pre++(if vH e.Kind then [e.N] else [])):=by
   cases vH e.Kind
   ·simp
   ·rw [cond_true,xE (by simp;omega),zbs];rfl
  rw [h1,zbs]
  have hq:(pre++(if vH e.Kind then [e.N] else [])).length≤4:=by cases vH e.Kind<;>simp<;>omega
  have hqo:∀ x∈(pre++(if vH e.Kind then [e.N] else [])),y2 x:=by
   intro x hx
   rcases List.mem_append.1 hx with hx | hx
   ·exact hok x hx
   ·cases hu:vH e.Kind<;>rw [hu] at hx<;>simp at hx
    rw [hx];exact r3
  generalize pre++(if vH e.Kind then [e.N] else [])=q at *
  have h2:(((bif v4 e.Kind then (need (((q).length+(([e.M]:List Int)).length) * 8≤140737488355328)).bind fun _=>some (q++([e.M]:List Int)) else some q):Option (List Int)))=some (q++(if v4 e.Kind then [e.M] else [])):=by
   cases v4 e.Kind
   ·simp
   ·rw [cond_true,xE (by simp;omega),zbs];rfl
  rw [h2,zbs]
  have hq2:(q++(if v4 e.Kind then [e.M] else [])).length≤5:=by cases v4 e.Kind<;>simp<;>omega
  have hqo2:∀ x∈(q++(if v4 e.Kind then [e.M] else [])),y2 x:=by
   intro x hx
   rcases List.mem_append.1 hx with hx | hx
   ·exact hqo x hx
   ·cases hu:v4 e.Kind<;>rw [hu] at hx<;>simp at hx
    rw [hx];exact r4
  generalize q++(if v4 e.Kind then [e.M] else [])=p at *
  unfold kT
  cases xM e.Kind
  ·simp only [cond_false,zbs]
   rw [zGr (by omega) hqo2];simp
  ·have hpx:=zGu (n:=nm) (s:=stacks) (l:=e.Stack) (by omega)
   simp only [cond_true,if_true]
   rw [zJt (by omega) (by omega),zbs]
   by_cases hz:(vN nm stacks e.Stack).2.2.2≠0
   ·rw [xW hz,if_pos hz];rfl
   ·rw [xD (by omega),if_neg hz,cond_false,xE (by simp;omega),zbs,zbs]
    simp only
    rw [zGr (by simp;omega) (fun x hx=>by
     rcases List.mem_append.1 hx with hx | hx
     ·exact hqo2 x hx
     ·simp at hx;rw [hx];exact hpx)]
    rfl
 have hbase:∀ x∈[e.Kind,e.At],y2 x:=fun x hx=>by
  simp at hx
  rcases hx with rfl | rfl
  ·exact r2
  ·exact r1
 cases hun:y5 e.Kind
 ·have:=tail [e.Kind,e.At] names (by simp) hbase (by omega)
  simp only [cond_false,Bool.false_eq_true,if_false,List.append_nil,zbs,ne_eq,not_true_eq_false]
  exact this
 ·simp only [cond_true,if_true]
  by_cases hp:(vB names e.Name).2.2≠0
  ·rw [xW hp,if_pos hp];rfl
  ·have:=tail ([e.Kind,e.At]++[(vB names e.Name).1]) (vB names e.Name).2.1 (by simp) (fun x hx=>by
    rcases List.mem_append.1 hx with hx | hx
    ·exact hbase x hx
    ·simp at hx;rw [hx];exact hpi) (by omega)
   rw [xD (by omega),if_neg hp,cond_false,xE (by simp),zbs,zbs]
   exact this
def qS (b:List Int) (u f:Int):Int×Int×Int:=if f≠0 then (0,u,f) else ((vrd (b.drop u.toNat) 0 0).1,u+(vrd (b.drop u.toNat) 0 0).2.1,(vrd (b.drop u.toNat) 0 0).2.2)
theorem zHj {b:List Int} (hb:∀ x∈b,x7 x) (n:Nat):∀ x∈b.drop n,x7 x:=fun x hx=>hb x (List.mem_of_mem_drop hx)
theorem zBS {b:List Int} {u f:Int} (hb:∀ x∈b,x7 x) (h0:0≤u) (h1:u≤b.length):y2 (qS b u f).1∧u≤(qS b u f).2.1∧(qS b u f).2.1≤b.length∧((qS b u f).2.2=0→f=0∧u<(qS b u f).2.1):=by
 unfold qS
 split
 ·exact ⟨by simp [y2],Int.le_refl _,h1,fun h=>absurd h (by assumption)⟩
 ·have hv:=zBE (l:=b.drop u.toNat) (i:=0) (u:=0) (zHj hb _) (by omega) (by omega) (by simp)
  obtain ⟨v1,v2,v3⟩:=hv
  simp only
  have hl:(b.drop u.toNat).length=b.length - u.toNat:=List.length_drop
  refine ⟨v1,?_,?_,fun h=>⟨by omega,by have:=(v2 h).1;omega⟩⟩
  ·rcases v3 with h | h
   ·have:=(v2 h).1;omega
   ·omega
  ·rcases v3 with h | h
   ·have:=(v2 h).2.2;omega
   ·omega
theorem zLW (b:List Int) {u:Int} (h0:0≤u):sub b u (b.length:Int)=b.drop u.toNat:=by
 unfold sub;rw [Int.toNat_natCast,List.take_length]
theorem nV {b:List Int} {u f:Int} (hb:∀ x∈b,x7 x) (hl:b.length≤100000) (h0:0≤u) (h1:u≤b.length) :
  vO 200000 ⟨b,u,f⟩=some ((qS b u f).1,⟨b,(qS b u f).2.1,(qS b u f).2.2⟩):=by
 unfold vO
 have hr:=zBS (f:=f) hb h0 h1
 unfold qS at *
 by_cases hf:f≠0
 ·rw [xW hf,if_pos hf];rfl
 ·rw [if_neg hf] at hr ⊢
  rw [xD (show f=0 by omega),cond_false,xE ⟨h0,h1⟩,zbs,zLW b h0,zGJ (zHj hb _) (by rw [List.length_drop];omega) (by rw [List.length_drop];omega),zbs]
  simp only at hr
  show some (_,(⟨b,zJ (u+_),_⟩:xO))=_
  rw [w64 (by omega) (by omega)]
end Go.Ab
