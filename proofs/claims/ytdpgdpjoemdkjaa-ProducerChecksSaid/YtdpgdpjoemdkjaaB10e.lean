/- Plain laws of the functions tL this seat's, laid anew from another seat's text. No conditions but those that the theorems name. -/
import Derived.Test.YtdpgdpjoemdkjaaP10xD
import Derived.Test.YtdpgdpjoemdkjaaB10a
import Derived.Test.YtdpgdpjoemdkjaaB10b
import Derived.Test.YtdpgdpjoemdkjaaB10c
import Derived.Test.YtdpgdpjoemdkjaaB10d
namespace Go.Ab
open Go
set_option linter.unusedVariables false
theorem zGl {l:List Int} (hl:l.length≤1000) (h:∀ x∈l,y3 x):zBt 200000 l=some (wD l):=by
 unfold zBt
 have:=zGM (l:=l) (fun n i s=>zAI 200000 l n s i) (fun i r _=>wD l) (fun i s=>s=wD (l.take i)) ?_ ?_ (n:=200000) (s:=[]) rfl (by omega)
 ·rw [this];rfl
 ·intro n i s hi hs
  show tG _ _ _ _ _=_
  unfold tG
  rw [yF (by omega),cond_false,hs,List.take_of_length_le hi]
 ·intro n i s x r hd hlt hs ih
  show tG _ _ _ _ _=_
  unfold tG
  have:=zEW (l.take i)
  rw [List.length_take] at this
  simp (disch:=omega) only [yR,cond_true,xZ hd,zbs,vK]
  rw [hs,zGj (h x (zEJ hd)) (by omega) (by omega),zbs]
  exact ih _ (by rw [zAp hd,zBk])
theorem zK0 {names:List (List Int)} {stacks:List zO} {e:zL} (hn:names.length≤40000) (hs:stacks.length≤40000):zCX 200000 names stacks e=some (vA names stacks e):=by
 unfold zCX vA
 rw [show kE 200000 names stacks=some (uA names stacks) from zCT,zbs]
 by_cases hc:uA names stacks≠0
 ·rw [xQ hc,if_pos hc];rfl
 rw [xE (by omega),cond_false,if_neg hc,zEE,zbs]
 by_cases he:evS e≠0
 ·rw [xQ he,if_pos he];rfl
 rw [xE (by omega),cond_false,if_neg he]
 obtain ⟨r1,r2,r3,r4⟩:=zE7 (show evS e=0 by omega)
 obtain ⟨_,_,k1,k2,_⟩:=zDf (show evS e=0 by omega)
 rw [zHE ⟨k1,k2⟩,zbs]
 have hpn:=zEk names e.Name
 have hpi:=zID (n:=names) (x:=e.Name) (by omega)
 simp only [zIW (show names.length≤100000 by omega),zbs]
 unfold j0 j3
 have tail:∀ (pre:List Int) (nm:List (List Int)),pre.length≤3→(∀ x∈pre,y3 x)→nm.length≤50000 →
   ((((bif wV e.Kind then (need (((pre).length+(([e.N]:List Int)).length) * 8≤140737488355328)).bind fun _=>some (pre++([e.N]:List Int)) else some pre):Option (List Int))).bind fun (o_2:(List Int)) =>
   (((bif vE e.Kind then (need (((o_2).length+(([e.M]:List Int)).length) * 8≤140737488355328)).bind fun _=>some (o_2++([e.M]:List Int)) else some o_2):Option (List Int))).bind fun (o_3:(List Int)) =>
   (((bif xI e.Kind then (n9 200000 nm stacks e.Stack).bind fun r_5 =>
   (bif (r_5.2.2.2 != (0:Int)) then some (.inr ([],[],[],r_5.2.2.2)) else
   (need (((o_3).length+(([r_5.1]:List Int)).length) * 8≤140737488355328)).bind fun _ =>
   some (.inl (r_5.2.1,r_5.2.2.1,(o_3++([r_5.1]:List Int))))) else
   some (.inl (nm,stacks,o_3))):Option (((List (List Int))×(List zO)×(List Int))⊕((List (Int))×(List (List Int))×(List (zO))×Int)))).bind fun (o_4:((List (List Int))×(List zO)×(List Int))⊕((List (Int))×(List (List Int))×(List (zO))×Int)) =>
   (match o_4 with
   | (.inl q_3)=>(zBt 200000 q_3.2.2).bind fun r_6=>some (r_6,q_3.1,q_3.2.1,(0:Int))
   | (.inr q_4)=>some q_4)) =
   some (if (j1 nm stacks e).2.2.2≠0 then ([],[],[],(j1 nm stacks e).2.2.2) else
    (wD (pre++(if wV e.Kind then [e.N] else [])++(if vE e.Kind then [e.M] else [])++(if xI e.Kind then [(j1 nm stacks e).1] else [])),(j1 nm stacks e).2.1,(j1 nm stacks e).2.2.1,0)):=by
  intro pre nm hp hok hnm
  have h1:(((bif wV e.Kind then (need (((pre).length+(([e.N]:List Int)).length) * 8≤140737488355328)).bind fun _=>some (pre++([e.N]:List Int)) else some pre):Option (List Int)))=some (pre++(if wV e.Kind then [e.N] else [])):=by
   cases wV e.Kind
   ·simp
   ·rw [cond_true,xA (by simp;omega),zbs];rfl
  rw [h1,zbs]
  have hq:(pre++(if wV e.Kind then [e.N] else [])).length≤4:=by cases wV e.Kind<;>simp<;>omega
  have hqo:∀ x∈(pre++(if wV e.Kind then [e.N] else [])),y3 x:=by
   intro x hx
   rcases List.mem_append.1 hx with hx | hx
   ·exact hok x hx
   ·cases hu:wV e.Kind<;>rw [hu] at hx<;>simp at hx
    rw [hx];exact r3
  generalize pre++(if wV e.Kind then [e.N] else [])=q at *
  have h2:(((bif vE e.Kind then (need (((q).length+(([e.M]:List Int)).length) * 8≤140737488355328)).bind fun _=>some (q++([e.M]:List Int)) else some q):Option (List Int)))=some (q++(if vE e.Kind then [e.M] else [])):=by
   cases vE e.Kind
   ·simp
   ·rw [cond_true,xA (by simp;omega),zbs];rfl
  rw [h2,zbs]
  have hq2:(q++(if vE e.Kind then [e.M] else [])).length≤5:=by cases vE e.Kind<;>simp<;>omega
  have hqo2:∀ x∈(q++(if vE e.Kind then [e.M] else [])),y3 x:=by
   intro x hx
   rcases List.mem_append.1 hx with hx | hx
   ·exact hqo x hx
   ·cases hu:vE e.Kind<;>rw [hu] at hx<;>simp at hx
    rw [hx];exact r4
  generalize q++(if vE e.Kind then [e.M] else [])=p at *
  unfold j1
  cases xI e.Kind
  ·simp only [cond_false,zbs]
   rw [zGl (by omega) hqo2];simp
  ·have hpx:=zGm (n:=nm) (s:=stacks) (l:=e.Stack) (by omega)
   simp only [cond_true,if_true]
   rw [zJp (by omega) (by omega),zbs]
   by_cases hz:(wX nm stacks e.Stack).2.2.2≠0
   ·rw [xQ hz,if_pos hz];rfl
   ·rw [xE (by omega),if_neg hz,cond_false,xA (by simp;omega),zbs,zbs]
    simp only
    rw [zGl (by simp;omega) (fun x hx=>by
     rcases List.mem_append.1 hx with hx | hx
     ·exact hqo2 x hx
     ·simp at hx;rw [hx];exact hpx)]
    rfl
 have hbase:∀ x∈[e.Kind,e.At],y3 x:=fun x hx=>by
  simp at hx
  rcases hx with rfl | rfl
  ·exact r2
  ·exact r1
 cases hun:y0 e.Kind
 ·have:=tail [e.Kind,e.At] names (by simp) hbase (by omega)
  simp only [cond_false,Bool.false_eq_true,if_false,List.append_nil,zbs,ne_eq,not_true_eq_false]
  exact this
 ·simp only [cond_true,if_true]
  by_cases hp:(wP names e.Name).2.2≠0
  ·rw [xQ hp,if_pos hp];rfl
  ·have:=tail ([e.Kind,e.At]++[(wP names e.Name).1]) (wP names e.Name).2.1 (by simp) (fun x hx=>by
    rcases List.mem_append.1 hx with hx | hx
    ·exact hbase x hx
    ·simp at hx;rw [hx];exact hpi) (by omega)
   rw [xE (by omega),if_neg hp,cond_false,xA (by simp),zbs,zbs]
   exact this
def t5 (b:List Int) (u f:Int):Int×Int×Int:=if f≠0 then (0,u,f) else ((vrd (b.drop u.toNat) 0 0).1,u+(vrd (b.drop u.toNat) 0 0).2.1,(vrd (b.drop u.toNat) 0 0).2.2)
theorem zG2 {b:List Int} (hb:∀ x∈b,x4 x) (n:Nat):∀ x∈b.drop n,x4 x:=fun x hx=>hb x (List.mem_of_mem_drop hx)
theorem zBC {b:List Int} {u f:Int} (hb:∀ x∈b,x4 x) (h0:0≤u) (h1:u≤b.length):y3 (t5 b u f).1∧u≤(t5 b u f).2.1∧(t5 b u f).2.1≤b.length∧((t5 b u f).2.2=0→f=0∧u<(t5 b u f).2.1):=by
 unfold t5
 split
 ·exact ⟨by simp [y3],Int.le_refl _,h1,fun h=>absurd h (by assumption)⟩
 ·have hv:=zBe (l:=b.drop u.toNat) (i:=0) (u:=0) (zG2 hb _) (by omega) (by omega) (by simp)
  obtain ⟨v1,v2,v3⟩:=hv
  simp only
  have hl:(b.drop u.toNat).length=b.length - u.toNat:=List.length_drop
  refine ⟨v1,?_,?_,fun h=>⟨by omega,by have:=(v2 h).1;omega⟩⟩
  ·rcases v3 with h | h
   ·have:=(v2 h).1;omega
   ·omega
  ·rcases v3 with h | h
   ·have:=(v2 h).2.2;omega
   ·omega
theorem zM9 (b:List Int) {u:Int} (h0:0≤u):sub b u (b.length:Int)=b.drop u.toNat:=by
 unfold sub;rw [Int.toNat_natCast,List.take_length]
theorem p7 {b:List Int} {u f:Int} (hb:∀ x∈b,x4 x) (hl:b.length≤100000) (h0:0≤u) (h1:u≤b.length) :
  wZ 200000 ⟨b,u,f⟩=some ((t5 b u f).1,⟨b,(t5 b u f).2.1,(t5 b u f).2.2⟩):=by
 unfold wZ
 have hr:=zBC (f:=f) hb h0 h1
 unfold t5 at *
 by_cases hf:f≠0
 ·rw [xQ hf,if_pos hf];rfl
 ·rw [if_neg hf] at hr ⊢
  rw [xE (show f=0 by omega),cond_false,xA ⟨h0,h1⟩,zbs,zM9 b h0,zGE (zG2 hb _) (by rw [List.length_drop];omega) (by rw [List.length_drop];omega),zbs]
  simp only at hr
  show some (_,(⟨b,zI (u+_),_⟩:xJ))=_
  rw [w64 (by omega) (by omega)]
end Go.Ab
