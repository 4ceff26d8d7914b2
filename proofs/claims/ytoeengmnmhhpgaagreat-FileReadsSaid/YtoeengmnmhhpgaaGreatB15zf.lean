/- Plain laws of the functions uV this seat's, laid anew from another seat's text. No conditions but those that the theorems name. -/
import Derived.Test.YtoeengmnmhhpgaaGreatP15zxD
import Derived.Test.YtoeengmnmhhpgaaGreatB15za
import Derived.Test.YtoeengmnmhhpgaaGreatB15zb
import Derived.Test.YtoeengmnmhhpgaaGreatB15zc
import Derived.Test.YtoeengmnmhhpgaaGreatB15zd
import Derived.Test.YtoeengmnmhhpgaaGreatB15ze
namespace Go.Ab
open Go
set_option linter.unusedVariables false
theorem XP {l:List Int} (hl:l.length≤1000) (h:∀ x∈l,xP x):rL 281474976710656 l=some (vO l):=by
 unfold rL
 have:=HE (l:=l) (fun n i s=>CT 281474976710656 l n s i) (fun i r _=>vO l) (fun i s=>s=vO (l.take i)) ?_ ?_ (n:=281474976710656) (s:=[]) rfl (by omega)
 ·rw [this];rfl
 ·intro n i s hi hs
  show i5 _ _ _ _ _=_
  unfold i5
  rw [yM (by omega),cond_false,hs,List.take_of_length_le hi]
 ·intro n i s x r hd hlt hs ih
  show i5 _ _ _ _ _=_
  unfold i5
  have:=kX (l.take i)
  rw [List.length_take] at this
  simp (disch:=omega) only [yP,cond_true,w5 hd,zbs,wW]
  rw [hs,cC (h x (nI hd)) (by omega) (by omega),zbs]
  exact ih _ (by rw [bC hd,EH])
theorem zFt {names:List (List Int)} {stacks:List zQ} {e:yW} (hn:names.length≤40000) (hs:stacks.length≤40000):JG 281474976710656 names stacks e=some (jR names stacks e):=by
 unfold JG jR
 rw [show nS 281474976710656 names stacks=some (j0 names stacks) from J6,zbs]
 by_cases hc:j0 names stacks≠0
 ·rw [wE hc,if_pos hc];rfl
 rw [wF (by omega),cond_false,if_neg hc,Q5,zbs]
 by_cases he:evS e≠0
 ·rw [wE he,if_pos he];rfl
 rw [wF (by omega),cond_false,if_neg he]
 obtain ⟨r1,r2,r3,r4⟩:=RP (show evS e=0 by omega)
 obtain ⟨_,_,k1,k2,_⟩:=NN (show evS e=0 by omega)
 rw [XW ⟨k1,k2⟩,zbs]
 have hpn:=LN names e.Name
 have hpi:=S8 (n:=names) (x:=e.Name) (by omega)
 simp only [XH (show names.length≤100000 by omega),zbs]
 unfold qJ dO
 have tail:∀ (pre:List Int) (nm:List (List Int)),pre.length≤3→(∀ x∈pre,xP x)→nm.length≤50000 →
   ((((bif vZ e.Kind then (need (((pre).length+(([e.N]:List Int)).length) * 8≤140737488355328)).bind fun _=>some (pre++([e.N]:List Int)) else some pre):Option (List Int))).bind fun (o_2:(List Int)) =>
   (((bif uD e.Kind then (need (((o_2).length+(([e.M]:List Int)).length) * 8≤140737488355328)).bind fun _=>some (o_2++([e.M]:List Int)) else some o_2):Option (List Int))).bind fun (o_3:(List Int)) =>
   (((bif uP e.Kind then (BJ 281474976710656 nm stacks e.Stack).bind fun r_5 =>
   (bif (r_5.2.2.2 != (0:Int)) then some (.inr ([],[],[],r_5.2.2.2)) else
   (need (((o_3).length+(([r_5.1]:List Int)).length) * 8≤140737488355328)).bind fun _ =>
   some (.inl (r_5.2.1,r_5.2.2.1,(o_3++([r_5.1]:List Int))))) else
   some (.inl (nm,stacks,o_3))):Option (((List (List Int))×(List zQ)×(List Int))⊕((List (Int))×(List (List Int))×(List (zQ))×Int)))).bind fun (o_4:((List (List Int))×(List zQ)×(List Int))⊕((List (Int))×(List (List Int))×(List (zQ))×Int)) =>
   (match o_4 with
   | (.inl q_3)=>(rL 281474976710656 q_3.2.2).bind fun r_6=>some (r_6,q_3.1,q_3.2.1,(0:Int))
   | (.inr q_4)=>some q_4)) =
   some (if (qL nm stacks e).2.2.2≠0 then ([],[],[],(qL nm stacks e).2.2.2) else
    (vO (pre++(if vZ e.Kind then [e.N] else [])++(if uD e.Kind then [e.M] else [])++(if uP e.Kind then [(qL nm stacks e).1] else [])),(qL nm stacks e).2.1,(qL nm stacks e).2.2.1,0)):=by
  intro pre nm hp hok hnm
  have h1:(((bif vZ e.Kind then (need (((pre).length+(([e.N]:List Int)).length) * 8≤140737488355328)).bind fun _=>some (pre++([e.N]:List Int)) else some pre):Option (List Int)))=some (pre++(if vZ e.Kind then [e.N] else [])):=by
   cases vZ e.Kind
   ·simp
   ·rw [cond_true,xZ (by simp;omega),zbs];rfl
  rw [h1,zbs]
  have hq:(pre++(if vZ e.Kind then [e.N] else [])).length≤4:=by cases vZ e.Kind<;>simp<;>omega
  have hqo:∀ x∈(pre++(if vZ e.Kind then [e.N] else [])),xP x:=by
   intro x hx
   rcases List.mem_append.1 hx with hx | hx
   ·exact hok x hx
   ·cases hu:vZ e.Kind<;>rw [hu] at hx<;>simp at hx
    rw [hx];exact r3
  generalize pre++(if vZ e.Kind then [e.N] else [])=q at *
  have h2:(((bif uD e.Kind then (need (((q).length+(([e.M]:List Int)).length) * 8≤140737488355328)).bind fun _=>some (q++([e.M]:List Int)) else some q):Option (List Int)))=some (q++(if uD e.Kind then [e.M] else [])):=by
   cases uD e.Kind
   ·simp
   ·rw [cond_true,xZ (by simp;omega),zbs];rfl
  rw [h2,zbs]
  have hq2:(q++(if uD e.Kind then [e.M] else [])).length≤5:=by cases uD e.Kind<;>simp<;>omega
  have hqo2:∀ x∈(q++(if uD e.Kind then [e.M] else [])),xP x:=by
   intro x hx
   rcases List.mem_append.1 hx with hx | hx
   ·exact hqo x hx
   ·cases hu:uD e.Kind<;>rw [hu] at hx<;>simp at hx
    rw [hx];exact r4
  generalize q++(if uD e.Kind then [e.M] else [])=p at *
  unfold qL
  cases uP e.Kind
  ·simp only [cond_false,zbs]
   rw [XP (by omega) hqo2];simp
  ·have hpx:=TI (n:=nm) (s:=stacks) (l:=e.Stack) (by omega)
   simp only [cond_true,if_true]
   rw [zCO (by omega) (by omega),zbs]
   by_cases hz:(q7 nm stacks e.Stack).2.2.2≠0
   ·rw [wE hz,if_pos hz];rfl
   ·rw [wF (by omega),if_neg hz,cond_false,xZ (by simp;omega),zbs,zbs]
    simp only
    rw [XP (by simp;omega) (fun x hx=>by
     rcases List.mem_append.1 hx with hx | hx
     ·exact hqo2 x hx
     ·simp at hx;rw [hx];exact hpx)]
    rfl
 have hbase:∀ x∈[e.Kind,e.At],xP x:=fun x hx=>by
  simp at hx
  rcases hx with rfl | rfl
  ·exact r2
  ·exact r1
 cases hun:vB e.Kind
 ·have:=tail [e.Kind,e.At] names (by simp) hbase (by omega)
  simp only [cond_false,Bool.false_eq_true,if_false,List.append_nil,zbs,ne_eq,not_true_eq_false]
  exact this
 ·simp only [cond_true,if_true]
  by_cases hp:(uU names e.Name).2.2≠0
  ·rw [wE hp,if_pos hp];rfl
  ·have:=tail ([e.Kind,e.At]++[(uU names e.Name).1]) (uU names e.Name).2.1 (by simp) (fun x hx=>by
    rcases List.mem_append.1 hx with hx | hx
    ·exact hbase x hx
    ·simp at hx;rw [hx];exact hpi) (by omega)
   rw [wF (by omega),if_neg hp,cond_false,xZ (by simp),zbs,zbs]
   exact this
def w8 (b:List Int) (u f:Int):Int×Int×Int:=if f≠0 then (0,u,f) else ((vrd (b.drop u.toNat) 0 0).1,u+(vrd (b.drop u.toNat) 0 0).2.1,(vrd (b.drop u.toNat) 0 0).2.2)
theorem nN {b:List Int} (hb:∀ x∈b,x6 x) (n:Nat):∀ x∈b.drop n,x6 x:=fun x hx=>hb x (List.mem_of_mem_drop hx)
theorem pA {b:List Int} {u f:Int} (hb:∀ x∈b,x6 x) (h0:0≤u) (h1:u≤b.length):xP (w8 b u f).1∧u≤(w8 b u f).2.1∧(w8 b u f).2.1≤b.length∧((w8 b u f).2.2=0→f=0∧u<(w8 b u f).2.1):=by
 unfold w8
 split
 ·exact ⟨by simp [xP],Int.le_refl _,h1,fun h=>absurd h (by assumption)⟩
 ·have hv:=cJ (l:=b.drop u.toNat) (i:=0) (u:=0) (nN hb _) (by omega) (by omega) (by simp)
  obtain ⟨v1,v2,v3⟩:=hv
  simp only
  have hl:(b.drop u.toNat).length=b.length - u.toNat:=List.length_drop
  refine ⟨v1,?_,?_,fun h=>⟨by omega,by have:=(v2 h).1;omega⟩⟩
  ·rcases v3 with h | h
   ·have:=(v2 h).1;omega
   ·omega
  ·rcases v3 with h | h
   ·have:=(v2 h).2.2;omega
   ·omega
theorem fP (b:List Int) {u:Int} (h0:0≤u):sub b u (b.length:Int)=b.drop u.toNat:=by
 unfold sub;rw [Int.toNat_natCast,List.take_length]
theorem J8 {b:List Int} {u f:Int} (hb:∀ x∈b,x6 x) (hl:b.length≤100000) (h0:0≤u) (h1:u≤b.length) :
  n8 281474976710656 ⟨b,u,f⟩=some ((w8 b u f).1,⟨b,(w8 b u f).2.1,(w8 b u f).2.2⟩):=by
 unfold n8
 have hr:=pA (f:=f) hb h0 h1
 unfold w8 at *
 by_cases hf:f≠0
 ·rw [wE hf,if_pos hf];rfl
 ·rw [if_neg hf] at hr ⊢
  rw [wF (show f=0 by omega),cond_false,xZ ⟨h0,h1⟩,zbs,fP b h0,m7 (nN hb _) (by rw [List.length_drop];omega) (by rw [List.length_drop];omega),zbs]
  simp only at hr
  show some (_,(⟨b,zG (u+_),_⟩:kG))=_
  rw [w64 (by omega) (by omega)]
end Go.Ab
