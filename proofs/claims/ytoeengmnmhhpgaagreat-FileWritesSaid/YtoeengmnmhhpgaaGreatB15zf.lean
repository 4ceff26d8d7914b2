/- Plain laws of the functions uS this seat's, laid anew from another seat's text. No conditions but those that the theorems name. -/
import Derived.Test.YtoeengmnmhhpgaaGreatP15zxD
import Derived.Test.YtoeengmnmhhpgaaGreatB15za
import Derived.Test.YtoeengmnmhhpgaaGreatB15zb
import Derived.Test.YtoeengmnmhhpgaaGreatB15zc
import Derived.Test.YtoeengmnmhhpgaaGreatB15zd
import Derived.Test.YtoeengmnmhhpgaaGreatB15ze
namespace Go.Ab
open Go
set_option linter.unusedVariables false
theorem ZE {l:List Int} (hl:l.length<=1000) (h:∀ x∈l,xM x):A7 281474976710656 l=some (vX l):=by
 unfold A7
 have:=ER (l:=l) (fun n i s=>GE 281474976710656 l n s i) (fun i r _=>vX l) (fun i s=>s=vX (l.take i)) ?_ ?_ (n:=281474976710656) (s:=[]) rfl (by omega)
 ·rw [this];rfl
 ·intro n i s hi hs;show mJ _ _ _ _ _=_;unfold mJ;rw [yP (by omega),cond_false,hs,List.take_of_length_le hi]
 ·intro n i s x r hd hlt hs ih;show mJ _ _ _ _ _=_;unfold mJ
  have:=pN (l.take i)
  rw [List.length_take] at this;simp (disch:=omega) only [yN,cond_true,vE hd,zbs,wX];rw [hs,jM (h x (nQ hd)) (by omega) (by omega),zbs];exact ih _ (by rw [bO hd,G0])
theorem zHf {names:List (List Int)} {stacks:List zV} {e:xD} (hn:names.length<=40000) (hs:stacks.length<=40000):H0 281474976710656 names stacks e=some (kF names stacks e):=by
 unfold H0 kF;rw [show aQ 281474976710656 names stacks=some (kU names stacks) from N6,zbs]
 by_cases hc:kU names stacks≠0
 ·rw [xX hc,if_pos hc];rfl
 rw [x7 (by omega),cond_false,if_neg hc,QP,zbs]
 by_cases he:evS e≠0
 ·rw [xX he,if_pos he];rfl
 rw [x7 (by omega),cond_false,if_neg he];obtain ⟨r1,r2,r3,r4⟩:=RF (show evS e=0 by omega);obtain ⟨_,_,k1,k2,_⟩:=QR (show evS e=0 by omega);rw [ZM ⟨k1,k2⟩,zbs];have hpn:=LH names e.Name;have hpi:=ZV (n:=names) (x:=e.Name) (by omega);simp only [W3 (show names.length<=100000 by omega),zbs];unfold q8 d8;have tail:∀ (pre:List Int) (nm:List (List Int)),pre.length<=3->(∀ x∈pre,xM x)->nm.length<=50000 ->
   ((((bif uC e.Kind then (need (((pre).length+(([e.N]:List Int)).length) * 8<=140737488355328)).bind fun _=>some (pre++([e.N]:List Int)) else some pre):Option (List Int))).bind fun (o_2:(List Int)) =>
   (((bif uM e.Kind then (need (((o_2).length+(([e.M]:List Int)).length) * 8<=140737488355328)).bind fun _=>some (o_2++([e.M]:List Int)) else some o_2):Option (List Int))).bind fun (o_3:(List Int)) =>
   (((bif u4 e.Kind then (A9 281474976710656 nm stacks e.Stack).bind fun r_5 =>
   (bif (r_5.2.2.2 != (0:Int)) then some (.inr ([],[],[],r_5.2.2.2)) else
   (need (((o_3).length+(([r_5.1]:List Int)).length) * 8<=140737488355328)).bind fun _ =>
   some (.inl (r_5.2.1,r_5.2.2.1,(o_3++([r_5.1]:List Int))))) else
   some (.inl (nm,stacks,o_3))):Option (((List (List Int))×(List zV)×(List Int))⊕((List (Int))×(List (List Int))×(List (zV))×Int)))).bind fun (o_4:((List (List Int))×(List zV)×(List Int))⊕((List (Int))×(List (List Int))×(List (zV))×Int)) =>
   (match o_4 with
   | (.inl q_3)=>(A7 281474976710656 q_3.2.2).bind fun r_6=>some (r_6,q_3.1,q_3.2.1,(0:Int))
   | (.inr q_4)=>some q_4)) =
   some (if (qZ nm stacks e).2.2.2≠0 then ([],[],[],(qZ nm stacks e).2.2.2) else
    (vX (pre++(if uC e.Kind then [e.N] else [])++(if uM e.Kind then [e.M] else [])++(if u4 e.Kind then [(qZ nm stacks e).1] else [])),(qZ nm stacks e).2.1,(qZ nm stacks e).2.2.1,0)):=by
  intro pre nm hp hok hnm;have h1:(((bif uC e.Kind then (need (((pre).length+(([e.N]:List Int)).length) * 8<=140737488355328)).bind fun _=>some (pre++([e.N]:List Int)) else some pre):Option (List Int)))=some (pre++(if uC e.Kind then [e.N] else [])):=by
   cases uC e.Kind
   ·simp
   ·rw [cond_true,xQ (by simp;omega),zbs];rfl
  rw [h1,zbs];have hq:(pre++(if uC e.Kind then [e.N] else [])).length<=4:=by cases uC e.Kind<;>simp<;>omega
  have hqo:∀ x∈(pre++(if uC e.Kind then [e.N] else [])),xM x:=by
   intro x hx;rcases List.mem_append.1 hx with hx | hx
   ·exact hok x hx
   ·cases hu:uC e.Kind<;>rw [hu] at hx<;>simp at hx
    rw [hx];exact r3
  generalize pre++(if uC e.Kind then [e.N] else [])=q at *;have h2:(((bif uM e.Kind then (need (((q).length+(([e.M]:List Int)).length) * 8<=140737488355328)).bind fun _=>some (q++([e.M]:List Int)) else some q):Option (List Int)))=some (q++(if uM e.Kind then [e.M] else [])):=by
   cases uM e.Kind
   ·simp
   ·rw [cond_true,xQ (by simp;omega),zbs];rfl
  rw [h2,zbs];have hq2:(q++(if uM e.Kind then [e.M] else [])).length<=5:=by cases uM e.Kind<;>simp<;>omega
  have hqo2:∀ x∈(q++(if uM e.Kind then [e.M] else [])),xM x:=by
   intro x hx;rcases List.mem_append.1 hx with hx | hx
   ·exact hqo x hx
   ·cases hu:uM e.Kind<;>rw [hu] at hx<;>simp at hx
    rw [hx];exact r4
  generalize q++(if uM e.Kind then [e.M] else [])=p at *;unfold qZ;cases u4 e.Kind
  ·simp only [cond_false,zbs];rw [ZE (by omega) hqo2];simp
  ·have hpx:=VC (n:=nm) (s:=stacks) (l:=e.Stack) (by omega);simp only [cond_true,if_true];rw [zEX (by omega) (by omega),zbs]
   by_cases hz:(jS nm stacks e.Stack).2.2.2≠0
   ·rw [xX hz,if_pos hz];rfl
   ·rw [x7 (by omega),if_neg hz,cond_false,xQ (by simp;omega),zbs,zbs];simp only;rw [ZE (by simp;omega) (fun x hx=>by
     rcases List.mem_append.1 hx with hx | hx
     ·exact hqo2 x hx
     ·simp at hx;rw [hx];exact hpx)]
    rfl
 have hbase:∀ x∈[e.Kind,e.At],xM x:=fun x hx=>by
  simp at hx;rcases hx with rfl | rfl
  ·exact r2
  ·exact r1
 cases hun:vP e.Kind
 ·have:=tail [e.Kind,e.At] names (by simp) hbase (by omega)
  simp only [cond_false,Bool.false_eq_true,if_false,List.append_nil,zbs,ne_eq,not_true_eq_false];exact this
 ·simp only [cond_true,if_true]
  by_cases hp:(tF names e.Name).2.2≠0
  ·rw [xX hp,if_pos hp];rfl
  ·have:=tail ([e.Kind,e.At]++[(tF names e.Name).1]) (tF names e.Name).2.1 (by simp) (fun x hx=>by
    rcases List.mem_append.1 hx with hx | hx
    ·exact hbase x hx
    ·simp at hx;rw [hx];exact hpi) (by omega)
   rw [x7 (by omega),if_neg hp,cond_false,xQ (by simp),zbs,zbs];exact this
def vI (b:List Int) (u f:Int):Int×Int×Int:=if f≠0 then (0,u,f) else ((vrd (b.drop u.toNat) 0 0).1,u+(vrd (b.drop u.toNat) 0 0).2.1,(vrd (b.drop u.toNat) 0 0).2.2)
theorem n9 {b:List Int} (hb:∀ x∈b,xY x) (n:Nat):∀ x∈b.drop n,xY x:=fun x hx=>hb x (List.mem_of_mem_drop hx)
theorem pP {b:List Int} {u f:Int} (hb:∀ x∈b,xY x) (h0:0<=u) (h1:u<=b.length):xM (vI b u f).1/\u<=(vI b u f).2.1/\(vI b u f).2.1<=b.length/\((vI b u f).2.2=0->f=0/\u<(vI b u f).2.1):=by
 unfold vI
 split
 ·exact ⟨by simp [xM],Int.le_refl _,h1,fun h=>absurd h (by assumption)⟩
 ·have hv:=cJ (l:=b.drop u.toNat) (i:=0) (u:=0) (n9 hb _) (by omega) (by omega) (by simp);obtain ⟨v1,v2,v3⟩:=hv;simp only;have hl:(b.drop u.toNat).length=b.length - u.toNat:=List.length_drop;refine ⟨v1,?_,?_,fun h=>⟨by omega,by have:=(v2 h).1;omega⟩⟩
  ·rcases v3 with h | h
   ·have:=(v2 h).1;omega
   ·omega
  ·rcases v3 with h | h
   ·have:=(v2 h).2.2;omega
   ·omega
theorem gR (b:List Int) {u:Int} (h0:0<=u):sub b u (b.length:Int)=b.drop u.toNat:=by
 unfold sub;rw [Int.toNat_natCast,List.take_length]
theorem LI {b:List Int} {u f:Int} (hb:∀ x∈b,xY x) (hl:b.length<=100000) (h0:0<=u) (h1:u<=b.length) :
  aV 281474976710656 ⟨b,u,f⟩=some ((vI b u f).1,⟨b,(vI b u f).2.1,(vI b u f).2.2⟩):=by
 unfold aV;have hr:=pP (f:=f) hb h0 h1;unfold vI at *
 by_cases hf:f≠0
 ·rw [xX hf,if_pos hf];rfl
 ·rw [if_neg hf] at hr ⊢;rw [x7 (show f=0 by omega),cond_false,xQ ⟨h0,h1⟩,zbs,gR b h0,oO (n9 hb _) (by rw [List.length_drop];omega) (by rw [List.length_drop];omega),zbs];simp only at hr;show some (_,(⟨b,zI (u+_),_⟩:pE))=_;rw [w64 (by omega) (by omega)]
end Go.Ab
