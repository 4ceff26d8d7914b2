/- Plain laws of the functions wP this seat's, laid anew from another seat's text. No conditions but those that the theorems name. -/
import Derived.Test.YtdpgdpjoemdkjaaP10xD
import Derived.Test.YtdpgdpjoemdkjaaB10a
import Derived.Test.YtdpgdpjoemdkjaaB10h
namespace Go.Ab
open Go
set_option linter.unusedVariables false
def fr (x:List Int):List Int:=wM 9 (vI (x.length:Int))++x
def xU:List (List Int)→List Int
 | []=>[]
 | x::l=>fr x++xU l
theorem zDQ (l m:List (List Int)):xU (l++m)=xU l++xU m:=by
 induction l with
 | nil=>rfl
 | cons x l ih=>simp [xU,ih]
theorem zCE (x:List Int):1+x.length≤(fr x).length∧(fr x).length≤10+x.length:=by
 have:=zHH 9 (vI (x.length:Int))
 unfold fr;rw [List.length_append];omega
def zAb (x:List Int):Prop:=x.length≤2000∧∀ y∈x,yP y
theorem zMx {x:List Int} (hl:x.length≤1000000) (h:∀ y∈x,yP y):∀ y∈fr x,yP y :=
 zMk (zGF (by unfold yC;omega)) h
theorem zLr:∀ (m:Nat) (l:List (List Int)),(∀ x∈l,zAb x)→(xU l).length≤m→recs m (xU l)=(l,true):=by
 intro m
 induction m with
 | zero =>
  intro l h hm
  cases l with
  | nil=>rfl
  | cons x l=>have:=zCE x;simp only [xU,List.length_append] at hm;omega
 | succ m ih =>
  intro l h hm
  cases l with
  | nil=>simp [recs,xU]
  | cons x l =>
   have hx:=h x (List.mem_cons_self ..)
   have hf:=zCE x
   simp only [xU,List.length_append] at hm ⊢
   unfold recs
   have hne:fr x++xU l≠[]:=by intro hc;rw [List.append_eq_nil_iff] at hc;rw [hc.1] at hf;simp at hf
   rw [if_neg hne]
   have e:fr x++xU l=wM 9 (vI (x.length:Int))++(x++xU l):=by unfold fr;rw [List.append_assoc]
   have hv:vrd (fr x++xU l) 0 0=((x.length:Int),((wM 9 (vI (x.length:Int))).length:Int),0):=by
    rw [e];exact zIp (by unfold yC;have:=hx.1;omega)
   have hd:(fr x++xU l).drop ((((wM 9 (vI (x.length:Int))).length:Int)+(x.length:Int)).toNat)=xU l:=by
    rw [show (((wM 9 (vI (x.length:Int))).length:Int)+(x.length:Int)).toNat=(fr x).length by unfold fr;rw [List.length_append];omega,List.drop_left]
   have hs:sub (fr x++xU l) ((wM 9 (vI (x.length:Int))).length:Int) (((wM 9 (vI (x.length:Int))).length:Int)+(x.length:Int))=x:=by
    rw [e];unfold sub
    rw [show (((wM 9 (vI (x.length:Int))).length:Int)+(x.length:Int)).toNat=(wM 9 (vI (x.length:Int))).length+x.length by omega,Int.toNat_natCast]
    rw [List.take_length_add_append,List.drop_left,List.take_left]
   rw [hv]
   simp only
   have hfl:(fr x).length=(wM 9 (vI (x.length:Int))).length+x.length:=by unfold fr;rw [List.length_append]
   rw [if_neg (by have:=hx.1;rw [List.length_append];omega),hd,hs,ih l (fun z hz=>h z (List.mem_cons_of_mem _ hz)) (by omega)]
theorem zJj {l:List (List Int)} (h:∀ x∈l,zAb x):v4 (xU l)=(l,true):=by
 unfold v4;rw [zLr _ l h (Nat.le_refl _)];rfl
theorem zLg:∀ (m:Nat) (b:List Int),(∀ x∈b,yP x)→(recs m b).2=true→b=xU (recs m b).1∧∀ x∈(recs m b).1,zAb x:=by
 intro m
 induction m with
 | zero=>intro b _ h;simp [recs] at h;subst h;simp [recs,xU]
 | succ m ih =>
  intro b hb h
  simp only [recs] at h ⊢
  by_cases he:b=[]
  ·rw [if_pos he];subst he;simp [xU]
  rw [if_neg he] at h ⊢
  obtain ⟨k1,k2,k3⟩:=j4 (i:=0) (u:=0) hb (by omega) (by omega) (by decide)
  have hu:=zEq (i:=0) (u:=0) hb (by omega) (by omega) (by decide)
  generalize hq:vrd b 0 0=q at *
  by_cases hbad:q.2.2≠0∨q.1<0∨2000<q.1∨(b.length:Int)<q.2.1+q.1
  ·rw [if_pos hbad] at h;simp at h
  rw [if_neg hbad] at h ⊢
  have k2:=k2 (by omega)
  obtain ⟨v,v0,vz,vb,e1,e2⟩:=hu (by omega)
  obtain ⟨i1,i2⟩:=ih _ (fun x hx=>hb x (List.mem_of_mem_drop hx)) h
  simp only at h ⊢
  have hv:vI q.1=v:=by rw [e1];simp only [Nat.mul_zero,Int.pow_zero,Int.mul_one,Int.zero_add];exact zFC v0
  have e2:b.take q.2.1.toNat=wM 9 v:=by simpa using e2
  have hsl:(sub b q.2.1 (q.2.1+q.1)).length=q.1.toNat:=by unfold sub;simp;omega
  have hok:∀ y∈sub b q.2.1 (q.2.1+q.1),yP y:=fun y hy=>hb y (by unfold sub at hy;exact List.mem_of_mem_take (List.mem_of_mem_drop hy))
  constructor
  ·unfold xU fr
   rw [hsl,show (q.1.toNat:Int)=q.1 by omega,hv,← e2,← i1]
   unfold sub
   rw [show (q.2.1+q.1).toNat=q.2.1.toNat+q.1.toNat by omega]
   rw [List.drop_take,show q.2.1.toNat+q.1.toNat - q.2.1.toNat=q.1.toNat by omega,List.append_assoc,← List.drop_drop,List.take_append_drop,List.take_append_drop]
  ·intro x hx
   rcases List.mem_cons.1 hx with rfl | hx
   ·exact ⟨by omega,hok⟩
   ·exact i2 x hx
theorem zDs {b:List Int} {l:List (List Int)} (hb:∀ x∈b,yP x) (h:v4 b=(l,true)):b=xU l∧∀ x∈l,zAb x:=by
 unfold v4 at h
 by_cases h2:(recs b.length b).2=true
 ·rw [if_pos h2] at h
  have:=zLg _ _ hb h2
  rw [h] at this;exact this
 ·rw [if_neg h2] at h;injection h with _ e;cases e
/- How many are lost. -/
def zAi (f:Int):Int→List (List Int)→Nat
 | _,[]=>0
 | vL,x::l=>if vL<f then zAi f (vL+(fr x).length) l+1 else 0
theorem zK7 (f:Int):∀ (l:List (List Int)) (vL:Int),zAi f vL l≤l.length:=by
 intro l
 induction l with
 | nil=>intro _;simp [zAi]
 | cons x l ih=>intro vL;unfold zAi;split<;>simp;exact ih _
theorem zJp (f:Int):∀ (l:List (List Int)) (vL:Int),f≤vL+(xU l).length→f≤vL+(xU (l.take (zAi f vL l))).length:=by
 intro l
 induction l with
 | nil=>intro vL h;simpa [zAi] using h
 | cons x l ih =>
  intro vL h
  unfold zAi
  split
  ·have:=ih (vL+(fr x).length) (by simp only [xU,List.length_append] at h;omega)
   simp only [List.take_succ_cons,xU,List.length_append];omega
  ·simp [xU];omega
theorem zHR (l:List (List Int)) (k:Nat):(xU (l.take k)).length+(xU (l.drop k)).length=(xU l).length:=by
 rw [← List.length_append,← zDQ,List.take_append_drop]
/- The bytes behind Put. -/
def off (n a p:Nat):Nat:=if a≤p then p - a else p+n - a
def wrt (D:List Int) (a:Nat) (G:List Int):List Int:=(List.range D.length).map fun p=>if off D.length a p<G.length then G.getD (off D.length a p) 0 else D.getD p 0
theorem zAO (D:List Int) (a:Nat) (G:List Int):(wrt D a G).length=D.length:=by simp [wrt]
theorem zIG {D:List Int} {a p:Nat} {G:List Int} (h:p<D.length):(wrt D a G)[p]?=some (if off D.length a p<G.length then G.getD (off D.length a p) 0 else D.getD p 0):=by simp [wrt,h]
theorem zMo {D:List Int} {a:Nat} {G:List Int} (h:∀ x∈D,yP x) (hG:∀ x∈G,yP x):∀ x∈wrt D a G,yP x:=by
 have z:∀ (L:List Int) (k:Nat),(∀ x∈L,yP x)→yP (L.getD k 0):=by
  intro L k hL
  rw [List.getD_eq_getElem?_getD]
  cases hq:L[k]? with
  | none=>simp [yP]
  | some v=>exact hL v (List.mem_of_getElem? hq)
 intro x hx
 simp only [wrt,List.mem_map] at hx
 obtain ⟨j,_,rfl⟩:=hx
 split
 ·exact z _ _ hG
 ·exact z _ _ h
theorem zKN {L:List Int} {k:Nat} (h:k<L.length):L[k]?=some (L.getD k 0):=by
 rw [List.getD_eq_getElem?_getD,List.getElem?_eq_getElem h];rfl
end Go.Ab
