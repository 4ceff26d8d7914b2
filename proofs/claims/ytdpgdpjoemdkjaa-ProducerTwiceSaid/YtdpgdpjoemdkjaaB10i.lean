/- Plain laws of the functions uI this seat's, laid anew from another seat's text. No conditions but those that the theorems name. -/
import Derived.Test.YtdpgdpjoemdkjaaP10xD
import Derived.Test.YtdpgdpjoemdkjaaB10a
import Derived.Test.YtdpgdpjoemdkjaaB10h
namespace Go.Ab
open Go
set_option linter.unusedVariables false
def fr (x:List Int):List Int:=wT 9 (wF (x.length:Int))++x
def wO:List (List Int)→List Int
 | []=>[]
 | x::l=>fr x++wO l
theorem zFk (l m:List (List Int)):wO (l++m)=wO l++wO m:=by
 induction l with
 | nil=>rfl
 | cons x l ih=>simp [wO,ih]
theorem zBR (x:List Int):1+x.length≤(fr x).length∧(fr x).length≤10+x.length:=by
 have:=kV 9 (wF (x.length:Int))
 unfold fr;rw [List.length_append];omega
def zAI (x:List Int):Prop:=x.length≤2000∧∀ y∈x,xJ y
theorem zOt {x:List Int} (hl:x.length≤1000000) (h:∀ y∈x,xJ y):∀ y∈fr x,xJ y :=
 zOp (zIw (by unfold yS;omega)) h
theorem zM0:∀ (m:Nat) (l:List (List Int)),(∀ x∈l,zAI x)→(wO l).length≤m→recs m (wO l)=(l,true):=by
 intro m
 induction m with
 | zero =>
  intro l h hm
  cases l with
  | nil=>rfl
  | cons x l=>have:=zBR x;simp only [wO,List.length_append] at hm;omega
 | succ m ih =>
  intro l h hm
  cases l with
  | nil=>simp [recs,wO]
  | cons x l =>
   have hx:=h x (List.mem_cons_self ..)
   have hf:=zBR x
   simp only [wO,List.length_append] at hm ⊢
   unfold recs
   have hne:fr x++wO l≠[]:=by intro hc;rw [List.append_eq_nil_iff] at hc;rw [hc.1] at hf;simp at hf
   rw [if_neg hne]
   have e:fr x++wO l=wT 9 (wF (x.length:Int))++(x++wO l):=by unfold fr;rw [List.append_assoc]
   have hv:vrd (fr x++wO l) 0 0=((x.length:Int),((wT 9 (wF (x.length:Int))).length:Int),0):=by
    rw [e];exact zKc (by unfold yS;have:=hx.1;omega)
   have hd:(fr x++wO l).drop ((((wT 9 (wF (x.length:Int))).length:Int)+(x.length:Int)).toNat)=wO l:=by
    rw [show (((wT 9 (wF (x.length:Int))).length:Int)+(x.length:Int)).toNat=(fr x).length by unfold fr;rw [List.length_append];omega,List.drop_left]
   have hs:sub (fr x++wO l) ((wT 9 (wF (x.length:Int))).length:Int) (((wT 9 (wF (x.length:Int))).length:Int)+(x.length:Int))=x:=by
    rw [e];unfold sub
    rw [show (((wT 9 (wF (x.length:Int))).length:Int)+(x.length:Int)).toNat=(wT 9 (wF (x.length:Int))).length+x.length by omega,Int.toNat_natCast]
    rw [List.take_length_add_append,List.drop_left,List.take_left]
   rw [hv]
   simp only
   have hfl:(fr x).length=(wT 9 (wF (x.length:Int))).length+x.length:=by unfold fr;rw [List.length_append]
   rw [if_neg (by have:=hx.1;rw [List.length_append];omega),hd,hs,ih l (fun z hz=>h z (List.mem_cons_of_mem _ hz)) (by omega)]
theorem zKQ {l:List (List Int)} (h:∀ x∈l,zAI x):tF (wO l)=(l,true):=by
 unfold tF;rw [zM0 _ l h (Nat.le_refl _)];rfl
theorem zM9:∀ (m:Nat) (b:List Int),(∀ x∈b,xJ x)→(recs m b).2=true→b=wO (recs m b).1∧∀ x∈(recs m b).1,zAI x:=by
 intro m
 induction m with
 | zero=>intro b _ h;simp [recs] at h;subst h;simp [recs,wO]
 | succ m ih =>
  intro b hb h
  simp only [recs] at h ⊢
  by_cases he:b=[]
  ·rw [if_pos he];subst he;simp [wO]
  rw [if_neg he] at h ⊢
  obtain ⟨k1,k2,k3⟩:=zAg (i:=0) (u:=0) hb (by omega) (by omega) (by decide)
  have hu:=zGi (i:=0) (u:=0) hb (by omega) (by omega) (by decide)
  generalize hq:vrd b 0 0=q at *
  by_cases hbad:q.2.2≠0∨q.1<0∨2000<q.1∨(b.length:Int)<q.2.1+q.1
  ·rw [if_pos hbad] at h;simp at h
  rw [if_neg hbad] at h ⊢
  have k2:=k2 (by omega)
  obtain ⟨v,v0,vz,vb,e1,e2⟩:=hu (by omega)
  obtain ⟨i1,i2⟩:=ih _ (fun x hx=>hb x (List.mem_of_mem_drop hx)) h
  simp only at h ⊢
  have hv:wF q.1=v:=by rw [e1];simp only [Nat.mul_zero,Int.pow_zero,Int.mul_one,Int.zero_add];exact zHm v0
  have e2:b.take q.2.1.toNat=wT 9 v:=by simpa using e2
  have hsl:(sub b q.2.1 (q.2.1+q.1)).length=q.1.toNat:=by unfold sub;simp;omega
  have hok:∀ y∈sub b q.2.1 (q.2.1+q.1),xJ y:=fun y hy=>hb y (by unfold sub at hy;exact List.mem_of_mem_take (List.mem_of_mem_drop hy))
  constructor
  ·unfold wO fr
   rw [hsl,show (q.1.toNat:Int)=q.1 by omega,hv,← e2,← i1]
   unfold sub
   rw [show (q.2.1+q.1).toNat=q.2.1.toNat+q.1.toNat by omega]
   rw [List.drop_take,show q.2.1.toNat+q.1.toNat - q.2.1.toNat=q.1.toNat by omega,List.append_assoc,← List.drop_drop,List.take_append_drop,List.take_append_drop]
  ·intro x hx
   rcases List.mem_cons.1 hx with rfl | hx
   ·exact ⟨by omega,hok⟩
   ·exact i2 x hx
theorem zEZ {b:List Int} {l:List (List Int)} (hb:∀ x∈b,xJ x) (h:tF b=(l,true)):b=wO l∧∀ x∈l,zAI x:=by
 unfold tF at h
 by_cases h2:(recs b.length b).2=true
 ·rw [if_pos h2] at h
  have:=zM9 _ _ hb h2
  rw [h] at this;exact this
 ·rw [if_neg h2] at h;injection h with _ e;cases e
/- How many are lost. -/
def pS (f:Int):Int→List (List Int)→Nat
 | _,[]=>0
 | wR,x::l=>if wR<f then pS f (wR+(fr x).length) l+1 else 0
theorem zNj (f:Int):∀ (l:List (List Int)) (wR:Int),pS f wR l≤l.length:=by
 intro l
 induction l with
 | nil=>intro _;simp [pS]
 | cons x l ih=>intro wR;unfold pS;split<;>simp;exact ih _
theorem zKK (f:Int):∀ (l:List (List Int)) (wR:Int),f≤wR+(wO l).length→f≤wR+(wO (l.take (pS f wR l))).length:=by
 intro l
 induction l with
 | nil=>intro wR h;simpa [pS] using h
 | cons x l ih =>
  intro wR h
  unfold pS
  split
  ·have:=ih (wR+(fr x).length) (by simp only [wO,List.length_append] at h;omega)
   simp only [List.take_succ_cons,wO,List.length_append];omega
  ·simp [wO];omega
theorem zFo (l:List (List Int)) (k:Nat):(wO (l.take k)).length+(wO (l.drop k)).length=(wO l).length:=by
 rw [← List.length_append,← zFk,List.take_append_drop]
theorem zK5 {α:Type} {l:List α} {k:Nat} {x:α} {r:List α} (h:l.drop k=x::r):l.drop (k+1)=r:=by
 rw [← List.drop_drop,h];rfl
theorem zE4 {x:List Int} (hx:x.length≤100000):x9 200000 [] (x.length:Int)=some (wT 9 (wF (x.length:Int))):=by
 rw [tQ (by unfold yS;omega) (by simp) (by omega),List.nil_append]
theorem zL5 {b:List Int} {e:Int} {l:List (List Int)} (hl:∀ x∈l,zAI x) (hb:((fr b).length:Int)≤65536):∀ (rest:List (List Int)) (n k:Nat) (wR c:Int),l.drop k=rest→rest.length<n→0≤wR→0≤c→c≤1000000000000000+65536→k+rest.length≤100000 →
  wR+(wO rest).length≤65536→((fr b).length:Int)≤wR+(wO rest).length→c+(wO rest).length≤1000000000000000+65536 →
  nP 200000 b (l,e) (wT 9 (wF (b.length:Int))) n wR k c=some (((k+pS (fr b).length wR rest:Nat):Int),c+(wO (rest.take (pS (fr b).length wR rest))).length):=by
 intro rest
 induction rest with
 | nil =>
  intro n k wR c hd hn h0 hc0 hc hk hr hf hcc
  obtain ⟨n,rfl⟩:∃ m,n=m+1:=⟨n - 1,by simp at hn;omega⟩
  show tD 200000 b (l,e) _ _ wR k c=_
  unfold tD
  simp only [wO,List.length_nil] at hf
  rw [show wT 9 (wF (b.length:Int))++b=fr b from rfl,yR (by omega),cond_false]
  simp [pS,wO]
 | cons x rest ih =>
  intro n k wR c hd hn h0 hc0 hc hk hr hf hcc
  obtain ⟨n,rfl⟩:∃ m,n=m+1:=⟨n - 1,by simp at hn;omega⟩
  show tD 200000 b (l,e) _ _ wR k c=_
  unfold tD
  rw [show wT 9 (wF (b.length:Int))++b=fr b from rfl]
  simp only [pS]
  have hx:zAI x:=hl x (List.mem_of_mem_drop (hd ▸ List.mem_cons_self ..))
  have hfx:=zBR x
  have hfl:(fr x).length=(wT 9 (wF (x.length:Int))).length+x.length:=by unfold fr;rw [List.length_append]
  simp only [wO,List.length_append] at hr hf hcc
  by_cases hlt:wR<(fr b).length
  ·rw [y4 (by omega),cond_true,if_pos hlt,vH hd,Option.bind_some,zE4 (by have:=hx.1;omega),Option.bind_some,Option.bind_some]
   rw [w64 (x:=((wT 9 (wF (x.length:Int))).length:Int)+(x.length:Int)) (by omega) (by omega),show ((wT 9 (wF (x.length:Int))).length:Int)+(x.length:Int)=((fr x).length:Int) by omega,w64 (by omega) (by omega),w64 (by omega) (by omega),w64 (by omega) (by omega)]
   have:=ih n (k+1) (wR+(fr x).length) (c+(fr x).length) (zK5 hd) (by simp at hn;omega) (by omega) (by omega) (by omega) (by simp at hk;omega) (by omega) (by omega) (by omega)
   rw [show ((k:Int)+1)=((k+1:Nat):Int) by omega,this]
   simp only [List.take_succ_cons,wO,List.length_append]
   exact congrArg some (Prod.ext (by show ((k+1+_:Nat):Int)=((k+(_+1):Nat):Int);omega) (by show c+((fr x).length:Int)+_=c+(((fr x).length+_:Nat):Int);omega))
  ·rw [yR (by omega),cond_false,if_neg hlt]
   simp [wO]
/- The bytes behind Put. -/
def off (n a p:Nat):Nat:=if a≤p then p - a else p+n - a
def wrt (D:List Int) (a:Nat) (G:List Int):List Int:=(List.range D.length).map fun p=>if off D.length a p<G.length then G.getD (off D.length a p) 0 else D.getD p 0
theorem zBB (D:List Int) (a:Nat) (G:List Int):(wrt D a G).length=D.length:=by simp [wrt]
theorem zGX {D:List Int} {a p:Nat} {G:List Int} (h:p<D.length):(wrt D a G)[p]?=some (if off D.length a p<G.length then G.getD (off D.length a p) 0 else D.getD p 0):=by simp [wrt,h]
theorem zOf {D:List Int} {a:Nat} {G:List Int} (h:∀ x∈D,xJ x) (hG:∀ x∈G,xJ x):∀ x∈wrt D a G,xJ x:=by
 have z:∀ (L:List Int) (k:Nat),(∀ x∈L,xJ x)→xJ (L.getD k 0):=by
  intro L k hL
  rw [List.getD_eq_getElem?_getD]
  cases hq:L[k]? with
  | none=>simp [xJ]
  | some v=>exact hL v (List.mem_of_getElem? hq)
 intro x hx
 simp only [wrt,List.mem_map] at hx
 obtain ⟨j,_,rfl⟩:=hx
 split
 ·exact z _ _ hG
 ·exact z _ _ h
theorem zCB {L:List Int} {k:Nat} (h:k<L.length):L[k]?=some (L.getD k 0):=by
 rw [List.getD_eq_getElem?_getD,List.getElem?_eq_getElem h];rfl
theorem zNG {D G:List Int} {a:Nat} (ha:a<D.length) (hG:G.length≤D.length) :
  cpy (cpy D a D.length G) 0 D.length ((G.take G.length).drop (min G.length (D.length - a)))=wrt D a G:=by
 rw [List.take_length]
 have l1:(cpy D a D.length G).length=D.length:=pI (by omega) (by omega)
 have l2:(cpy (cpy D a D.length G) 0 D.length (G.drop (min G.length (D.length - a)))).length=D.length:=by rw [pI (by omega) (by omega),l1]
 apply List.ext_getElem?
 intro p
 by_cases h:p<D.length
 ·rw [zGX h]
  have hm:min (G.drop (min G.length (D.length - a))).length (D.length - 0)=G.length - min G.length (D.length - a):=by simp;omega
  have e1:∀ q,q<D.length→(cpy D a D.length G)[q]?=some (if a≤q∧q<a+min G.length (D.length - a) then G.getD (q - a) 0 else D.getD q 0):=by
   intro q hq
   unfold cpy
   have lt:(D.take a).length=a:=by simp;omega
   by_cases c1:q<a
   ·rw [if_neg (by omega),List.append_assoc,List.getElem?_append_left (by omega),List.getElem?_take,if_pos c1,zCB hq]
   ·by_cases c2:q<a+min G.length (D.length - a)
    ·rw [if_pos (by omega),List.append_assoc,List.getElem?_append_right (by omega),lt,List.getElem?_append_left (by simp;omega),List.getElem?_take,if_pos (by omega),zCB (by omega)]
    ·rw [if_neg (by omega),List.getElem?_append_right (by simp;omega)]
     simp only [List.length_append,List.length_take,List.getElem?_drop]
     rw [← zCB hq]
     congr 1;omega
  generalize cpy D a D.length G=C at *
  unfold cpy
  rw [hm]
  simp only [List.take_zero,List.nil_append,Nat.zero_add]
  unfold off
  by_cases c1:p<G.length - min G.length (D.length - a)
  ·rw [List.getElem?_append_left (by simp;omega),List.getElem?_take,if_pos c1,List.getElem?_drop,zCB (by omega),if_neg (show ¬a≤p by omega),if_pos (by omega)]
   congr 2;omega
  ·rw [List.getElem?_append_right (by simp;omega),List.getElem?_drop]
   rw [show (G.length - min G.length (D.length - a))+(p - ((G.drop (min G.length (D.length - a))).take (G.length - min G.length (D.length - a))).length)=p by simp;omega,e1 p h]
   by_cases c2:a≤p
   ·rw [if_pos c2]
    by_cases c3:p<a+min G.length (D.length - a)
    ·rw [if_pos ⟨c2,c3⟩,if_pos (by omega)]
    ·rw [if_neg (by omega),if_neg (by omega)]
   ·rw [if_neg c2,if_neg (by omega),if_neg (by omega)]
 ·rw [List.getElem?_eq_none (by rw [l2];omega),List.getElem?_eq_none (by rw [zBB];omega)]
end Go.Ab
