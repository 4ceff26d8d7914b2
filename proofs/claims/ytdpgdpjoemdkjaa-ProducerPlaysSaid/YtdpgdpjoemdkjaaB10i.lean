/- Plain laws of the functions qA this seat's, laid anew from another seat's text. No conditions but those that the theorems name. -/
import Derived.Test.YtdpgdpjoemdkjaaP10xD
import Derived.Test.YtdpgdpjoemdkjaaB10a
import Derived.Test.YtdpgdpjoemdkjaaB10h
namespace Go.Ab
open Go
set_option linter.unusedVariables false
def fr (x:List Int):List Int:=vV 9 (w8 (x.length:Int))++x
def wP:List (List Int)→List Int
 | []=>[]
 | x::l=>fr x++wP l
theorem zIg (l m:List (List Int)):wP (l++m)=wP l++wP m:=by
 induction l with
 | nil=>rfl
 | cons x l ih=>simp [wP,ih]
theorem zCQ (x:List Int):1+x.length≤(fr x).length∧(fr x).length≤10+x.length:=by
 have:=nN 9 (w8 (x.length:Int))
 unfold fr;rw [List.length_append];omega
def zAP (x:List Int):Prop:=x.length≤2000∧∀ y∈x,x7 y
theorem zSo {x:List Int} (hl:x.length≤1000000) (h:∀ y∈x,x7 y):∀ y∈fr x,x7 y :=
 zR8 (zM3 (by unfold y2;omega)) h
theorem zQi:∀ (m:Nat) (l:List (List Int)),(∀ x∈l,zAP x)→(wP l).length≤m→recs m (wP l)=(l,true):=by
 intro m
 induction m with
 | zero =>
  intro l h hm
  cases l with
  | nil=>rfl
  | cons x l=>have:=zCQ x;simp only [wP,List.length_append] at hm;omega
 | succ m ih =>
  intro l h hm
  cases l with
  | nil=>simp [recs,wP]
  | cons x l =>
   have hx:=h x (List.mem_cons_self ..)
   have hf:=zCQ x
   simp only [wP,List.length_append] at hm ⊢
   unfold recs
   have hne:fr x++wP l≠[]:=by intro hc;rw [List.append_eq_nil_iff] at hc;rw [hc.1] at hf;simp at hf
   rw [if_neg hne]
   have e:fr x++wP l=vV 9 (w8 (x.length:Int))++(x++wP l):=by unfold fr;rw [List.append_assoc]
   have hv:vrd (fr x++wP l) 0 0=((x.length:Int),((vV 9 (w8 (x.length:Int))).length:Int),0):=by
    rw [e];exact zOi (by unfold y2;have:=hx.1;omega)
   have hd:(fr x++wP l).drop ((((vV 9 (w8 (x.length:Int))).length:Int)+(x.length:Int)).toNat)=wP l:=by
    rw [show (((vV 9 (w8 (x.length:Int))).length:Int)+(x.length:Int)).toNat=(fr x).length by unfold fr;rw [List.length_append];omega,List.drop_left]
   have hs:sub (fr x++wP l) ((vV 9 (w8 (x.length:Int))).length:Int) (((vV 9 (w8 (x.length:Int))).length:Int)+(x.length:Int))=x:=by
    rw [e];unfold sub
    rw [show (((vV 9 (w8 (x.length:Int))).length:Int)+(x.length:Int)).toNat=(vV 9 (w8 (x.length:Int))).length+x.length by omega,Int.toNat_natCast]
    rw [List.take_length_add_append,List.drop_left,List.take_left]
   rw [hv]
   simp only
   have hfl:(fr x).length=(vV 9 (w8 (x.length:Int))).length+x.length:=by unfold fr;rw [List.length_append]
   rw [if_neg (by have:=hx.1;rw [List.length_append];omega),hd,hs,ih l (fun z hz=>h z (List.mem_cons_of_mem _ hz)) (by omega)]
theorem zO7 {l:List (List Int)} (h:∀ x∈l,zAP x):jQ (wP l)=(l,true):=by
 unfold jQ;rw [zQi _ l h (Nat.le_refl _)];rfl
theorem zRe:∀ (m:Nat) (b:List Int),(∀ x∈b,x7 x)→(recs m b).2=true→b=wP (recs m b).1∧∀ x∈(recs m b).1,zAP x:=by
 intro m
 induction m with
 | zero=>intro b _ h;simp [recs] at h;subst h;simp [recs,wP]
 | succ m ih =>
  intro b hb h
  simp only [recs] at h ⊢
  by_cases he:b=[]
  ·rw [if_pos he];subst he;simp [wP]
  rw [if_neg he] at h ⊢
  obtain ⟨k1,k2,k3⟩:=zBE (i:=0) (u:=0) hb (by omega) (by omega) (by decide)
  have hu:=zJn (i:=0) (u:=0) hb (by omega) (by omega) (by decide)
  generalize hq:vrd b 0 0=q at *
  by_cases hbad:q.2.2≠0∨q.1<0∨2000<q.1∨(b.length:Int)<q.2.1+q.1
  ·rw [if_pos hbad] at h;simp at h
  rw [if_neg hbad] at h ⊢
  have k2:=k2 (by omega)
  obtain ⟨v,v0,vz,vb,e1,e2⟩:=hu (by omega)
  obtain ⟨i1,i2⟩:=ih _ (fun x hx=>hb x (List.mem_of_mem_drop hx)) h
  simp only at h ⊢
  have hv:w8 q.1=v:=by rw [e1];simp only [Nat.mul_zero,Int.pow_zero,Int.mul_one,Int.zero_add];exact zKu v0
  have e2:b.take q.2.1.toNat=vV 9 v:=by simpa using e2
  have hsl:(sub b q.2.1 (q.2.1+q.1)).length=q.1.toNat:=by unfold sub;simp;omega
  have hok:∀ y∈sub b q.2.1 (q.2.1+q.1),x7 y:=fun y hy=>hb y (by unfold sub at hy;exact List.mem_of_mem_take (List.mem_of_mem_drop hy))
  constructor
  ·unfold wP fr
   rw [hsl,show (q.1.toNat:Int)=q.1 by omega,hv,← e2,← i1]
   unfold sub
   rw [show (q.2.1+q.1).toNat=q.2.1.toNat+q.1.toNat by omega]
   rw [List.drop_take,show q.2.1.toNat+q.1.toNat - q.2.1.toNat=q.1.toNat by omega,List.append_assoc,← List.drop_drop,List.take_append_drop,List.take_append_drop]
  ·intro x hx
   rcases List.mem_cons.1 hx with rfl | hx
   ·exact ⟨by omega,hok⟩
   ·exact i2 x hx
theorem zHQ {b:List Int} {l:List (List Int)} (hb:∀ x∈b,x7 x) (h:jQ b=(l,true)):b=wP l∧∀ x∈l,zAP x:=by
 unfold jQ at h
 by_cases h2:(recs b.length b).2=true
 ·rw [if_pos h2] at h
  have:=zRe _ _ hb h2
  rw [h] at this;exact this
 ·rw [if_neg h2] at h;injection h with _ e;cases e
/- How many are lost. -/
def pJ (f:Int):Int→List (List Int)→Nat
 | _,[]=>0
 | x8,x::l=>if x8<f then pJ f (x8+(fr x).length) l+1 else 0
theorem zQ9 (f:Int):∀ (l:List (List Int)) (x8:Int),pJ f x8 l≤l.length:=by
 intro l
 induction l with
 | nil=>intro _;simp [pJ]
 | cons x l ih=>intro x8;unfold pJ;split<;>simp;exact ih _
theorem zOP (f:Int):∀ (l:List (List Int)) (x8:Int),f≤x8+(wP l).length→f≤x8+(wP (l.take (pJ f x8 l))).length:=by
 intro l
 induction l with
 | nil=>intro x8 h;simpa [pJ] using h
 | cons x l ih =>
  intro x8 h
  unfold pJ
  split
  ·have:=ih (x8+(fr x).length) (by simp only [wP,List.length_append] at h;omega)
   simp only [List.take_succ_cons,wP,List.length_append];omega
  ·simp [wP];omega
theorem zFV (l:List (List Int)) (k:Nat):(wP (l.take k)).length+(wP (l.drop k)).length=(wP l).length:=by
 rw [← List.length_append,← zIg,List.take_append_drop]
theorem zIZ {α:Type} {l:List α} {k:Nat} {x:α} {r:List α} (h:l.drop k=x::r):l.drop (k+1)=r:=by
 rw [← List.drop_drop,h];rfl
theorem zHK {x:List Int} (hx:x.length≤100000):vG 200000 [] (x.length:Int)=some (vV 9 (w8 (x.length:Int))):=by
 rw [jZ (by unfold y2;omega) (by simp) (by omega),List.nil_append]
theorem zGH {x:List Int} (hx:x.length≤100000):zCH 200000 x=some (fr x):=by
 unfold zCH
 rw [zGA (by unfold y2;omega) (by simp) (by omega),zbs,xE (by have:=nN 9 (w8 (x.length:Int));simp only [List.nil_append];omega),zbs,List.nil_append];unfold fr;rfl
theorem zP0 {b:List Int} {e:Int} {l:List (List Int)} (hl:∀ x∈l,zAP x) (hb:((fr b).length:Int)≤65536):∀ (rest:List (List Int)) (n k:Nat) (x8 c:Int),l.drop k=rest→rest.length<n→0≤x8→0≤c→c≤1000000000000000+65536→k+rest.length≤100000 →
  x8+(wP rest).length≤65536→((fr b).length:Int)≤x8+(wP rest).length→c+(wP rest).length≤1000000000000000+65536 →
  zBg 200000 b (l,e) (vV 9 (w8 (b.length:Int))) n x8 k c=some (((k+pJ (fr b).length x8 rest:Nat):Int),c+(wP (rest.take (pJ (fr b).length x8 rest))).length):=by
 intro rest
 induction rest with
 | nil =>
  intro n k x8 c hd hn h0 hc0 hc hk hr hf hcc
  obtain ⟨n,rfl⟩:∃ m,n=m+1:=⟨n - 1,by simp at hn;omega⟩
  show jG 200000 b (l,e) _ _ x8 k c=_
  unfold jG
  simp only [wP,List.length_nil] at hf
  rw [show vV 9 (w8 (b.length:Int))++b=fr b from rfl,yI (by omega),cond_false]
  simp [pJ,wP]
 | cons x rest ih =>
  intro n k x8 c hd hn h0 hc0 hc hk hr hf hcc
  obtain ⟨n,rfl⟩:∃ m,n=m+1:=⟨n - 1,by simp at hn;omega⟩
  show jG 200000 b (l,e) _ _ x8 k c=_
  unfold jG
  rw [show vV 9 (w8 (b.length:Int))++b=fr b from rfl]
  simp only [pJ]
  have hx:zAP x:=hl x (List.mem_of_mem_drop (hd ▸ List.mem_cons_self ..))
  have hfx:=zCQ x
  have hfl:(fr x).length=(vV 9 (w8 (x.length:Int))).length+x.length:=by unfold fr;rw [List.length_append]
  simp only [wP,List.length_append] at hr hf hcc
  by_cases hlt:x8<(fr b).length
  ·rw [yW (by omega),cond_true,if_pos hlt,x3 hd,zbs,zHK (by have:=hx.1;omega),zbs,zbs]
   rw [w64 (x:=((vV 9 (w8 (x.length:Int))).length:Int)+(x.length:Int)) (by omega) (by omega),show ((vV 9 (w8 (x.length:Int))).length:Int)+(x.length:Int)=((fr x).length:Int) by omega,w64 (by omega) (by omega),w64 (by omega) (by omega),w64 (by omega) (by omega)]
   have:=ih n (k+1) (x8+(fr x).length) (c+(fr x).length) (zIZ hd) (by simp at hn;omega) (by omega) (by omega) (by omega) (by simp at hk;omega) (by omega) (by omega) (by omega)
   rw [show ((k:Int)+1)=((k+1:Nat):Int) by omega,this]
   simp only [List.take_succ_cons,wP,List.length_append]
   exact congrArg some (Prod.ext (by show ((k+1+_:Nat):Int)=((k+(_+1):Nat):Int);omega) (by show c+((fr x).length:Int)+_=c+(((fr x).length+_:Nat):Int);omega))
  ·rw [yI (by omega),cond_false,if_neg hlt]
   simp [wP]
theorem zQS {b:List Int} {l:List (List Int)} (hl:∀ x∈l,zAP x) (hb:((fr b).length:Int)≤65536):∀ (rest:List (List Int)) (n k:Nat) (x8 c:Int),l.drop k=rest→rest.length<n→0≤x8→0≤c→c≤1000000000000000+65536→k+rest.length≤100000 →
  x8+(wP rest).length≤65536→((fr b).length:Int)≤x8+(wP rest).length→c+(wP rest).length≤1000000000000000+65536 →
  zBJ 200000 (fr b) (l,true) n k x8 c=some (((k+pJ (fr b).length x8 rest:Nat):Int),c+(wP (rest.take (pJ (fr b).length x8 rest))).length):=by
 intro rest
 induction rest with
 | nil =>
  intro n k x8 c hd hn h0 hc0 hc hk hr hf hcc
  obtain ⟨n,rfl⟩:∃ m,n=m+1:=⟨n - 1,by simp at hn;omega⟩
  show jX 200000 (fr b) (l,true) _ k x8 c=_
  unfold jX
  simp only [wP,List.length_nil] at hf
  rw [yI (by omega),cond_false]
  simp [pJ,wP]
 | cons x rest ih =>
  intro n k x8 c hd hn h0 hc0 hc hk hr hf hcc
  obtain ⟨n,rfl⟩:∃ m,n=m+1:=⟨n - 1,by simp at hn;omega⟩
  show jX 200000 (fr b) (l,true) _ k x8 c=_
  unfold jX
  simp only [pJ]
  have hx:zAP x:=hl x (List.mem_of_mem_drop (hd ▸ List.mem_cons_self ..))
  have hfx:=zCQ x
  simp only [wP,List.length_append] at hr hf hcc
  by_cases hlt:x8<(fr b).length
  ·rw [yW (by omega),cond_true,if_pos hlt,x3 hd,zbs,zGH (by have:=hx.1;omega),zbs]
   rw [w64 (by omega) (by omega),w64 (by omega) (by omega),w64 (by omega) (by omega)]
   have:=ih n (k+1) (x8+(fr x).length) (c+(fr x).length) (zIZ hd) (by simp at hn;omega) (by omega) (by omega) (by omega) (by simp at hk;omega) (by omega) (by omega) (by omega)
   rw [show ((k:Int)+1)=((k+1:Nat):Int) by omega,this]
   simp only [List.take_succ_cons,wP,List.length_append]
   exact congrArg some (Prod.ext (by show ((k+1+_:Nat):Int)=((k+(_+1):Nat):Int);omega) (by show c+((fr x).length:Int)+_=c+(((fr x).length+_:Nat):Int);omega))
  ·rw [yI (by omega),cond_false,if_neg hlt]
   simp [wP]
/- The bytes behind Put. -/
def off (n a p:Nat):Nat:=if a≤p then p - a else p+n - a
def wrt (D:List Int) (a:Nat) (G:List Int):List Int:=(List.range D.length).map fun p=>if off D.length a p<G.length then G.getD (off D.length a p) 0 else D.getD p 0
theorem pM (D:List Int) (a:Nat) (G:List Int):(wrt D a G).length=D.length:=by simp [wrt]
theorem zEu {D:List Int} {a p:Nat} {G:List Int} (h:p<D.length):(wrt D a G)[p]?=some (if off D.length a p<G.length then G.getD (off D.length a p) 0 else D.getD p 0):=by simp [wrt,h]
theorem zR9 {D:List Int} {a:Nat} {G:List Int} (h:∀ x∈D,x7 x) (hG:∀ x∈G,x7 x):∀ x∈wrt D a G,x7 x:=by
 have z:∀ (L:List Int) (k:Nat),(∀ x∈L,x7 x)→x7 (L.getD k 0):=by
  intro L k hL
  rw [List.getD_eq_getElem?_getD]
  cases hq:L[k]? with
  | none=>simp [x7]
  | some v=>exact hL v (List.mem_of_getElem? hq)
 intro x hx
 simp only [wrt,List.mem_map] at hx
 obtain ⟨j,_,rfl⟩:=hx
 split
 ·exact z _ _ hG
 ·exact z _ _ h
theorem zCw {L:List Int} {k:Nat} (h:k<L.length):L[k]?=some (L.getD k 0):=by
 rw [List.getD_eq_getElem?_getD,List.getElem?_eq_getElem h];rfl
theorem zRB (D:List Int) (a:Nat):wrt D a []=D:=by
 apply List.ext_getElem?
 intro p
 by_cases h:p<D.length
 ·rw [zEu h,if_neg (by simp),zCw h]
 ·rw [List.getElem?_eq_none (by rw [pM];omega),List.getElem?_eq_none (by omega)]
theorem zRN {D G:List Int} {a:Nat} (ha:a<D.length) (hG:G.length≤D.length) :
  cpy (cpy D a D.length G) 0 D.length ((G.take G.length).drop (min G.length (D.length - a)))=wrt D a G:=by
 rw [List.take_length]
 have l1:(cpy D a D.length G).length=D.length:=zAD (by omega) (by omega)
 have l2:(cpy (cpy D a D.length G) 0 D.length (G.drop (min G.length (D.length - a)))).length=D.length:=by rw [zAD (by omega) (by omega),l1]
 apply List.ext_getElem?
 intro p
 by_cases h:p<D.length
 ·rw [zEu h]
  have hm:min (G.drop (min G.length (D.length - a))).length (D.length - 0)=G.length - min G.length (D.length - a):=by simp;omega
  have e1:∀ q,q<D.length→(cpy D a D.length G)[q]?=some (if a≤q∧q<a+min G.length (D.length - a) then G.getD (q - a) 0 else D.getD q 0):=by
   intro q hq
   unfold cpy
   have lt:(D.take a).length=a:=by simp;omega
   by_cases c1:q<a
   ·rw [if_neg (by omega),List.append_assoc,List.getElem?_append_left (by omega),List.getElem?_take,if_pos c1,zCw hq]
   ·by_cases c2:q<a+min G.length (D.length - a)
    ·rw [if_pos (by omega),List.append_assoc,List.getElem?_append_right (by omega),lt,List.getElem?_append_left (by simp;omega),List.getElem?_take,if_pos (by omega),zCw (by omega)]
    ·rw [if_neg (by omega),List.getElem?_append_right (by simp;omega)]
     simp only [List.length_append,List.length_take,List.getElem?_drop]
     rw [← zCw hq]
     congr 1;omega
  generalize cpy D a D.length G=C at *
  unfold cpy
  rw [hm]
  simp only [List.take_zero,List.nil_append,Nat.zero_add]
  unfold off
  by_cases c1:p<G.length - min G.length (D.length - a)
  ·rw [List.getElem?_append_left (by simp;omega),List.getElem?_take,if_pos c1,List.getElem?_drop,zCw (by omega),if_neg (show ¬a≤p by omega),if_pos (by omega)]
   congr 2;omega
  ·rw [List.getElem?_append_right (by simp;omega),List.getElem?_drop]
   rw [show (G.length - min G.length (D.length - a))+(p - ((G.drop (min G.length (D.length - a))).take (G.length - min G.length (D.length - a))).length)=p by simp;omega,e1 p h]
   by_cases c2:a≤p
   ·rw [if_pos c2]
    by_cases c3:p<a+min G.length (D.length - a)
    ·rw [if_pos ⟨c2,c3⟩,if_pos (by omega)]
    ·rw [if_neg (by omega),if_neg (by omega)]
   ·rw [if_neg c2,if_neg (by omega),if_neg (by omega)]
 ·rw [List.getElem?_eq_none (by rw [l2];omega),List.getElem?_eq_none (by rw [pM];omega)]
theorem zRG {D G:List Int} {a i:Nat} (ha:a<D.length) (hG:G.length≤D.length) (hi:i<G.length) :
  (wrt D a (G.take i)).set (if a+i<D.length then a+i else a+i - D.length) (G.getD i 0)=wrt D a (G.take (i+1)):=by
 apply List.ext_getElem?
 intro p
 by_cases h:p<D.length
 ·rw [zEu h,List.getElem?_set,pM]
  have l1:(G.take i).length=i:=by simp;omega
  have l2:(G.take (i+1)).length=i+1:=by simp;omega
  have g:∀ k j,j<k→(G.take k).getD j 0=G.getD j 0:=by
   intro k j hj
   rw [List.getD_eq_getElem?_getD,List.getD_eq_getElem?_getD,List.getElem?_take,if_pos hj]
  have ho:off D.length a p=i↔(if a+i<D.length then a+i else a+i - D.length)=p:=by
   unfold off;split<;>split<;>omega
  by_cases c:off D.length a p=i
  ·rw [if_pos (ho.1 c),if_pos (by rw [ho.1 c];omega),c,l2,if_pos (by omega),g _ _ (by omega)]
  ·rw [if_neg (fun hc=>c (ho.2 hc)),zEu h,l1,l2]
   by_cases c2:off D.length a p<i
   ·rw [if_pos c2,if_pos (by omega),g _ _ c2,g _ _ (by omega)]
   ·rw [if_neg c2,if_neg (by omega)]
 ·rw [List.getElem?_eq_none (by rw [List.length_set,pM];omega),List.getElem?_eq_none (by rw [pM];omega)]
theorem zIA {D G:List Int} {E:Nat} (hD:0<D.length) (hl:D.length≤100000) (hE:E≤2000000000000000) (hG:G.length≤D.length):∀ (n i:Nat),i≤G.length→G.length - i<n →
  nF 200000 (E:Int) G n i (wrt D (E % D.length) (G.take i))=some (wrt D (E % D.length) G):=by
 intro n
 induction n with
 | zero=>intro i _ h;omega
 | succ n ih =>
  intro i hi hn
  show kK 200000 _ _ _ _ _=_
  unfold kK
  rcases Nat.lt_or_ge i G.length with h | h
  ·have hm:=Nat.mod_lt (E+i) hD
   rw [yW (by omega),cond_true,xE (by rw [pM];omega),zbs,jI,zCw h,zbs,w64 (by omega) (by omega),pM,show ((E:Int)+(i:Int))=((E+i:Nat):Int) by omega,zFY,jI,List.getElem?_eq_getElem (by rw [pM];exact hm),zbs,Int.toNat_natCast,vS (by omega)]
   have:=ih (i+1) (by omega) (by omega)
   rw [zFU hD (by omega),zRG (Nat.mod_lt _ hD) hG h]
   exact this
  ·rw [yI (by omega),cond_false,show i=G.length by omega,List.take_length]
theorem zKh {D G:List Int} {E:Nat} (hD:0<D.length) (hl:D.length≤100000) (hE:E≤2000000000000000) (hG:G.length≤D.length):zCt 200000 D (E:Int) G=some (wrt D (E % D.length) G):=by
 unfold zCt
 have:=zIA hD hl hE hG 200000 0 (by omega) (by omega)
 rw [List.take_zero,zRB] at this
 rw [xE (by simp only [List.length_nil];omega),zbs,List.nil_append,show nF 200000 (E:Int) G 200000 0 D=_ from this,zbs]
end Go.Ab
