/- LogReads, plain. No conditions. -/
import Derived.Test.YtbifmbdcejggkaaC16e
namespace Go.Ab
open Go
set_option linter.unusedVariables false
def zCL (l:zM):Int:=if (zAc l.Head l.Parts).2=0 then (if (zAc l.Head l.Parts).1=l then 0 else 10) else (zAc l.Head l.Parts).2
structure Small (h:zL) (l:List zB):Prop where
 t:h.Threads.length≤100000
 d:h.Domains.length≤100000
 s:h.Snaps.length≤100000
 len:l.length≤100000
 n:evN l≤100000
theorem jW {l:zM} (h:Small l.Head l.Parts):kJ 281474976710656 l=some (zCL l):=by
 unfold kJ zCL
 rw [zNy h.t h.d h.s h.len h.n,Option.bind_some,zGr (zLJ h.t h.d h.s h.n)]
 by_cases h0:(zAc l.Head l.Parts).2=0
 ·rw [if_pos h0,vP h0]
  by_cases h1:(zAc l.Head l.Parts).1=l
  ·rw [if_pos h1,yP h1,← h0];rfl
  ·rw [if_neg h1,yN h1];rfl
 ·rw [if_neg h0,tM h0];rfl
theorem zBK {l:zM} (h:Small l.Head l.Parts):pX 281474976710656 l=some (zCL l):=by
 unfold pX zCL
 rw [zNm h.t h.d h.s h.len h.n,Option.bind_some,zGb (zLJ h.t h.d h.s h.n)]
 by_cases h0:(zAc l.Head l.Parts).2=0
 ·rw [if_pos h0,vY h0]
  by_cases h1:(zAc l.Head l.Parts).1=l
  ·rw [if_pos h1,yP h1];rfl
  ·rw [if_neg h1,yN h1];rfl
 ·rw [if_neg h0,vS h0];rfl
theorem zNB {h:zL} {l:List zB} (h0:(zAc h l).2=0):zAF h=0∧zOH h l∧zAc h l=(⟨h,nN h l⟩,0):=by
 unfold zAc at *
 split at h0
 ·rename_i h1;exact absurd h0 h1
 rename_i h1
 split at h0
 ·rename_i h2;exact absurd h0 h2
 rename_i h2
 rw [if_neg h1,if_neg h2]
 exact ⟨by omega,zDG.1 (by omega),rfl⟩
theorem zFC {l:zM} (h:zCL l=0):zAF l.Head=0∧zOH l.Head l.Parts∧nN l.Head l.Parts=l.Parts:=by
 unfold zCL at h
 by_cases h0:(zAc l.Head l.Parts).2=0
 ·obtain ⟨k1,k2,k3⟩:=zNB h0
  rw [if_pos h0] at h
  by_cases h1:(zAc l.Head l.Parts).1=l
  ·refine ⟨k1,k2,?_⟩
   rw [k3] at h1
   exact congrArg zM.Parts h1
  ·rw [if_neg h1] at h;omega
 ·rw [if_neg h0] at h;exact absurd h h0
def zPd (p:zB):yC:=⟨p.Thread,p.Serial - p.Lost,p.Lost⟩
def zBB (l:List zB):List yC:=(l.filter fun p=>decide (p.Lost>0)).map zPd
theorem zLe (l:List zB) (p:zB):zBB (l++[p])=zBB l++if p.Lost>0 then [zPd p] else []:=by
 unfold zBB
 rw [List.filter_append,List.map_append]
 by_cases h:p.Lost>0
 ·rw [if_pos h];simp [h]
 ·rw [if_neg h];simp [h]
def zHU (l:zM):List yC:=if zCL l=0 then zBB l.Parts else []
theorem zNz {l:zM} (hl:l.Parts.length≤100000) (hv:q8 l.Parts):∀ (n i:Nat),(l.Parts.drop i).length<n→kY 281474976710656 l n (i:Nat) (zBB (l.Parts.take i))=some (zBB l.Parts):=by
 intro n
 induction n with
 | zero=>intro i h;omega
 | succ n ih =>
  intro i hn
  show t9 _ _ _ _ _=_
  unfold t9
  rcases hd:l.Parts.drop i with _ | ⟨x,r⟩
  ·have:=uA hd
   rw [yN (by omega),cond_false,List.take_of_length_le this]
  ·have hi:=uS hd
   rw [hd] at hn
   simp only [List.length_cons] at hn
   have hz:=vX (hv x (jH hd))
   have:=ih (i+1) (by rw [wT hd];omega)
   rw [uU hd,zLe] at this
   have hlen:(zBB (l.Parts.take i)).length≤100000:=by
    unfold zBB
    rw [List.length_map]
    have h1:=List.length_filter_le (fun p:zB=>decide (p.Lost>0)) (l.Parts.take i)
    rw [List.length_take] at h1
    omega
   rw [yP (by omega),cond_true,y1 hd,Option.bind_some,wE (by omega)]
   by_cases h:x.Lost>0
   ·rw [if_pos h] at this
    rw [yP h,cond_true,w64 (by omega) (by omega),uX (by simp only [List.length_singleton];omega),Option.bind_some]
    exact this
   ·rw [if_neg h,List.append_nil] at this
    rw [yN h,cond_false]
    exact this
theorem zNU (l:zM) (F:Nat):∀ (n:Nat) (i:Int) (row:List yC),zAL F l n i row=kY F l n i row:=by
 intro n
 induction n with
 | zero=>intro i row;rfl
 | succ n ih =>
  intro i row
  show j4 _ _ _ _ _=t9 _ _ _ _ _
  unfold j4 t9
  cases decide (i<((l.Parts.length:Nat):Int))
  ·rfl
  ·simp only [cond_true]
   cases hx:y6 l.Parts i with
   | none=>rfl
   | some x =>
    simp only [Option.bind_some]
    cases decide (x.Lost>0)
    ·simp only [cond_false,Option.bind_some];exact ih _ _
    ·simp only [cond_true]
     unfold need
     split
     ·simp only [Option.bind_some];exact ih _ _
     ·rfl
theorem zGh {l:zM} (h:Small l.Head l.Parts):zBd 281474976710656 l=some (zHU l):=by
 unfold zBd zHU
 rw [jW h,Option.bind_some]
 by_cases h0:zCL l=0
 ·rw [if_pos h0,vY h0,cond_false]
  have:=zNz h.len (zFC h0).2.1.passed.valids 281474976710656 0 (by have:=h.len;simp;omega)
  rw [show kY 281474976710656 l 281474976710656 (0:Int) []=_ from this];rfl
 ·rw [if_neg h0,vS h0];rfl
theorem zLx {l:zM} (h:Small l.Head l.Parts):zC8 281474976710656 l=some (zHU l):=by
 rw [← zGh h]
 unfold zC8 zBd
 rw [jW h,zBK h]
 simp only [zNU]
def zG6 (p:zB):List z6:=(List.range p.Events.length).map fun i=>⟨p.Thread,p.Serial+(i:Nat)⟩
def zDQ (l:List zB):List z6:=l.flatMap zG6
def zM0 (l:zM):List z6:=if zCL l=0 then zDQ l.Parts else []
theorem zJ4 (l:List zB):(zDQ l).length=evN l:=by
 induction l with
 | nil=>rfl
 | cons a r ih=>simp [zDQ,zG6,evN] at *
theorem zNA {x:zB} (hx:uK x=0) {row:List z6} (hr:row.length≤200000):∀ (n j:Nat),j≤x.Events.length→x.Events.length - j<n →
  nJ 281474976710656 x n (j:Nat) (row++(List.range j).map fun i=>⟨x.Thread,x.Serial+(i:Nat)⟩)=some (row++zG6 x):=by
 have hz:=vX hx
 intro n
 induction n with
 | zero=>intro j _ h;omega
 | succ n ih =>
  intro j hj hn
  show qF _ _ _ _ _=_
  unfold qF
  rcases Nat.lt_or_ge j x.Events.length with hlt | hge
  ·rw [yP (by omega),cond_true,w64 (by omega) (by omega),uX (by simp;omega),Option.bind_some,wE (by omega)]
   have:=ih (j+1) (by omega) (by omega)
   rw [List.range_succ,List.map_append,← List.append_assoc] at this
   exact this
  ·have:j=x.Events.length:=by omega
   subst this
   rw [yN (by omega),cond_false];rfl
theorem zOW {l:zM} (hl:l.Parts.length≤100000) (hN:evN l.Parts≤100000) (hv:q8 l.Parts):∀ (n i:Nat),(l.Parts.drop i).length<n→nI 281474976710656 l n (i:Nat) (zDQ (l.Parts.take i))=some (zDQ l.Parts):=by
 intro n
 induction n with
 | zero=>intro i h;omega
 | succ n ih =>
  intro i hn
  show qG _ _ _ _ _=_
  unfold qG
  rcases hd:l.Parts.drop i with _ | ⟨x,r⟩
  ·have:=uA hd
   rw [yN (by omega),cond_false,List.take_of_length_le this]
  ·have hi:=uS hd
   rw [hd] at hn
   simp only [List.length_cons] at hn
   have hx:=hv x (jH hd)
   have hz:=vX hx
   have:=ih (i+1) (by rw [wT hd];omega)
   rw [uU hd,show zDQ (l.Parts.take i++[x])=zDQ (l.Parts.take i)++zG6 x by simp [zDQ]] at this
   have hin:=zNA hx (row:=zDQ (l.Parts.take i)) (by rw [zJ4];have:=zBc l.Parts i;omega) 281474976710656 0 (by omega) (by omega)
   simp only [List.range_zero,List.map_nil,List.append_nil] at hin
   rw [yP (by omega),cond_true,y1 hd,Option.bind_some,wE (by omega),show nJ 281474976710656 x 281474976710656 (0:Int) (zDQ (l.Parts.take i))=_ from hin,Option.bind_some]
   exact this
theorem zNr {l:zM} {i:Int} {x:zB} (hx:y6 l.Parts i=some x) (F:Nat):∀ (n:Nat) (k:Int) (row:List z6),zBG F l i n k row=nJ F x n k row:=by
 intro n
 induction n with
 | zero=>intro k row;rfl
 | succ n ih =>
  intro k row
  show kH _ _ _ _ _ _=qF _ _ _ _ _
  unfold kH qF
  simp only [hx,Option.bind_some,ih]
theorem zON (l:zM) (F:Nat):∀ (n:Nat) (i:Int) (row:List z6),0≤i→i<9000000000000000000→l.Parts.length≤100000→zBN F l n i row=nI F l n i row:=by
 intro n
 induction n with
 | zero=>intro i row _ _ _;rfl
 | succ n ih =>
  intro i row h0 h1 hl
  show kM _ _ _ _ _=qG _ _ _ _ _
  unfold kM qG
  by_cases hlt:i<((l.Parts.length:Nat):Int)
  ·have hx:y6 l.Parts i=some (l.Parts[i.toNat]'(by omega)):=by rw [zL0 h0];exact List.getElem?_eq_getElem (by omega)
   rw [yP hlt,cond_true,cond_true,hx,Option.bind_some]
   simp only [zNr hx]
   congr 1
   funext o
   rw [w64 (by omega) (by omega)]
   exact ih _ _ (by omega) (by omega) hl
  ·rw [yN hlt,cond_false,cond_false]
theorem zHC {l:zM} (h:Small l.Head l.Parts):zC0 281474976710656 l=some (zM0 l):=by
 unfold zC0 zM0
 rw [jW h,Option.bind_some]
 by_cases h0:zCL l=0
 ·rw [if_pos h0,vY h0,cond_false]
  have:=zOW h.len h.n (zFC h0).2.1.passed.valids 281474976710656 0 (by have:=h.len;simp;omega)
  rw [show nI 281474976710656 l 281474976710656 (0:Int) []=_ from this];rfl
 ·rw [if_neg h0,vS h0];rfl
theorem zMz {l:zM} (h:Small l.Head l.Parts):zEk 281474976710656 l=some (zM0 l):=by
 rw [← zHC h]
 unfold zEk zC0
 rw [jW h,zBK h,zON l _ _ _ _ (by omega) (by omega) h.len]
def zJx (id:z6) (p:zB):Prop:=p.Thread=id.Thread∧id.Serial≥p.Serial∧id.Serial<p.Serial+p.Events.length
instance decHasId {id:z6} {p:zB}:Decidable (zJx id p):=inferInstanceAs (Decidable (_∧_))
def ev0:zI:=⟨0,0,[],0,0,[]⟩
def zJ1 (id:z6) (_:Nat) (p:zB):Option (zI×Bool):=if zJx id p then some ((p.Events[(id.Serial - p.Serial).toNat]?).getD ev0,true) else none
def zQd (l:List zB) (id:z6):zI×Bool:=match xL (zJ1 id) 0 l with | .inl _=>(ev0,false) | .inr q=>q
def zOi (l:zM) (id:z6):zI×Bool:=if zCL l=0 then zQd l.Parts id else (ev0,false)
theorem zOm {l:zM} {id:z6} (hl:l.Parts.length≤100000) (hv:q8 l.Parts) (hid : -9223372036854775808≤id.Serial∧id.Serial≤9223372036854775807):nG 281474976710656 l id 281474976710656 0=some (xL (zJ1 id) 0 l.Parts):=by
 refine qB (l:=l.Parts) (fun n i=>nG 281474976710656 l id n i) (zJ1 id) hl ?_ ?_
 ·intro n i hi
  show uZ _ _ _ _ _=_
  unfold uZ
  rw [yN (by omega),cond_false]
 ·intro n i x r hd hi
  show uZ _ _ _ _ _=_
  unfold uZ zJ1
  have hz:=vX (hv x (jH hd))
  rw [yP (by omega),cond_true,y1 hd,Option.bind_some,wE (by omega),w64 (show -9223372036854775808≤x.Serial+(x.Events.length:Int) by omega) (by omega)]
  by_cases h:zJx id x
  ·obtain ⟨k1,k2,k3⟩:=h
   rw [if_pos ⟨k1,k2,k3⟩,vP k1,yP k2,yP k3,w64 (by omega) (by omega),zL0 (by omega)]
   simp only [Bool.and_self,cond_true]
   rw [List.getElem?_eq_getElem (by omega)];rfl
  ·rw [if_neg h]
   rw [show ((x.Thread==id.Thread)&&(decide (id.Serial≥x.Serial)&&decide (id.Serial<x.Serial+(x.Events.length:Int))))=false by
    unfold zJx at h
    rw [Bool.eq_false_iff]
    intro hc
    simp only [Bool.and_eq_true,decide_eq_true_eq,beq_iff_eq] at hc
    exact h ⟨hc.1,hc.2.1,hc.2.2⟩]
   rfl
theorem zHq {l:zM} {id:z6} (h:Small l.Head l.Parts) (hid : -9223372036854775808≤id.Serial∧id.Serial≤9223372036854775807):zB2 281474976710656 l id=some (zOi l id):=by
 unfold zB2 zOi
 rw [jW h,Option.bind_some]
 by_cases h0:zCL l=0
 ·rw [if_pos h0,vY h0,cond_false,zOm h.len (zFC h0).2.1.passed.valids hid,Option.bind_some]
  unfold zQd
  cases xL (zJ1 id) 0 l.Parts<;>rfl
 ·rw [if_neg h0,vS h0];rfl
theorem zOz (l:zM) (id:z6) (F:Nat):∀ (n:Nat) (i:Int),zBJ F l id n i=nG F l id n i:=by
 intro n
 induction n with
 | zero=>intro i;rfl
 | succ n ih =>
  intro i
  show kE _ _ _ _ _=uZ _ _ _ _ _
  unfold kE uZ
  simp only [ih]
theorem zMq {l:zM} {id:z6} (h:Small l.Head l.Parts) (hid : -9223372036854775808≤id.Serial∧id.Serial≤9223372036854775807):zD9 281474976710656 l id=some (zOi l id):=by
 rw [← zHq h hid]
 unfold zD9 zB2
 rw [jW h,zBK h,zOz]
theorem zOB {h:zL} {l:List zB} (hL:zCq h l):Small h l:=⟨by have:=hL.1;omega,by have:=hL.2.1;omega,by have:=hL.2.2.1;omega,by have:=hL.2.2.2.1;omega,by have:=hL.2.2.2.2;omega⟩
theorem zMr (g:List yC) (hg:g.length≤100000):jB 281474976710656 g g 281474976710656 0=some (.inl ()):=by
 rw [u0 (a:=g) (b:=g) (fun n i=>jB 281474976710656 g g n i) rfl (by omega)]
 ·rw [if_pos rfl]
 ·intro n i hi
  show uI _ _ _ _ _=_
  unfold uI
  rw [yN (by omega),cond_false]
 ·intro n i x y r r2 hx hy hi
  show uI _ _ _ _ _=_
  unfold uI
  rw [yP (by omega),cond_true,y1 hx,Option.bind_some,Option.bind_some,wE (by omega)]
  have hxy:x=y:=by rw [hx] at hy;injection hy
  subst hxy
  rw [if_pos rfl,yP (rfl:x=x)];rfl
theorem zM8 (g:List z6) (hg:g.length≤100000):q9 281474976710656 g g 281474976710656 0=some (.inl ()):=by
 rw [u0 (a:=g) (b:=g) (fun n i=>q9 281474976710656 g g n i) rfl (by omega)]
 ·rw [if_pos rfl]
 ·intro n i hi
  show uH _ _ _ _ _=_
  unfold uH
  rw [yN (by omega),cond_false]
 ·intro n i x y r r2 hx hy hi
  show uH _ _ _ _ _=_
  unfold uH
  rw [yP (by omega),cond_true,y1 hx,Option.bind_some,Option.bind_some,wE (by omega)]
  have hxy:x=y:=by rw [hx] at hy;injection hy
  subst hxy
  rw [if_pos rfl,yP (rfl:x=x)];rfl
theorem zNJ {l:zM} (hl:l.Parts.length≤100000):(zHU l).length≤100000:=by
 unfold zHU
 split
 ·unfold zBB
  rw [List.length_map]
  have:=List.length_filter_le (fun p:zB=>decide (p.Lost>0)) l.Parts
  omega
 ·simp
theorem L16_LogReads_plain:∀ (l o:zM) (id:z6),q7 l→q7 o→zCf id→∃ F,jU F l o id=some true:=by
 intro l o id hl ho hi
 refine ⟨281474976710656,?_⟩
 have lt:∀ x:zM,q7 x→zAj 281474976710656 x.Head x.Parts=some (decide (zCq x.Head x.Parts)):=fun x hx=>by
  have h1:=hx.2.2
  exact zOV (by omega) (by omega) (fun p hp=>(hx.2.1 p hp).2.2.2.2)
 unfold jU
 rw [lt l hl,Option.bind_some]
 by_cases hL:zCq l.Head l.Parts
 ·rw [yP hL,Bool.not_true,cond_false,lt o ho,Option.bind_some,Option.bind_some]
  by_cases hO:zCq o.Head o.Parts
  ·have hs:=zOB hL
   have hok:zJt l:=⟨by have:=hs.t;omega,by have:=hs.d;omega,by have:=hs.s;omega,by have:=hs.len;omega,fun p hp=>⟨by have:=zB0 hp;have:=hs.n;omega,fun e he=>((hl.2.1 p hp).2.2.2.1 e he).2.2.2.2.2.2⟩⟩
   have hid : -9223372036854775808≤id.Serial∧id.Serial≤9223372036854775807:=hi.2
   rw [yP hO,Bool.not_true,cond_false,jW hs,Option.bind_some,zBK hs,Option.bind_some,zGr hok,zGb hok]
   simp only [bne_self_eq_false,cond_false,Option.bind_some,beq_self_eq_true,Bool.not_true]
   rw [zHq hs hid,Option.bind_some,zMq hs hid,Option.bind_some]
   simp only [bne_self_eq_false,beq_self_eq_true,Bool.not_true,Bool.or_self,cond_false]
   rw [zGh hs,Option.bind_some,zLx hs,Option.bind_some,zHC hs,Option.bind_some,zMz hs,Option.bind_some]
   simp only [bne_self_eq_false,Bool.or_self,cond_false]
   rw [zMr _ (zNJ hs.len),Option.bind_some]
   simp only
   rw [zM8 _ (by unfold zM0;split;rw [zJ4];exact hs.n;simp),Option.bind_some,zGT];rfl
  ·rw [yN hO,Bool.not_false,cond_true,zGT];rfl
 ·rw [yN hL,Bool.not_false,cond_true,Option.bind_some,cond_true,zGT];rfl
end Go.Ab
