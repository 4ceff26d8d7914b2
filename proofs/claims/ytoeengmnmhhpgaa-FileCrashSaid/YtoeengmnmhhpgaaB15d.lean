/- Plain laws of the functions wU this seat's, laid anew from another seat's text. No conditions but those that the theorems name. -/
import Derived.Test.YtoeengmnmhhpgaaP15xD
import Derived.Test.YtoeengmnmhhpgaaB15a
import Derived.Test.YtoeengmnmhhpgaaB15b
import Derived.Test.YtoeengmnmhhpgaaB15c
namespace Go.Ab
open Go
set_option linter.unusedVariables false
def aH:Option Int→List y6→Int
 | _,[]=>0
 | p,e::r=>if evS e≠0 then evS e else bif p.any (fun a=>decide (e.At<a)) then 11 else aH (some e.At) r
def lV (l:List y6) (i:Nat):Option Int:=if i=0 then none else (l[i - 1]?).map (·.At)
theorem zBk {l:List y6} {i:Nat} {x:y6} {r:List y6} (h:l.drop i=x::r):lV l (i+1)=some x.At:=by
 unfold lV
 rw [if_neg (by omega),Nat.add_sub_cancel,RB h];rfl
theorem XU {l:List y6} (hl:l.length≤100000):∀ n i,(l.drop i).length<n→mT 281474976710656 l n (i:Nat)=some (toO (aH (lV l i) (l.drop i))):=by
 intro n
 induction n with
 | zero=>intro i h;omega
 | succ n ih =>
  intro i hn
  show BW _ _ _ _=_
  unfold BW
  rcases hd:l.drop i with _ | ⟨x,r⟩
  ·have:=jO hd
   rw [yO (by omega)];rfl
  have hlt:=q9 hd
  have hi:=ih (i+1) (by rw [hd] at hn;rw [vN hd];simp at hn;omega)
  rw [zBk hd,vN hd] at hi
  rw [yU (by omega),cond_true,vS hd,zbs,MF,zbs]
  simp only [aH]
  by_cases he:evS x≠0
  ·rw [wA he,if_pos he,QQ he];rfl
  rw [x8 (by omega),cond_false,if_neg he]
  by_cases h0:i=0
  ·subst h0
   rw [yO (by omega),cond_false,zbs,cond_false,vK (by omega),hi]
   simp [lV]
  ·rw [yU (by omega),cond_true,SV (by omega) (by omega)]
   have hp:lV l i=some (l[i - 1]'(by omega)).At:=by unfold lV;rw [if_neg h0,List.getElem?_eq_getElem (by omega)];rfl
   rw [List.getElem?_eq_getElem (by omega),zbs,zbs,hp]
   simp only [Option.any_some]
   by_cases ht:x.At<(l[i - 1]'(by omega)).At
   ·rw [yU ht];rfl
   ·rw [yO ht,cond_false,cond_false,vK (by omega),hi]
theorem zAv {l:List y6} (hl:l.length≤100000):DS 281474976710656 l=some (aH none l):=by
 unfold DS
 rw [show mT 281474976710656 l 281474976710656 0=_ from XU hl 281474976710656 0 (by simp;omega),zbs]
 simp only [zdz,lV,if_true]
 unfold toO
 by_cases h:aH none l=0
 ·rw [if_pos h,h]
 ·rw [if_neg h]
theorem zBO:∀ {l:List y6} {p:Option Int},aH p l=0→∀ e∈l,evS e=0:=by
 intro l
 induction l with
 | nil=>intro p _ e he;cases he
 | cons x r ih =>
  intro p h e he
  simp only [aH] at h
  by_cases hx:evS x≠0
  ·rw [if_pos hx] at h;exact absurd h hx
  rw [if_neg hx] at h
  cases hb:p.any (fun a=>decide (x.At<a))<;>rw [hb] at h
  case true=>cases h
  ·rcases List.mem_cons.1 he with rfl | he
   ·omega
   ·exact ih h e he
def nS (n:Int):Prop:=n<0∨n>1000000000000000
instance decOutP:DecidablePred nS:=fun n=>inferInstanceAs (Decidable (_∨_))
def aY (p:zQ):Prop:=nS p.Thread∨nS p.Serial∨nS p.Lost∨p.Lost>p.Serial∨p.Serial+p.Events.length>1000000000000000
instance decPackBad:DecidablePred aY:=fun n=>inferInstanceAs (Decidable (_∨_))
def u3 (p:zQ):Int :=
 if aY p then 2 else
 if p.Events.length=0 then 8 else if p.Events.length>1000 then 7 else aH none p.Events
theorem LP {p:zQ} (hl:p.Events.length≤100000):fB 281474976710656 p=some (u3 p):=by
 unfold fB u3
 have hloop:=M3 (l:=[p.Thread,p.Serial,p.Lost]) (D5 281474976710656 p) (fun _ x=>if nS x then some (2:Int) else none) (fun n i hi=>by
  show cU 281474976710656 p _ _=_
  unfold cU
  simp only [zlc,List.length_nil] at hi
  rw [yO (by omega)];rfl) (fun n i x r hd hlt=>by
  simp only [zlc,List.length_nil] at hlt
  refine ⟨fun b hb=>?_,fun hb=>?_⟩
  ·show cU 281474976710656 p _ _=_
   unfold cU
   by_cases ho:nS x
   ·rw [if_pos ho] at hb;cases hb
    rw [yU (by omega),cond_true,vS hd,zbs,AI ho];rfl
   ·rw [if_neg ho] at hb;cases hb
  ·show cU 281474976710656 p _ _=_
   unfold cU
   by_cases ho:nS x
   ·rw [if_pos ho] at hb;cases hb
   ·rw [yU (by omega),cond_true,vS hd,zbs,G3 ho,cond_false,vK (by omega)]) (n:=281474976710656) (by show 3<281474976710656;omega)
 rw [hloop]
 simp only [uB]
 by_cases h1:nS p.Thread
 ·rw [if_pos h1,if_pos (show aY p from (.inl h1))];rfl
 rw [if_neg h1]
 by_cases h2:nS p.Serial
 ·simp only [if_pos h2];rw [if_pos (show aY p from (.inr (.inl h2)))];rfl
 simp only [if_neg h2]
 by_cases h3:nS p.Lost
 ·simp only [if_pos h3];rw [if_pos (show aY p from (.inr (.inr (.inl h3))))];rfl
 simp only [if_neg h3,zbs]
 unfold nS at h1 h2 h3
 by_cases h4:p.Lost>p.Serial
 ·rw [yU h4,if_pos (show aY p from (.inr (.inr (.inr (.inl h4)))))];rfl
 rw [yO h4,cond_false,zbs,w64 (by omega) (by omega)]
 by_cases h5:p.Serial+p.Events.length>1000000000000000
 ·rw [yU h5,if_pos (show aY p from (.inr (.inr (.inr (.inr h5)))))];rfl
 rw [yO h5,cond_false,if_neg (show ¬ aY p by unfold aY nS;omega)]
 by_cases h6:p.Events.length=0
 ·rw [uE (by omega),if_pos h6];rfl
 rw [tA (by omega),cond_false,if_neg h6]
 by_cases h7:p.Events.length>1000
 ·rw [yU (by omega),if_pos h7];rfl
 rw [yO (by omega),cond_false,if_neg h7,zAv hl,zbs]
theorem fA {p:zQ} (h:u3 p=0):0≤p.Thread∧p.Thread≤1000000000000000∧0≤p.Serial∧0≤p.Lost∧p.Lost≤p.Serial∧p.Serial+p.Events.length≤1000000000000000∧0<p.Events.length∧p.Events.length≤1000∧aH none p.Events=0:=by
 unfold u3 at h
 by_cases h1:aY p
 ·rw [if_pos h1] at h;cases h
 rw [if_neg h1] at h
 unfold aY nS at h1
 by_cases h2:p.Events.length=0
 ·rw [if_pos h2] at h;cases h
 rw [if_neg h2] at h
 by_cases h3:p.Events.length>1000
 ·rw [if_pos h3] at h;cases h
 rw [if_neg h3] at h
 exact ⟨by omega,by omega,by omega,by omega,by omega,by omega,by omega,by omega,h⟩
theorem YX (a b:zQ) (h1:a.Thread=b.Thread) (h2:a.Serial=b.Serial) (h3:a.Lost=b.Lost):decide (a=b)=decide (a.Events=b.Events):=by
 by_cases h:a.Events=b.Events
 ·rw [yU h,yU]
  obtain ⟨_,_,_,_⟩:=a;obtain ⟨_,_,_,_⟩:=b;simp_all
 ·rw [yO h,yO]
  intro e;exact h (by rw [e])
theorem zD0 {a b:zQ} (hl:a.Events.length≤140737488355328) (hs:∀ e∈a.Events,e.Stack.length≤140737488355328):A0 281474976710656 a b=some (decide (a=b)):=by
 unfold A0
 by_cases h1:a.Thread=b.Thread
 case neg=>rw [wA h1,yO (fun e=>h1 (by rw [e]))];rfl
 by_cases h2:a.Serial=b.Serial
 case neg=>rw [wA h2,yO (fun e=>h2 (by rw [e])),Bool.true_or,Bool.or_true];rfl
 by_cases h3:a.Lost=b.Lost
 case neg=>rw [wA h3,yO (fun e=>h3 (by rw [e])),Bool.true_or,Bool.or_true,Bool.or_true];rfl
 by_cases h4:a.Events.length=b.Events.length
 case neg=>rw [wA (a:=(a.Events.length:Int)) (by omega),yO (fun e=>h4 (by rw [e])),Bool.or_true,Bool.or_true,Bool.or_true];rfl
 rw [x8 h1,x8 h2,x8 h3,x8 (a:=(a.Events.length:Int)) (by omega),YX a b h1 h2 h3]
 simp only [Bool.or_self,cond_false]
 rw [NF (a:=a.Events) (b:=b.Events) (CT 281474976710656 a b) h4 hl (fun n i hi=>by
  show lZ _ _ _ _ _=_
  unfold lZ
  simp (disch:=omega) only [yO,cond_false]) (fun n i x y r r2 hd hd2 hlt=>by
  show lZ _ _ _ _ _=_
  unfold lZ
  rw [yU (by omega),cond_true,vS hd,zbs,vS hd2,zbs,zDr (hs x (dC hd)),zbs,vK (by omega)]
  by_cases h:x=y
  ·rw [yU h,if_pos h];rfl
  ·rw [yO h,if_neg h];rfl),zbs]
 by_cases h:a.Events=b.Events
 ·rw [if_pos h,yU h]
 ·rw [if_neg h,yO h]
def pk0:zQ:=⟨0,0,0,[]⟩
def VU (a b:zQ):Prop:=u3 a≠0∨u3 b≠0∨a.Thread≠b.Thread∨b.Lost≠0∨b.Serial≠a.Serial+a.Events.length
instance decJoinBad {a b:zQ}:Decidable (VU a b):=inferInstanceAs (Decidable (_∨_))
def BM (l:List y6):Int:=(l.head?.map (·.At)).getD 0
def BD (l:List y6):Int:=(l.getLast?.map (·.At)).getD 0
theorem WM {l:List y6} (h:0<l.length):∃ x,xI l 0=some x∧x.At=BM l:=by
 cases l with
 | nil=>simp at h
 | cons x r=>exact ⟨x,rfl,rfl⟩
theorem zAP {l:List y6} (h:0<l.length) (h1:l.length≤100000):∃ x,xI l (zI ((l.length:Int) - 1))=some x∧x.At=BD l:=by
 have hne:l≠[]:=by intro e;rw [e] at h;simp at h
 rw [ZP (by omega) hne]
 unfold BD
 rw [List.getLast?_eq_some_getLast hne]
 exact ⟨_,rfl,rfl⟩
def VY (p:zQ) (n:Int):Prop:=u3 p≠0∨n<1∨n≥p.Events.length
instance decSplitBad {p:zQ} {n:Int}:Decidable (VY p n):=inferInstanceAs (Decidable (_∨_))
theorem oT {α:Type} {l:List α} {n:Int} (h0:0≤n):sub l n (l.length:Int)=l.drop n.toNat:=by
 unfold sub;rw [Int.toNat_natCast,List.take_length]
theorem H5 {α:Type} {l:List α} {n:Int} (h0:0≤n):sub l 0 n=l.take n.toNat:=by
 unfold sub;simp
end Go.Ab
