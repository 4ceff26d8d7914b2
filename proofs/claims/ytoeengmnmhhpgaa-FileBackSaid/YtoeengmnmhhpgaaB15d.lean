/- Plain laws of the functions w6 this seat's, laid anew from another seat's text. No conditions but those that the theorems name. -/
import Derived.Test.YtoeengmnmhhpgaaP15xD
import Derived.Test.YtoeengmnmhhpgaaB15a
import Derived.Test.YtoeengmnmhhpgaaB15b
import Derived.Test.YtoeengmnmhhpgaaB15c
namespace Go.Ab
open Go
set_option linter.unusedVariables false
def cV:Option Int→List xA→Int
 | _,[]=>0
 | p,e::r=>if evS e≠0 then evS e else bif p.any (fun a=>decide (e.At<a)) then 11 else cV (some e.At) r
def lF (l:List xA) (i:Nat):Option Int:=if i=0 then none else (l[i - 1]?).map (·.At)
theorem YD {l:List xA} {i:Nat} {x:xA} {r:List xA} (h:l.drop i=x::r):lF l (i+1)=some x.At:=by
 unfold lF
 rw [if_neg (by omega),Nat.add_sub_cancel,RN h];rfl
theorem zBs {l:List xA} (hl:l.length≤100000):∀ n i,(l.drop i).length<n→rB 281474976710656 l n (i:Nat)=some (toO (cV (lF l i) (l.drop i))):=by
 intro n
 induction n with
 | zero=>intro i h;omega
 | succ n ih =>
  intro i hn
  show DB _ _ _ _=_
  unfold DB
  rcases hd:l.drop i with _ | ⟨x,r⟩
  ·have:=jL hd
   rw [yO (by omega)];rfl
  have hlt:=jG hd
  have hi:=ih (i+1) (by rw [hd] at hn;rw [vQ hd];simp at hn;omega)
  rw [YD hd,vQ hd] at hi
  rw [yR (by omega),cond_true,w9 hd,zbs,JP,zbs]
  simp only [cV]
  by_cases he:evS x≠0
  ·rw [wA he,if_pos he,OR he];rfl
  rw [x8 (by omega),cond_false,if_neg he]
  by_cases h0:i=0
  ·subst h0
   rw [yO (by omega),cond_false,zbs,cond_false,vC (by omega),hi]
   simp [lF]
  ·rw [yR (by omega),cond_true,TS (by omega) (by omega)]
   have hp:lF l i=some (l[i - 1]'(by omega)).At:=by unfold lF;rw [if_neg h0,List.getElem?_eq_getElem (by omega)];rfl
   rw [List.getElem?_eq_getElem (by omega),zbs,zbs,hp]
   simp only [Option.any_some]
   by_cases ht:x.At<(l[i - 1]'(by omega)).At
   ·rw [yR ht];rfl
   ·rw [yO ht,cond_false,cond_false,vC (by omega),hi]
theorem zBB {l:List xA} (hl:l.length≤100000):DM 281474976710656 l=some (cV none l):=by
 unfold DM
 rw [show rB 281474976710656 l 281474976710656 0=_ from zBs hl 281474976710656 0 (by simp;omega),zbs]
 simp only [zdz,lF,if_true]
 unfold toO
 by_cases h:cV none l=0
 ·rw [if_pos h,h]
 ·rw [if_neg h]
theorem X8:∀ {l:List xA} {p:Option Int},cV p l=0→∀ e∈l,evS e=0:=by
 intro l
 induction l with
 | nil=>intro p _ e he;cases he
 | cons x r ih =>
  intro p h e he
  simp only [cV] at h
  by_cases hx:evS x≠0
  ·rw [if_pos hx] at h;exact absurd h hx
  rw [if_neg hx] at h
  cases hb:p.any (fun a=>decide (x.At<a))<;>rw [hb] at h
  case true=>cases h
  ·rcases List.mem_cons.1 he with rfl | he
   ·omega
   ·exact ih h e he
def nO (n:Int):Prop:=n<0∨n>1000000000000000
instance decOutP:DecidablePred nO:=fun n=>inferInstanceAs (Decidable (_∨_))
def aT (p:zQ):Prop:=nO p.Thread∨nO p.Serial∨nO p.Lost∨p.Lost>p.Serial∨p.Serial+p.Events.length>1000000000000000
instance decPackBad:DecidablePred aT:=fun n=>inferInstanceAs (Decidable (_∨_))
def tU (p:zQ):Int :=
 if aT p then 2 else
 if p.Events.length=0 then 8 else if p.Events.length>1000 then 7 else cV none p.Events
theorem JZ {p:zQ} (hl:p.Events.length≤100000):fD 281474976710656 p=some (tU p):=by
 unfold fD tU
 have hloop:=KZ (l:=[p.Thread,p.Serial,p.Lost]) (BU 281474976710656 p) (fun _ x=>if nO x then some (2:Int) else none) (fun n i hi=>by
  show cQ 281474976710656 p _ _=_
  unfold cQ
  simp only [zlc,List.length_nil] at hi
  rw [yO (by omega)];rfl) (fun n i x r hd hlt=>by
  simp only [zlc,List.length_nil] at hlt
  refine ⟨fun b hb=>?_,fun hb=>?_⟩
  ·show cQ 281474976710656 p _ _=_
   unfold cQ
   by_cases ho:nO x
   ·rw [if_pos ho] at hb;cases hb
    rw [yR (by omega),cond_true,w9 hd,zbs,A1 ho];rfl
   ·rw [if_neg ho] at hb;cases hb
  ·show cQ 281474976710656 p _ _=_
   unfold cQ
   by_cases ho:nO x
   ·rw [if_pos ho] at hb;cases hb
   ·rw [yR (by omega),cond_true,w9 hd,zbs,EQ ho,cond_false,vC (by omega)]) (n:=281474976710656) (by show 3<281474976710656;omega)
 rw [hloop]
 simp only [uR]
 by_cases h1:nO p.Thread
 ·rw [if_pos h1,if_pos (show aT p from (.inl h1))];rfl
 rw [if_neg h1]
 by_cases h2:nO p.Serial
 ·simp only [if_pos h2];rw [if_pos (show aT p from (.inr (.inl h2)))];rfl
 simp only [if_neg h2]
 by_cases h3:nO p.Lost
 ·simp only [if_pos h3];rw [if_pos (show aT p from (.inr (.inr (.inl h3))))];rfl
 simp only [if_neg h3,zbs]
 unfold nO at h1 h2 h3
 by_cases h4:p.Lost>p.Serial
 ·rw [yR h4,if_pos (show aT p from (.inr (.inr (.inr (.inl h4)))))];rfl
 rw [yO h4,cond_false,zbs,w64 (by omega) (by omega)]
 by_cases h5:p.Serial+p.Events.length>1000000000000000
 ·rw [yR h5,if_pos (show aT p from (.inr (.inr (.inr (.inr h5)))))];rfl
 rw [yO h5,cond_false,if_neg (show ¬ aT p by unfold aT nO;omega)]
 by_cases h6:p.Events.length=0
 ·rw [uW (by omega),if_pos h6];rfl
 rw [qQ (by omega),cond_false,if_neg h6]
 by_cases h7:p.Events.length>1000
 ·rw [yR (by omega),if_pos h7];rfl
 rw [yO (by omega),cond_false,if_neg h7,zBB hl,zbs]
theorem fB {p:zQ} (h:tU p=0):0≤p.Thread∧p.Thread≤1000000000000000∧0≤p.Serial∧0≤p.Lost∧p.Lost≤p.Serial∧p.Serial+p.Events.length≤1000000000000000∧0<p.Events.length∧p.Events.length≤1000∧cV none p.Events=0:=by
 unfold tU at h
 by_cases h1:aT p
 ·rw [if_pos h1] at h;cases h
 rw [if_neg h1] at h
 unfold aT nO at h1
 by_cases h2:p.Events.length=0
 ·rw [if_pos h2] at h;cases h
 rw [if_neg h2] at h
 by_cases h3:p.Events.length>1000
 ·rw [if_pos h3] at h;cases h
 rw [if_neg h3] at h
 exact ⟨by omega,by omega,by omega,by omega,by omega,by omega,by omega,by omega,h⟩
theorem zAN (a b:zQ) (h1:a.Thread=b.Thread) (h2:a.Serial=b.Serial) (h3:a.Lost=b.Lost):decide (a=b)=decide (a.Events=b.Events):=by
 by_cases h:a.Events=b.Events
 ·rw [yR h,yR]
  obtain ⟨_,_,_,_⟩:=a;obtain ⟨_,_,_,_⟩:=b;simp_all
 ·rw [yO h,yO]
  intro e;exact h (by rw [e])
theorem zC0 {a b:zQ} (hl:a.Events.length≤140737488355328) (hs:∀ e∈a.Events,e.Stack.length≤140737488355328):AB 281474976710656 a b=some (decide (a=b)):=by
 unfold AB
 by_cases h1:a.Thread=b.Thread
 case neg=>rw [wA h1,yO (fun e=>h1 (by rw [e]))];rfl
 by_cases h2:a.Serial=b.Serial
 case neg=>rw [wA h2,yO (fun e=>h2 (by rw [e])),Bool.true_or,Bool.or_true];rfl
 by_cases h3:a.Lost=b.Lost
 case neg=>rw [wA h3,yO (fun e=>h3 (by rw [e])),Bool.true_or,Bool.or_true,Bool.or_true];rfl
 by_cases h4:a.Events.length=b.Events.length
 case neg=>rw [wA (a:=(a.Events.length:Int)) (by omega),yO (fun e=>h4 (by rw [e])),Bool.or_true,Bool.or_true,Bool.or_true];rfl
 rw [x8 h1,x8 h2,x8 h3,x8 (a:=(a.Events.length:Int)) (by omega),zAN a b h1 h2 h3]
 simp only [Bool.or_self,cond_false]
 rw [mD (a:=a.Events) (b:=b.Events) (BA 281474976710656 a b) h4 hl (fun n i hi=>by
  show lC _ _ _ _ _=_
  unfold lC
  simp (disch:=omega) only [yO,cond_false]) (fun n i x y r r2 hd hd2 hlt=>by
  show lC _ _ _ _ _=_
  unfold lC
  rw [yR (by omega),cond_true,w9 hd,zbs,w9 hd2,zbs,ZY (hs x (cU hd)),zbs,vC (by omega)]
  by_cases h:x=y
  ·rw [yR h,if_pos h];rfl
  ·rw [yO h,if_neg h];rfl),zbs]
 by_cases h:a.Events=b.Events
 ·rw [if_pos h,yR h]
 ·rw [if_neg h,yO h]
def pk0:zQ:=⟨0,0,0,[]⟩
def zCv (a b:zQ):Prop:=tU a≠0∨tU b≠0∨a.Thread≠b.Thread∨b.Lost≠0∨b.Serial≠a.Serial+a.Events.length
instance decJoinBad {a b:zQ}:Decidable (zCv a b):=inferInstanceAs (Decidable (_∨_))
def DT (l:List xA):Int:=(l.head?.map (·.At)).getD 0
def BX (l:List xA):Int:=(l.getLast?.map (·.At)).getD 0
theorem zDI {l:List xA} (h:0<l.length):∃ x,xG l 0=some x∧x.At=DT l:=by
 cases l with
 | nil=>simp at h
 | cons x r=>exact ⟨x,rfl,rfl⟩
theorem zBX {l:List xA} (h:0<l.length) (h1:l.length≤100000):∃ x,xG l (zI ((l.length:Int) - 1))=some x∧x.At=BX l:=by
 have hne:l≠[]:=by intro e;rw [e] at h;simp at h
 rw [zCK (by omega) hne]
 unfold BX
 rw [List.getLast?_eq_some_getLast hne]
 exact ⟨_,rfl,rfl⟩
def W7 (p:zQ) (n:Int):Prop:=tU p≠0∨n<1∨n≥p.Events.length
instance decSplitBad {p:zQ} {n:Int}:Decidable (W7 p n):=inferInstanceAs (Decidable (_∨_))
theorem rG {α:Type} {l:List α} {n:Int} (h0:0≤n):sub l n (l.length:Int)=l.drop n.toNat:=by
 unfold sub;rw [Int.toNat_natCast,List.take_length]
theorem MQ {α:Type} {l:List α} {n:Int} (h0:0≤n):sub l 0 n=l.take n.toNat:=by
 unfold sub;simp
end Go.Ab
