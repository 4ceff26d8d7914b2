/- Lemmas. No conditions but those that they name. -/
import Derived.Test.YtcejcgalbcnjnaaGreatBtc
namespace Go.Ab
open Go
set_option linter.unusedVariables false
def AI:Option Int->List y8->Int
 | _,[]=>0
 | p,e::r=>if evS e≠0 then evS e else bif p.any (fun a=>decide (e.At<a)) then 11 else AI (some e.At) r
def EC (l:List y8) (i:Nat):Option Int:=if i=0 then none else (l[i - 1]?).map (·.At)
theorem zOE {l:List y8} {i:Nat} {x:y8} {r:List y8} (h:l.drop i=x::r):EC l (i+1)=some x.At:=by
 unfold EC;rw [if_neg (by omega),Nat.add_sub_cancel,zIF h];rfl
theorem zGW {l:List y8} (hl:l.length<=100000):∀ n i,(l.drop i).length<n->K3 281474976710656 l n (i:Nat)=some (toO (AI (EC l i) (l.drop i))):=by
 intro n
 induction n with
 | zero=>intro i h;omega
 | succ n ih =>
  intro i hn;show WZ _ _ _ _=_;unfold WZ;rcases hd:l.drop i with _ | ⟨x,r⟩
  ·have:=fM hd
   rw [xN (by omega)];rfl
  have hlt:=fL hd;have hi:=ih (i+1) (by rw [hd] at hn;rw [nN hd];simp at hn;omega);rw [zOE hd,nN hd] at hi;rw [wE (by omega),cond_true,qB hd,zbs,zJ9,zbs];simp only [AI]
  by_cases he:evS x≠0
  ·rw [aN he,if_pos he,zOk he];rfl
  rw [tV (by omega),cond_false,if_neg he]
  by_cases h0:i=0
  ·subst h0;rw [xN (by omega),cond_false,zbs,cond_false,j6 (by omega),hi];simp [EC]
  ·rw [wE (by omega),cond_true,zCA (by omega) (by omega)];have hp:EC l i=some (l[i - 1]'(by omega)).At:=by unfold EC;rw [if_neg h0,w7 (by omega)];rfl
   rw [w7 (by omega),zbs,zbs,hp];simp only [Option.any_some]
   by_cases ht:x.At<(l[i - 1]'(by omega)).At
   ·rw [wE ht];rfl
   ·rw [xN ht,cond_false,cond_false,j6 (by omega),hi]
theorem zNU {l:List y8} (hl:l.length<=100000):NM 281474976710656 l=some (AI none l):=by
 unfold NM;rw [show K3 281474976710656 l 281474976710656 0=_ from zGW hl 281474976710656 0 (by simp;omega),zbs];simp only [zdz,EC,if_true];unfold toO
 by_cases h:AI none l=0
 ·rw [if_pos h,h]
 ·rw [if_neg h]
theorem zJx:∀ {l:List y8} {p:Option Int},AI p l=0->∀ e∈l,evS e=0:=by
 intro l
 induction l with
 | nil=>intro p _ e he;cases he
 | cons x r ih =>
  intro p h e he;simp only [AI] at h
  by_cases hx:evS x≠0
  ·rw [if_pos hx] at h;exact absurd h hx
  rw [if_neg hx] at h;cases hb:p.any (fun a=>decide (x.At<a))<;>rw [hb] at h
  case true=>cases h
  ·rcases uA.1 he with rfl | he
   ·omega
   ·exact ih h e he
def fF (n:Int):Prop:=n<0\/n>1000000000000000
instance decOutP:DecidablePred fF:=fun n=>inferInstanceAs (Decidable (_\/_))
def lK (p:zO):Prop:=fF p.Xb\/fF p.Xf\/fF p.Xh\/p.Xh>p.Xf\/p.Xf+p.Xe.length>1000000000000000
instance decPackBad:DecidablePred lK:=fun n=>inferInstanceAs (Decidable (_\/_))
def kY (p:zO):Int :=
 if lK p then 2 else
 if p.Xe.length=0 then 8 else if p.Xe.length>1000 then 7 else AI none p.Xe
theorem zMV {p:zO} (hl:p.Xe.length<=100000):RR 281474976710656 p=some (kY p):=by
 unfold RR kY;have hloop:=zBX (l:=[p.Xb,p.Xf,p.Xh]) (QT 281474976710656 p) (fun _ x=>if fF x then some (2:Int) else none) (fun n i hi=>by
  show BX 281474976710656 p _ _=_;unfold BX;simp only [zlc,fC] at hi;rw [xN (by omega)];rfl) (fun n i x r hd hlt=>by
  simp only [zlc,fC] at hlt;refine ⟨fun b hb=>?_,fun hb=>?_⟩
  ·show BX 281474976710656 p _ _=_;unfold BX
   by_cases ho:fF x
   ·rw [if_pos ho] at hb;cases hb;rw [wE (by omega),cond_true,qB hd,zbs,zDR ho];rfl
   ·rw [if_neg ho] at hb;cases hb
  ·show BX 281474976710656 p _ _=_;unfold BX
   by_cases ho:fF x
   ·rw [if_pos ho] at hb;cases hb
   ·rw [wE (by omega),cond_true,qB hd,zbs,zG7 ho,cond_false,j6 (by omega)]) (n:=281474976710656) (by show 3<281474976710656;omega)
 rw [hloop];simp only [u6]
 by_cases h1:fF p.Xb
 ·rw [if_pos h1,if_pos (show lK p from (.inl h1))];rfl
 rw [if_neg h1]
 by_cases h2:fF p.Xf
 ·simp only [if_pos h2];rw [if_pos (show lK p from (.inr (.inl h2)))];rfl
 simp only [if_neg h2]
 by_cases h3:fF p.Xh
 ·simp only [if_pos h3];rw [if_pos (show lK p from (.inr (.inr (.inl h3))))];rfl
 simp only [if_neg h3,zbs];unfold fF at h1 h2 h3
 by_cases h4:p.Xh>p.Xf
 ·rw [wE h4,if_pos (show lK p from (.inr (.inr (.inr (.inl h4)))))];rfl
 rw [xN h4,cond_false,zbs,w64 (by omega) (by omega)]
 by_cases h5:p.Xf+p.Xe.length>1000000000000000
 ·rw [wE h5,if_pos (show lK p from (.inr (.inr (.inr (.inr h5)))))];rfl
 rw [xN h5,cond_false,if_neg (show ¬ lK p by unfold lK fF;omega)]
 by_cases h6:p.Xe.length=0
 ·rw [qN (by omega),if_pos h6];rfl
 rw [nK (by omega),cond_false,if_neg h6]
 by_cases h7:p.Xe.length>1000
 ·rw [wE (by omega),if_pos h7];rfl
 rw [xN (by omega),cond_false,if_neg h7,zNU hl,zbs]
theorem lJ {p:zO} (h:kY p=0):0<=p.Xb/\p.Xb<=1000000000000000/\0<=p.Xf/\0<=p.Xh/\p.Xh<=p.Xf/\p.Xf+p.Xe.length<=1000000000000000/\0<p.Xe.length/\p.Xe.length<=1000/\AI none p.Xe=0:=by
 unfold kY at h
 by_cases h1:lK p
 ·rw [if_pos h1] at h;cases h
 rw [if_neg h1] at h;unfold lK fF at h1
 by_cases h2:p.Xe.length=0
 ·rw [if_pos h2] at h;cases h
 rw [if_neg h2] at h
 by_cases h3:p.Xe.length>1000
 ·rw [if_pos h3] at h;cases h
 rw [if_neg h3] at h;exact ⟨by omega,by omega,by omega,by omega,by omega,by omega,by omega,by omega,h⟩
theorem zJv (a b:zO) (h1:a.Xb=b.Xb) (h2:a.Xf=b.Xf) (h3:a.Xh=b.Xh):decide (a=b)=decide (a.Xe=b.Xe):=by
 by_cases h:a.Xe=b.Xe
 ·rw [wE h,wE];obtain ⟨_,_,_,_⟩:=a;obtain ⟨_,_,_,_⟩:=b;simp_all
 ·rw [xN h,xN];intro e;exact h (by rw [e])
theorem zHB {a b:zO} (hl:a.Xe.length<=140737488355328) (hs:∀ e∈a.Xe,e.Xs.length<=140737488355328):OR 281474976710656 a b=some (decide (a=b)):=by
 unfold OR
 by_cases h1:a.Xb=b.Xb
 case neg=>rw [nK h1,xN (fun e=>h1 (by rw [e]))];rfl
 by_cases h2:a.Xf=b.Xf
 case neg=>rw [qN h1,nK h2,xN (fun e=>h2 (by rw [e]))];rfl
 by_cases h3:a.Xh=b.Xh
 case neg=>rw [qN h1,qN h2,nK h3,xN (fun e=>h3 (by rw [e]))];rfl
 rw [qN h1,qN h2,qN h3,zJv a b h1 h2 h3];simp only [cond_true];unfold XU
 by_cases h4:a.Xe.length=b.Xe.length
 case neg=>rw [aN (a:=(a.Xe.length:Int)) (by omega),xN (fun e=>h4 (by rw [e]))];rfl
 rw [tV (a:=(a.Xe.length:Int)) (by omega),cond_false];rw [J2 (a:=a.Xe) (b:=b.Xe) (MC 281474976710656 a.Xe b.Xe) h4 hl (fun n i hi=>by
  show JU _ _ _ _ _=_;unfold JU;simp (disch:=omega) only [xN,cond_false]) (fun n i x y r r2 hd hd2 hlt=>by
  show JU _ _ _ _ _=_;unfold JU;rw [wE (by omega),cond_true,qB hd,zbs,qB hd2,zbs,zDB (hs x (OO hd)),zbs,j6 (by omega)]
  by_cases h:x=y
  ·rw [wE h,if_pos h];rfl
  ·rw [xN h,if_neg h];rfl),zbs]
 by_cases h:a.Xe=b.Xe
 ·rw [if_pos h,wE h];rfl
 ·rw [if_neg h,xN h];rfl
def zIX (a b:zO):Prop:=kY a≠0\/kY b≠0\/a.Xb≠b.Xb\/b.Xh≠0\/b.Xf≠a.Xf+a.Xe.length
instance decJoinBad {a b:zO}:Decidable (zIX a b):=inferInstanceAs (Decidable (_\/_))
def zCV (l:List y8):Int:=(l.head?.map (·.At)).getD 0
def zAd (l:List y8):Int:=(l.getLast?.map (·.At)).getD 0
theorem zNk {l:List y8} (h:0<l.length):∃ x,z0 l 0=some x/\x.At=zCV l:=by
 cases l with
 | nil=>simp at h
 | cons x r=>exact ⟨x,rfl,rfl⟩
theorem zOc {l:List y8} (h:0<l.length) (h1:l.length<=100000):∃ x,z0 l (zG ((l.length:Int) - 1))=some x/\x.At=zAd l:=by
 have hne:l≠[]:=by intro e;rw [e] at h;simp at h
 rw [zOg (by omega) hne];unfold zAd;rw [List.getLast?_eq_some_getLast hne];exact ⟨_,rfl,rfl⟩
def zHh (p:zO) (n:Int):Prop:=kY p≠0\/n<1\/n>=p.Xe.length
instance decSplitBad {p:zO} {n:Int}:Decidable (zHh p n):=inferInstanceAs (Decidable (_\/_))
theorem zMT {α:Type} {l:List α} {n:Int} (h0:0<=n):sub l n (l.length:Int)=l.drop n.toNat:=by
 unfold sub;rw [wB,CU]
theorem zLS {α:Type} {l:List α} {n:Int} (h0:0<=n):sub l 0 n=l.take n.toNat:=by
 unfold sub;simp
end Go.Ab
