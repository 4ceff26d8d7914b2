/- Lemmas. No conditions but those that they name. -/
import Derived.Test.YtcejcgalbcnjnaaGreatCtb
namespace Go.Ab
open Go
set_option linter.unusedVariables false
def lU (out:List zO) (e:y8):List zO:=ini out++[⟨(lst out).Xb,(lst out).Xf,(lst out).Xh,(lst out).Xe++[e]⟩]
def fE (out:List zO) (e:y8):List zO:=lU (if (lst out).Xe.length=1000 then out++[⟨(lst out).Xb,(lst out).Xf+1000,0,[]⟩] else out) e
def d9 (out:List zO) (p:zO):List zO:=if p.Xh>0\/out.length=0 then out++[⟨p.Xb,p.Xf,p.Xh,[]⟩] else out
def AY (out:List zO) (p:zO):List zO:=p.Xe.foldl fE (d9 out p)
def KN (k:Int) (out:List zO) (p:zO):List zO:=if p.Xb=k then AY out p else out
def tL (k:Int) (l:List zO):List zO:=l.foldl (KN k) []
theorem QA (out:List zO) (e:y8):0<(lU out e).length:=by simp [lU]
theorem dE (out:List zO) (e:y8):lst (lU out e)=⟨(lst out).Xb,(lst out).Xf,(lst out).Xh,(lst out).Xe++[e]⟩:=v4 _ _
theorem zBN (out:List zO) (e:y8):ini (lU out e)=ini out:=CY _ _
theorem zCX:∀ (xs:List y8) (out:List zO),0<out.length->(lst out).Xe.length+xs.length<=1000->xs.foldl fE out=ini out++[⟨(lst out).Xb,(lst out).Xf,(lst out).Xh,(lst out).Xe++xs⟩]
 | [],out,h,_=>by
  simp only [List.foldl_nil,aE];exact G7 h
 | x::xs,out,h,hl=>by
  simp only [zlc] at hl;have hf:fE out x=lU out x:=by unfold fE;rw [if_neg (by omega)]
  rw [aF,hf,zCX xs (lU out x) (QA _ _) (by rw [dE];simp;omega),dE,zBN];simp
theorem zOp {out:List zO} {x:y8} {xs:List y8} (h:(lst out).Xe.length=1000) :
  (x::xs).foldl fE out=(x::xs).foldl fE (out++[⟨(lst out).Xb,(lst out).Xf+1000,0,[]⟩]):=by
 rw [aF,aF]
 congr 1
 unfold fE;rw [if_pos h,v4,if_neg (by simp)]
theorem zMk:∀ (n:Nat) (evs:List y8) (out:List zO),0<out.length->(lst out).Xe.length<=1000->0<=(lst out).Xf->(lst out).Xf+(lst out).Xe.length+evs.length<=2000000000000000 ->
  out.length+2 * evs.length+(if (lst out).Xe.length=1000 then 1 else 0)<=2000000->evs.length<=100000->2 * evs.length+(if (lst out).Xe.length=1000 then 1 else 0)<n->ON 281474976710656 n evs out=some (evs.foldl fE out):=by
 intro n
 induction n with
 | zero=>intro evs out _ _ _ _ _ _ h;omega
 | succ n ih =>
  intro evs out h1 h2 h3 h4 h5 h6 hn;show XP _ _ _ _=_;unfold XP;cases evs with
  | nil=>rfl
  | cons x xs =>
   generalize hE:x::xs=evs at *;have hlen:0<evs.length:=by rw [<- hE];simp
   have hw:zG (((out.length:Nat):Int) - 1)=((out.length - 1:Nat):Int):=by rw [w64 (by omega) (by omega)];omega
   rw [wE (by omega),cond_true,hw,tB (by omega),zbs,tB (by omega),zbs];have hm:qY (zG ((1000:Int) - (((lst out).Xe.length:Nat):Int))) ((evs.length:Nat):Int)=((min (1000 - (lst out).Xe.length) evs.length:Nat):Int):=by
    rw [w64 (by omega) (by omega)];unfold qY
    split<;>omega
   rw [hm]
   by_cases hf:(lst out).Xe.length=1000
   ·rw [qN (by omega),cond_true,tB (by omega)];simp only [zbs];rw [w64 (by omega) (by omega),ih _ _ (by simp) (by rw [v4];simp) (by rw [v4];simp;omega)
     (by rw [v4];simp;omega) (by rw [v4,if_neg (by simp)];rw [if_pos hf] at h5;simp;omega) h6 (by rw [v4,if_neg (by simp)];rw [if_pos hf] at hn;omega)]
    rw [<- hE];exact congrArg some (zOp hf).symm
   ·rw [if_neg hf] at hn h5;rw [nK (by omega),cond_false];generalize hmm:min (1000 - (lst out).Xe.length) evs.length=m;have hm1:0<m:=by omega
    have hm2:m<=evs.length:=by omega
    have hm3:(lst out).Xe.length+m<=1000:=by omega
    have hs1:sub evs 0 ((m:Nat):Int)=evs.take m:=by rw [zLS (by omega)];simp
    have hs2:sub evs ((m:Nat):Int) ((evs.length:Nat):Int)=evs.drop m:=by rw [zMT (by omega)];simp
    rw [hs1,hs2];have htl:(evs.take m).length=m:=by rw [nL];omega
    have hdl:(evs.drop m).length=evs.length - m:=by simp
    rw [tB (show (0:Int)<=((m:Nat):Int)/\((m:Nat):Int)<=((evs.length:Nat):Int) by omega),tB (show ((lst out).Xe.length+(evs.take m).length) * 72<=140737488355328 by rw [htl];omega)];simp only [zbs];have hg:ini out++[⟨(lst out).Xb,(lst out).Xf,(lst out).Xh,(lst out).Xe++evs.take m⟩]=(evs.take m).foldl fE out:=(zCX _ _ h1 (by rw [htl];exact hm3)).symm;rw [ih _ _ (by simp) (by rw [v4];simp only [zla,htl];exact hm3) (by rw [v4];exact h3)
     (by rw [v4];simp only [zla,htl,hdl];omega) (by rw [v4];simp only [zla,zls,QC,htl,hdl];split<;>omega) (by omega) (by rw [v4];simp only [zla,htl,hdl];split<;>omega),hg,<- List.foldl_append,VQ]
theorem zOV {out:List zO} {evs:List y8} (h1:0<out.length) (h2:(lst out).Xe.length<=1000) (h3:0<=(lst out).Xf) (h4:(lst out).Xf+(lst out).Xe.length+evs.length<=2000000000000000)
  (h5:out.length+evs.length<=1000000) (h6:evs.length<=50000):RD 281474976710656 out evs=some (evs.foldl fE out):=by
 unfold RD;rw [zMk 281474976710656 evs out h1 h2 h3 h4 (by split<;>omega) (by omega) (by split<;>omega)];rfl
structure CZ (k s:Int) (out:List zO):Prop where
 thread:(lst out).Xb=k
 serial:(lst out).Xf+(lst out).Xe.length=s
 len:(lst out).Xe.length<=1000
 low:0<=(lst out).Xf
theorem zIg {k s:Int} {out:List zO} (h:CZ k s out) (e:y8):CZ k (s+1) (fE out e)/\(fE out e).length<=max out.length 1+1/\0<(fE out e).length/\0<(lst (fE out e)).Xe.length:=by
 obtain ⟨h1,h2,h3,h4⟩:=h;unfold fE
 split
 ·rename_i hf
  refine ⟨⟨by rw [dE,v4];exact h1,by rw [dE,v4];simp;omega,by rw [dE,v4];simp,by rw [dE,v4];simp;omega⟩,?_,QA _ _,by rw [dE];simp⟩;simp [lU,CY];omega
 ·rename_i hf
  refine ⟨⟨by rw [dE];exact h1,by rw [dE];simp;omega,by rw [dE];simp;omega,by rw [dE];exact h4⟩,?_,QA _ _,by rw [dE];simp⟩;simp [lU,QC];omega
theorem zES {k:Int}:∀ (xs:List y8) (s:Int) (out:List zO),CZ k s out->0<out.length->CZ k (s+xs.length) (xs.foldl fE out)/\(xs.foldl fE out).length<=out.length+xs.length/\0<(xs.foldl fE out).length
 | [],s,out,h,h0=>by simpa using ⟨h,h0⟩
 | x::xs,s,out,h,h0=>by
  obtain ⟨k1,k2,k3,_⟩:=zIg h x;obtain ⟨q1,q2,q3⟩:=zES xs _ _ k1 k3;rw [aF];refine ⟨?_,by simp only [zlc];omega,q3⟩;rw [show s+((x::xs).length:Int)=s+1+xs.length by simp;omega];exact q1
def VL (out:List zO) (p:zO):Prop:=0<=p.Xf/\(out.length=0\/(lst out).Xe.length<=1000/\(p.Xh=0->CZ p.Xb p.Xf out))
theorem zEU {out:List zO} {p:zO} (h:VL out p) (hL:0<=p.Xh):CZ p.Xb p.Xf (d9 out p)/\0<(d9 out p).length/\(d9 out p).length<=out.length+1:=by
 unfold d9
 by_cases hc:p.Xh>0\/out.length=0
 ·rw [if_pos hc];exact ⟨⟨by rw [v4],by rw [v4];simp,by rw [v4];simp,by rw [v4];exact h.1⟩,by simp,by simp⟩
 ·rw [if_neg hc];rcases h.2 with h0 | ⟨_,h1⟩
  ·omega
  ·exact ⟨h1 (by omega),by omega,by omega⟩
theorem zNt {out:List zO} {p:zO} (h:VL out p) (hL:0<=p.Xh):CZ p.Xb (p.Xf+p.Xe.length) (AY out p)/\(AY out p).length<=out.length+1+p.Xe.length/\0<(AY out p).length:=by
 obtain ⟨h1,h2,h3⟩:=zEU h hL;obtain ⟨q1,q2,q3⟩:=zES p.Xe _ _ h1 h2;exact ⟨q1,by unfold AY;omega,q3⟩
theorem UR (k:Int) (l:List zO) (p:zO):tL k (l++[p])=KN k (tL k l) p:=by simp [tL]
def fB (l:List zO):Prop:=∀ (i:Nat) (p:zO),l[i]?=some p->kY p=0/\lO (l.take i) p=true
theorem fB.snoc {l:List zO} {p:zO} (h:fB (l++[p])):fB l/\kY p=0/\lO l p=true:=by
 refine ⟨fun i q hq=>?_,?_⟩
 ·have hlt:=(vO.1 hq).1
  have:=h i q (by rw [uH hlt];exact hq)
  rwa [List.take_append_of_le_length (by omega)] at this
 ·have:=h l.length p (by simp)
  simpa using this
theorem fB.take {l:List zO} (h:fB l) (i:Nat):fB (l.take i):=by
 intro j q hq;rw [aY] at hq
 split at hq
 ·have:=h j q hq
  rwa [List.take_take,DQ (by omega)]
 ·cases hq
theorem fB.valids {l:List zO} (h:fB l):o9 l:=fun p hp=>by obtain ⟨i,hi⟩:=uG.1 hp;exact (h i p hi).1
theorem TC {α:Type} {P:List α->Prop} (h0:P []) (h1:∀ l x,P l->P (l++[x])) (l:List α):P l:=by
 rw [<- List.reverse_reverse l]
 induction l.reverse with
 | nil=>exact h0
 | cons x r ih=>rw [List.reverse_cons];exact h1 _ _ ih
theorem zA8 (k:Int) (l:List zO) (h:fB l):(tL k l).length<=2 * evN l/\(0<(tL k l).length->CZ k (qU l k).1 (tL k l))/\((tL k l).length=0->(qU l k)=(0,0)):=by
 induction l using TC with
 | h0=>simp [tL,qU]
 | h1 l p ih =>
  obtain ⟨h1,h2,h3⟩:=h.snoc;obtain ⟨i1,i2,i3⟩:=ih h1;have hz:=lJ h2;rw [UR,zBy,XY];unfold KN BE
  by_cases hk:p.Xb=k
  ·rw [if_pos hk,if_pos hk];have hfit:VL (tL k l) p:=by
    refine ⟨hz.2.2.1,?_⟩;rcases DD (tL k l).length with h0 | h0
    ·exact .inl h0
    ·refine .inr ⟨(i2 h0).len,fun hL=>?_⟩;unfold lO at h3;simp only [zba,decide_eq_true_eq] at h3
     have:=i2 h0
     rw [hk,show p.Xf=(qU l k).1 by rw [<- hk];omega];exact this
   obtain ⟨q1,q2,q3⟩:=zNt hfit hz.2.2.2.1;exact ⟨by omega,fun _=>hk ▸ q1,fun h0=>by omega⟩
  ·rw [if_neg hk,if_neg hk];exact ⟨by omega,i2,i3⟩
theorem zK4 {l:List zO} {p:zO} (h:fB (l++[p])):VL (tL p.Xb l) p:=by
 obtain ⟨h1,h2,h3⟩:=h.snoc;obtain ⟨i1,i2,i3⟩:=zA8 p.Xb l h1;have hz:=lJ h2;refine ⟨hz.2.2.1,?_⟩;rcases DD (tL p.Xb l).length with h0 | h0
 ·exact .inl h0
 ·refine .inr ⟨(i2 h0).len,fun hL=>?_⟩;unfold lO at h3;simp only [zba,decide_eq_true_eq] at h3
  have:=i2 h0
  rw [show p.Xf=(qU l p.Xb).1 by omega];exact this
end Go.Ab
