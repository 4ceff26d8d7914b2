/- Lemmas. No conditions but those that they name. -/
import Derived.Test.YtcejcgalbcnjnaaGreatCtc
namespace Go.Ab
open Go
set_option linter.unusedVariables false
def mS:z6:=⟨⟨[],[],[]⟩,[]⟩
def DE (h:wR) (l:List zO):List zO:=h.Xd.flatMap fun t=>tL t.Id l
def cY (h:wR) (l:List zO):z6×Int :=
 if gF h≠0 then (mS,gF h) else if AR h l≠0 then (mS,AR h l) else (⟨h,DE h l⟩,0)
theorem zAz {h:wR} {l:List zO} {i:Nat} {p:zO}:lG h l i p=none↔kY p=0/\p.Xb∈cE h/\lO (l.take i) p=true:=by
 unfold lG
 by_cases h1:kY p≠0
 ·rw [if_pos h1];exact ⟨fun h=>by (cases h),fun h=>absurd h.1 h1⟩
 ·rw [if_neg h1]
  by_cases h2:p.Xb∉cE h
  ·rw [if_pos h2];exact ⟨fun h=>by (cases h),fun h=>absurd h.2.1 h2⟩
  ·rw [if_neg h2];cases h3:lO (l.take i) p
   ·simp
   ·simp only [Bool.true_eq_false,if_false];exact ⟨fun _=>⟨by omega,by simpa using h2,trivial⟩,fun _=>trivial⟩
structure ZW (h:wR) (l:List zO):Prop where
 passed:fB l
 known:∀ p∈l,p.Xb∈cE h
 few:evN l<=20000
theorem zOt {h:wR} {l:List zO}:∀ (i:Nat) (m:List zO) (q:Int),u6 (lG h l) i m=.inr q->q≠0:=by
 intro i m
 induction m generalizing i with
 | nil=>intro q h;cases h
 | cons a r ih =>
  intro q hq;simp only [u6] at hq;cases hf:lG h l i a with
  | none=>rw [hf] at hq;exact ih _ _ hq
  | some b =>
   rw [hf] at hq;injection hq with hq;subst hq;unfold lG at hf
   split at hf
   ·injection hf with hf;omega
   ·split at hf
    ·injection hf with hf;omega
    ·split at hf
     ·injection hf with hf;omega
     ·cases hf
theorem zAo {h:wR} {l:List zO}:AR h l=0↔ZW h l:=by
 unfold AR
 constructor
 ·intro hc;cases hb:u6 (lG h l) 0 l with
  | inr q=>rw [hb] at hc;exact absurd hc (zOt _ _ _ hb)
  | inl u =>
   rw [hb] at hc;have hn:=zDp hb;simp only [cQ] at hn;refine ⟨fun i p hi=>?_,fun p hp=>?_,?_⟩
   ·have:=zAz.1 (hn i p hi);exact ⟨this.1,this.2.2⟩
   ·obtain ⟨i,hi⟩:=uG.1 hp;exact (zAz.1 (hn i p hi)).2.1
   ·simp only at hc
    split at hc<;>omega
 ·intro hg;rw [zM4 (f:=lG h l) (i:=0) (l:=l) fun i p hi=>by
   rw [cQ];exact zAz.2 ⟨(hg.passed i p hi).1,hg.known p (yN hi),(hg.passed i p hi).2⟩]
  simp only;rw [if_neg (by have:=hg.few;omega)]
theorem zJB {l:List zO} (hl:l.length<=100000) (hN:evN l<=100000) (hP:fB l):∀ (n i:Nat) (row:List (Int×List zO)),row.length<=i->(∀ k,(zV row k).getD []=tL k (l.take i))->(l.drop i).length<n ->
  ∃ row',CI 281474976710656 l n (i:Nat) row=some row'/\∀ k,(zV row' k).getD []=tL k l:=by
 intro n
 induction n with
 | zero=>intro i row _ _ h;omega
 | succ n ih =>
  intro i row hlen hg hn;have hu:CI 281474976710656 l (n+1) (i:Nat) row=VN 281474976710656 l (CI 281474976710656 l n) (i:Nat) row:=rfl;rw [hu];unfold VN;rcases hd:l.drop i with _ | ⟨x,r⟩
  ·have:=fM hd
   rw [xN (by omega),cond_false];exact ⟨row,rfl,fun k=>by rw [hg,kC this]⟩
  ·have hi:=fL hd;rw [hd] at hn;simp only [zlc] at hn;have hPx:fB (l.take i++[x]):=by rw [<- lD hd];exact hP.take _
   have hfit:=zK4 hPx;have hz:=lJ hPx.snoc.2.1;have hb:=(zA8 x.Xb (l.take i) (hP.take i)).1;have hle:=RA l i;obtain ⟨e1,e2,e3⟩:=zEU hfit hz.2.2.2.1;rw [wE (by omega),cond_true,qB hd,zbs,hg];have hown:(bif (decide (x.Xh>(0:Int))||((((tL x.Xb (l.take i)).length:Nat):Int)==(0:Int))) then (need (((tL x.Xb (l.take i)).length+1) * 48<=140737488355328)).bind fun _=>some (tL x.Xb (l.take i)++[(⟨x.Xb,x.Xf,x.Xh,[]⟩:zO)]) else some (tL x.Xb (l.take i)))=some (d9 (tL x.Xb (l.take i)) x):=by
    unfold d9
    by_cases hc:x.Xh>0\/(tL x.Xb (l.take i)).length=0
    ·rw [if_pos hc,tB (by omega)];rw [show (decide (x.Xh>(0:Int))||((((tL x.Xb (l.take i)).length:Nat):Int)==(0:Int)))=true by
      rcases hc with hc | hc
      ·rw [wE hc];rfl
      ·rw [qN (show (((tL x.Xb (l.take i)).length:Nat):Int)=0 by omega)];simp]
     rfl
    ·rw [if_neg hc];rw [show (decide (x.Xh>(0:Int))||((((tL x.Xb (l.take i)).length:Nat):Int)==(0:Int)))=false by
      rw [xN (fun h=>hc (.inl h)),nK (show (((tL x.Xb (l.take i)).length:Nat):Int)≠0 from fun h=>hc (.inr (by omega)))];rfl]
     rfl
   rw [hown,zbs,zOV e2 e1.len e1.low (by have:=e1.serial;omega) (by omega) (by omega),zbs,tB (by omega),zbs,j6 (by omega)];refine ih (i+1) _ (by have:=dG row x.Xb (List.foldl fE (d9 (tL x.Xb (l.take i)) x) x.Xe);omega) ?_ (by rw [nN hd];omega);intro k;rw [dJ,lD hd,UR];unfold KN
   by_cases hk:x.Xb=k
   ·subst hk;rw [if_pos rfl,if_pos rfl];rfl
   ·rw [if_neg hk,if_neg hk,hg]
theorem zIq {h:wR} {i:Nat} {x:wN} {r:List wN} (f:wN->List zO) (hd:h.Xd.drop i=x::r):(h.Xd.take (i+1)).flatMap f=(h.Xd.take i).flatMap f++f x:=by
 rw [lD hd,List.flatMap_append];simp
theorem zNX {h:wR} {o:List (Int×List zO)} {f:Int->List zO} (hl:h.Xd.length<=100000) (ho:∀ k,(zV o k).getD []=f k) (hf:∀ k,(f k).length<=300000):∀ (n i:Nat) (row:List zO),row=(h.Xd.take i).flatMap (fun t=>f t.Id)->row.length<=i * 300000->(h.Xd.drop i).length<n ->
  K6 281474976710656 h o n (i:Nat) row=some (h.Xd.flatMap fun t=>f t.Id):=by
 intro n
 induction n with
 | zero=>intro i row _ _ h;omega
 | succ n ih =>
  intro i row hr hlen hn;show TY _ _ _ _ _ _=_;unfold TY;rcases hd:h.Xd.drop i with _ | ⟨x,r⟩
  ·have:=fM hd
   rw [xN (by omega),cond_false,hr,kC this]
  ·have hi:=fL hd;rw [hd] at hn;simp only [zlc] at hn
   have:=hf x.Id
   rw [wE (by omega),cond_true,qB hd,zbs,ho,tB (by omega),zbs,j6 (by omega)];exact ih (i+1) _ (by rw [zIq _ hd,hr]) (by rw [zla];omega) (by rw [nN hd];omega)
theorem zJa {h:wR} {l:List zO} (ht:h.Xd.length<=100000) (hd:h.Xi.length<=100000) (hs:h.Xl.length<=100000) (hl:l.length<=100000) (hN:evN l<=100000):QQ 281474976710656 h l=some (cY h l):=by
 unfold QQ cY;rw [zLh ht hd hs,zbs]
 by_cases h1:gF h≠0
 ·rw [if_pos h1,aN h1];rfl
 rw [if_neg h1,tV (by omega),cond_false,zO3 hl hN ht,zbs]
 by_cases h2:AR h l≠0
 ·rw [if_pos h2,aN h2];rfl
 have h2:AR h l=0:=by omega
 have hg:=zAo.1 h2;rw [if_neg (by omega),tV h2,cond_false];obtain ⟨row,r1,r2⟩:=zJB hl hN hg.passed 281474976710656 0 [] (by simp) (fun k=>by simp [zV,tL]) (by simp;omega);rw [show CI 281474976710656 l 281474976710656 (0:Int) []=_ from r1,zbs]
 have:=zNX (h:=h) (f:=fun k=>tL k l) ht r2 (fun k=>by have:=(zA8 k l hg.passed).1;omega) 281474976710656 0 [] (by simp) (by simp) (by simp;omega)
 rw [show K6 281474976710656 h row 281474976710656 (0:Int) []=_ from this];rfl
/-! Equality of logs. -/
def RL (l:List zO):Prop:=l.length<=140737488355328/\∀ p∈l,p.Xe.length<=140737488355328/\∀ e∈p.Xe,e.Xs.length<=140737488355328
theorem zNq {a b:List wN} (ha:a.length<=140737488355328):OD 281474976710656 a b=some (decide (a=b)):=by
 unfold OD
 by_cases hab:a.length=b.length
 ·rw [tV (by omega),cond_false,J2 (a:=a) (b:=b) (fun n i=>RF 281474976710656 a b n i) hab ha]
  ·rw [zbs]
   by_cases he:a=b
   ·rw [if_pos he,wE he]
   ·rw [if_neg he,xN he]
  ·intro n i hi;show LB _ _ _ _ _=_;unfold LB;rw [xN (by omega),cond_false]
  ·intro n i x y r r2 hx hy hi;show LB _ _ _ _ _=_;unfold LB;rw [wE (by omega),cond_true,qB hx,zbs,qB hy,zbs,j6 (by omega)]
   by_cases he:x=y
   ·rw [if_pos he,wE he];rfl
   ·rw [if_neg he,xN he];rfl
 ·rw [aN (by omega),xN (fun e=>hab (by rw [e]))];rfl
theorem zLF {a b:List yW} (ha:a.length<=140737488355328):NI 281474976710656 a b=some (decide (a=b)):=by
 unfold NI
 by_cases hab:a.length=b.length
 ·rw [tV (by omega),cond_false,J2 (a:=a) (b:=b) (fun n i=>MH 281474976710656 a b n i) hab ha]
  ·rw [zbs]
   by_cases he:a=b
   ·rw [if_pos he,wE he]
   ·rw [if_neg he,xN he]
  ·intro n i hi;show JV _ _ _ _ _=_;unfold JV;rw [xN (by omega),cond_false]
  ·intro n i x y r r2 hx hy hi;show JV _ _ _ _ _=_;unfold JV;rw [wE (by omega),cond_true,qB hx,zbs,qB hy,zbs,j6 (by omega)]
   by_cases he:x=y
   ·rw [if_pos he,wE he];rfl
   ·rw [if_neg he,xN he];rfl
 ·rw [aN (by omega),xN (fun e=>hab (by rw [e]))];rfl
theorem zHV {a b:List xO} (ha:a.length<=140737488355328):OK 281474976710656 a b=some (decide (a=b)):=by
 unfold OK
 by_cases hab:a.length=b.length
 ·rw [tV (by omega),cond_false,J2 (a:=a) (b:=b) (fun n i=>R4 281474976710656 a b n i) hab ha]
  ·rw [zbs]
   by_cases he:a=b
   ·rw [if_pos he,wE he]
   ·rw [if_neg he,xN he]
  ·intro n i hi;show JK _ _ _ _ _=_;unfold JK;rw [xN (by omega),cond_false]
  ·intro n i x y r r2 hx hy hi;show JK _ _ _ _ _=_;unfold JK;rw [wE (by omega),cond_true,qB hx,zbs,qB hy,zbs,j6 (by omega)]
   by_cases he:x=y
   ·rw [if_pos he,wE he];rfl
   ·rw [if_neg he,xN he];rfl
 ·rw [aN (by omega),xN (fun e=>hab (by rw [e]))];rfl
theorem zLn {a b:List zO} (ha:RL a):L4 281474976710656 a b=some (decide (a=b)):=by
 unfold L4
 by_cases hab:a.length=b.length
 ·rw [tV (by omega),cond_false,J2 (a:=a) (b:=b) (fun n i=>L3 281474976710656 a b n i) hab ha.1]
  ·rw [zbs]
   by_cases he:a=b
   ·rw [if_pos he,wE he]
   ·rw [if_neg he,xN he]
  ·intro n i hi;show HJ _ _ _ _ _=_;unfold HJ;rw [xN (by omega),cond_false]
  ·intro n i x y r r2 hx hy hi;show HJ _ _ _ _ _=_;unfold HJ UA;have hm:=ha.2 x (OO hx);have hl:=ha.1;rw [wE (by omega),cond_true,qB hx,zbs,qB hy,zbs,j6 (by omega),zHB hm.1 hm.2,zbs,zbs]
   by_cases he:x=y
   ·rw [if_pos he,wE he];rfl
   ·rw [if_neg he,xN he];rfl
 ·rw [aN (by omega),xN (fun e=>hab (by rw [e]))];rfl
def zEt (a:z6):Prop:=a.Xc.Xd.length<=140737488355328/\a.Xc.Xi.length<=140737488355328/\a.Xc.Xl.length<=140737488355328/\RL a.Xa
theorem zMO (a b:z6):a=b↔a.Xc.Xd=b.Xc.Xd/\a.Xc.Xi=b.Xc.Xi/\a.Xc.Xl=b.Xc.Xl/\a.Xa=b.Xa:=by
 obtain ⟨⟨a1,a2,a3⟩,a4⟩:=a;obtain ⟨⟨b1,b2,b3⟩,b4⟩:=b;simp [and_assoc]
theorem zHz {a b:z6} (h:zEt a):RP 281474976710656 a b=some (decide (a=b)):=by
 obtain ⟨h1,h2,h3,h4⟩:=h;unfold RP;rw [zNq h1,zLF h2,zHV h3,zLn h4];simp only [zbs,zMO a b]
 by_cases k1:a.Xc.Xd=b.Xc.Xd
 ·by_cases k2:a.Xc.Xi=b.Xc.Xi
  ·by_cases k3:a.Xc.Xl=b.Xc.Xl
   ·simp [k1,k2,k3]
   ·simp [k1,k2,k3]
  ·simp [k1,k2]
 ·simp [k1]
end Go.Ab
