/- Plain laws of the functions uS this seat's, laid anew from another seat's text. No conditions but those that the theorems name. -/
import Derived.Test.YtoeengmnmhhpgaaGreatP15zxD
import Derived.Test.YtoeengmnmhhpgaaGreatR15z
import Derived.Test.YtoeengmnmhhpgaaGreatB15za
import Derived.Test.YtoeengmnmhhpgaaGreatB15zb
import Derived.Test.YtoeengmnmhhpgaaGreatB15zc
import Derived.Test.YtoeengmnmhhpgaaGreatB15zd
import Derived.Test.YtoeengmnmhhpgaaGreatB15ze
import Derived.Test.YtoeengmnmhhpgaaGreatB15zf
import Derived.Test.YtoeengmnmhhpgaaGreatB15zg
import Derived.Test.YtoeengmnmhhpgaaGreatB15zh
import Derived.Test.YtoeengmnmhhpgaaGreatB15zi
import Derived.Test.YtoeengmnmhhpgaaGreatB15zj
import Derived.Test.YtoeengmnmhhpgaaGreatB15zk
import Derived.Test.YtoeengmnmhhpgaaGreatB15zt
import Derived.Test.YtoeengmnmhhpgaaGreatB15zm
import Derived.Test.YtoeengmnmhhpgaaGreatB15zn
import Derived.Test.YtoeengmnmhhpgaaGreatB15zo
import Derived.Test.YtoeengmnmhhpgaaGreatC15za
namespace Go.Ab
open Go
set_option linter.unusedVariables false
def qS {α:Type} (p:List Int->Option (α×List Int)) (b:List Int) (bad:Bool) (a:α) (b':List Int) (bad':Bool):Prop :=
 vN b'/\b'.length<=b.length/\(bad=true->bad'=true)/\(bad=false->match p b with | some (v,r)=>a=v/\b'=r/\bad'=false | none=>bad'=true)
theorem qS.pure {α:Type} {x:α} {b:List Int} {bad:Bool} (h:vN b):qS (qX x) b bad x b bad:=⟨h,Nat.le_refl _,fun h=>h,fun h=>⟨rfl,rfl,h⟩⟩
theorem qS.comb {α β:Type} {p:List Int->Option (α×List Int)} {q:α->List Int->Option (β×List Int)} {b b1 b2:List Int} {bad d1 d2:Bool} {a:α} {c:β}
  (h1:qS p b bad a b1 d1) (h2:qS (q a) b1 d1 c b2 d2):qS (vC p q) b bad c b2 d2:=by
 obtain ⟨x1,x2,x3,x4⟩:=h1;obtain ⟨y1,y2,y3,y4⟩:=h2;refine ⟨y1,Nat.le_trans y2 x2,fun h=>y3 (x3 h),fun h=>?_⟩;have x4:=x4 h;unfold vC;cases hp:p b with
 | none=>rw [hp] at x4;exact y3 x4
 | some v =>
  obtain ⟨v,r⟩:=v;rw [hp] at x4;obtain ⟨rfl,rfl,rfl⟩:=x4;exact y4 rfl
theorem qS.bad {α:Type} {p:List Int->Option (α×List Int)} {b b':List Int} {a:α} (h1:vN b') (h2:b'.length<=b.length):qS p b true a b' true:=⟨h1,h2,fun _=>rfl,fun h=>by cases h⟩
theorem LB {b:List Int} (he:(vrd b 0 0).2.2=0):uG b=some ((vrd b 0 0).1,b.drop (vrd b 0 0).2.1.toNat):=if_pos he
theorem HQ {b:List Int} (he:(vrd b 0 0).2.2≠0):uG b=none:=if_neg he
theorem W6 {b:List Int} (hb:∀ x∈b,xY x):((txt b 40).2.2=0->0<=(txt b 40).2.1/\(txt b 40).2.1<=b.length/\cZ b=some ((txt b 40).1,b.drop (txt b 40).2.1.toNat))/\((txt b 40).2.2≠0->cZ b=none):=by
 have hv:=cJ (i:=0) (u:=0) hb (by omega) (by omega) (by decide);unfold txt cZ vC;simp only
 by_cases he:(vrd b 0 0).2.2≠0
 ·rw [if_pos he,HQ he];exact ⟨fun h=>absurd h he,fun _=>rfl⟩
 have he:(vrd b 0 0).2.2=0:=by omega
 have hr:=hv.2.1 he;rw [if_neg (by omega),LB he,zbs];simp only
 by_cases h1:(vrd b 0 0).1<0
 ·rw [if_pos h1,if_neg (by omega)];simp
 rw [if_neg h1]
 by_cases h2:(vrd b 0 0).1>40
 ·rw [if_pos h2,if_neg (by omega)];simp
 rw [if_neg h2]
 by_cases h3:(vrd b 0 0).1>b.length - (vrd b 0 0).2.1
 ·rw [if_pos h3,if_neg (by rw [List.length_drop];omega)];simp
 rw [if_neg h3,if_pos (by rw [List.length_drop];omega)];refine ⟨fun _=>⟨by simp only;omega,by simp only;omega,?_⟩,fun h=>absurd rfl h⟩;simp only
 congr 2
 ·unfold sub;rw [List.drop_take,show ((vrd b 0 0).2.1+(vrd b 0 0).1).toNat - (vrd b 0 0).2.1.toNat=(vrd b 0 0).1.toNat by omega]
 ·rw [List.drop_drop,show (vrd b 0 0).2.1.toNat+(vrd b 0 0).1.toNat=((vrd b 0 0).2.1+(vrd b 0 0).1).toNat by omega]
theorem cO {b:List Int} {bad:Bool} (h:vN b):∃ a b' d,aE 281474976710656 ⟨b,bad⟩=some (a,⟨b',d⟩)/\qS uG b bad a b' d:=by
 have hv:=cJ (i:=0) (u:=0) h.1 (by omega) (by omega) (by decide);have h2:=h.2;unfold aE;simp only;rw [oO h.1 (by omega) (by omega),zbs]
 by_cases he:(vrd b 0 0).2.2=0
 ·have hr:=hv.2.1 he;rw [x7 he,cond_false,xQ (by omega),zbs];refine ⟨_,_,_,rfl,?_⟩;rw [b8 (by omega)];refine ⟨h.drop _,by rw [List.length_drop];omega,fun hb=>hb,fun hb=>?_⟩;rw [LB he];exact ⟨rfl,rfl,hb⟩
 ·rw [xX he,cond_true];refine ⟨_,_,_,rfl,?_⟩;refine ⟨.nil,by simp,fun _=>rfl,fun hb=>?_⟩;rw [HQ he]
theorem zEB {b:List Int} {bad:Bool} (h:vN b):∃ a b' d,H9 281474976710656 ⟨b,bad⟩=some (a,⟨b',d⟩)/\qS cZ b bad a b' d:=by
 obtain ⟨t1,t2⟩:=W6 h.1;have h2:=h.2;unfold H9;simp only;rw [S7 h.1 (by omega) (by omega) , zbs]
 by_cases he:(txt b 40).2.2=0
 ·obtain ⟨r1,r2,r3⟩:=t1 he;rw [x7 he,cond_false,xQ ⟨r1,r2⟩,zbs];refine ⟨_,_,_,rfl,?_⟩;rw [b8 r1];refine ⟨h.drop _,by rw [List.length_drop];omega,fun hb=>hb,fun hb=>?_⟩;rw [r3];exact ⟨rfl,rfl,hb⟩
 ·rw [xX he,cond_true];refine ⟨_,_,_,rfl,?_⟩;refine ⟨.nil,by simp,fun _=>rfl,fun hb=>?_⟩;rw [t2 he]
theorem SJ {b:List Int} {bad:Bool} {most:Int} (h:vN b) (hm:0<=most):∃ a b' d,oE 281474976710656 ⟨b,bad⟩ most=some (a,⟨b',d⟩)/\qS (pG most) b bad a b' d/\0<=a/\a<=most:=by
 obtain ⟨a,b1,d,e1,s1,s2,s3,s4⟩:=cO (bad:=bad) h;unfold oE;rw [e1,zbs]
 by_cases hc:0<=a/\a<=most
 ·rw [show (decide (a<(0:Int))||decide (a>most))=false by rw [yP (by omega),yP (by omega)];rfl,cond_false];refine ⟨_,_,_,rfl,⟨s1,s2,s3,fun hb=>?_⟩,hc⟩;have s4:=s4 hb;unfold pG vC;cases hp:uG b with
  | none=>rw [hp] at s4;exact s4
  | some v =>
   obtain ⟨v,r⟩:=v;rw [hp] at s4;obtain ⟨rfl,rfl,rfl⟩:=s4;rw [zbs];simp [hc]
 ·rw [show (decide (a<(0:Int))||decide (a>most))=true by
   by_cases h0:a<0
   ·rw [yN h0];rfl
   ·rw [yN (show a>most by omega),Bool.or_true],cond_true]
  refine ⟨_,_,_,rfl,⟨s1,s2,fun _=>rfl,fun hb=>?_⟩,by omega,hm⟩;have s4:=s4 hb;unfold pG vC;cases hp:uG b with
  | none=>rfl
  | some v =>
   obtain ⟨v,r⟩:=v;rw [hp] at s4;obtain ⟨rfl,rfl,rfl⟩:=s4;rw [zbs];simp only;rw [if_neg hc];trivial
theorem VA {b:List Int} {bad:Bool} (h:vN b):∃ a b' d,r8 281474976710656 ⟨b,bad⟩=some (a,⟨b',d⟩)/\qS pU b bad a b' d:=by
 obtain ⟨a1,b1,d1,e1,s1⟩:=cO (bad:=bad) h;obtain ⟨a2,b2,d2,e2,s2⟩:=cO (bad:=d1) s1.1;obtain ⟨a3,b3,d3,e3,s3⟩:=cO (bad:=d2) s2.1;obtain ⟨a4,b4,d4,e4,s4⟩:=cO (bad:=d3) s3.1;obtain ⟨a5,b5,d5,e5,s5⟩:=cO (bad:=d4) s4.1;unfold r8;simp only [e1,e2,e3,e4,e5,zbs];exact ⟨_,_,_,rfl,s1.comb (s2.comb (s3.comb (s4.comb (s5.comb (.pure s5.1)))))⟩
theorem zF7 {r:Int×uD}:∀ (k m i:Nat) (b:List Int) (bad:Bool) (row:List xI),r.1=((i+k:Nat):Int)->i+k<=1000->k<m->vN b->row.length+k<=1000 ->
  ∃ b' d ts,B0 281474976710656 r m (i:Nat) b bad row=some (b',d,row++ts)/\qS (jN mN k) b bad ts b' d:=by
 intro k
 induction k with
 | zero =>
  intro m i b bad row hr hi hm hb hl;cases m with
  | zero=>omega
  | succ m =>
   refine ⟨b,bad,[],?_,.pure hb⟩;show lG _ _ _ _ _ _ _=_;unfold lG;rw [yP (by omega),cond_false,List.append_nil]
 | succ k ih =>
  intro m i b bad row hr hi hm hb hl;cases m with
  | zero=>omega
  | succ m =>
   show ∃ b' d ts,lG _ _ _ _ _ _ _=_/\_;unfold lG;obtain ⟨a1,b1,d1,e1,s1⟩:=cO (bad:=bad) hb;obtain ⟨a2,b2,d2,e2,s2⟩:=zEB (bad:=d1) s1.1;obtain ⟨a3,b3,d3,e3,s3⟩:=cO (bad:=d2) s2.1;rw [yN (by omega),cond_true];simp only [e1,e2,e3,zbs];rw [xQ (by simp only [zls];omega),zbs,wX (by omega)];obtain ⟨b',d,ts,e,s⟩:=ih m (i+1) b3 d3 (row++[⟨a1,a2,a3⟩]) (by omega) (by omega) (by omega) s3.1 (by simp;omega);refine ⟨b',d,⟨a1,a2,a3⟩::ts,by rw [e];simp,?_⟩;have hx:qS mN b bad (⟨a1,a2,a3⟩:xI) b3 d3:=s1.comb (s2.comb (s3.comb (.pure s3.1)));exact hx.comb (s.comb (.pure s.1))
theorem zIp {r:Int×uD}:∀ (k m i:Nat) (b:List Int) (bad:Bool) (row:List xA),r.1=((i+k:Nat):Int)->i+k<=1000->k<m->vN b->row.length+k<=1000 ->
  ∃ b' d ts,rT 281474976710656 r m (i:Nat) b bad row=some (b',d,row++ts)/\qS (jN fL k) b bad ts b' d:=by
 intro k
 induction k with
 | zero =>
  intro m i b bad row hr hi hm hb hl;cases m with
  | zero=>omega
  | succ m =>
   refine ⟨b,bad,[],?_,.pure hb⟩;show oA _ _ _ _ _ _ _=_;unfold oA;rw [yP (by omega),cond_false,List.append_nil]
 | succ k ih =>
  intro m i b bad row hr hi hm hb hl;cases m with
  | zero=>omega
  | succ m =>
   show ∃ b' d ts,oA _ _ _ _ _ _ _=_/\_;unfold oA;obtain ⟨a1,b1,d1,e1,s1⟩:=cO (bad:=bad) hb;obtain ⟨a3,b3,d3,e3,s3⟩:=cO (bad:=d1) s1.1;rw [yN (by omega),cond_true];simp only [e1,e3,zbs];rw [xQ (by simp only [zls];omega),zbs,wX (by omega)];obtain ⟨b',d,ts,e,s⟩:=ih m (i+1) b3 d3 (row++[⟨a1,a3⟩]) (by omega) (by omega) (by omega) s3.1 (by simp;omega);refine ⟨b',d,⟨a1,a3⟩::ts,by rw [e];simp,?_⟩;have hx:qS fL b bad (⟨a1,a3⟩:xA) b3 d3:=s1.comb (s3.comb (.pure s3.1));exact hx.comb (s.comb (.pure s.1))
theorem zFU {r:Int×uD}:∀ (k m i:Nat) (b:List Int) (bad:Bool) (row:List yZ),r.1=((i+k:Nat):Int)->i+k<=1000->k<m->vN b->row.length+k<=1000 ->
  ∃ b' d ts,AA 281474976710656 r m (i:Nat) b bad row=some (b',d,row++ts)/\qS (jN pU k) b bad ts b' d:=by
 intro k
 induction k with
 | zero =>
  intro m i b bad row hr hi hm hb hl;cases m with
  | zero=>omega
  | succ m =>
   refine ⟨b,bad,[],?_,.pure hb⟩;show rL _ _ _ _ _ _ _=_;unfold rL;rw [yP (by omega),cond_false,List.append_nil]
 | succ k ih =>
  intro m i b bad row hr hi hm hb hl;cases m with
  | zero=>omega
  | succ m =>
   show ∃ b' d ts,rL _ _ _ _ _ _ _=_/\_;unfold rL;obtain ⟨a1,b3,d3,e1,s1⟩:=VA (bad:=bad) hb;rw [yN (by omega),cond_true];simp only [e1,zbs];rw [xQ (by simp only [zls];omega),zbs,wX (by omega)];obtain ⟨b',d,ts,e,s⟩:=ih m (i+1) b3 d3 (row++[a1]) (by omega) (by omega) (by omega) s1.1 (by simp;omega);refine ⟨b',d,a1::ts,by rw [e];simp,?_⟩;exact s1.comb (s.comb (.pure s.1))
theorem bH {b:List Int} {bad:Bool} (h:vN b):∃ a b' d,nA 281474976710656 ⟨b,bad⟩=some (a,⟨b',d⟩)/\qS uG b bad a b' d:=by
 have hv:=cJ (i:=0) (u:=0) h.1 (by omega) (by omega) (by decide);have h2:=h.2;unfold nA;simp only;rw [M1 h.1 (by omega) (by omega),zbs]
 by_cases he:(vrd b 0 0).2.2=0
 ·have hr:=hv.2.1 he;rw [x7 he,cond_false,xQ (by omega),zbs];refine ⟨_,_,_,rfl,?_⟩;rw [b8 (by omega)];refine ⟨h.drop _,by rw [List.length_drop];omega,fun hb=>hb,fun hb=>?_⟩;rw [LB he];exact ⟨rfl,rfl,hb⟩
 ·rw [xX he,cond_true];refine ⟨_,_,_,rfl,?_⟩;refine ⟨h,Nat.le_refl _,fun _=>rfl,fun hb=>?_⟩;rw [HQ he]
theorem zCI {b:List Int} {bad:Bool} (h:vN b):∃ a b' d,D6 281474976710656 ⟨b,bad⟩=some (a,⟨b',d⟩)/\qS cZ b bad a b' d:=by
 obtain ⟨t1,t2⟩:=W6 h.1;have h2:=h.2;unfold D6;simp only;rw [zAB h.1 (by omega) (by omega) (by omega),zbs]
 by_cases he:(txt b 40).2.2=0
 ·obtain ⟨r1,r2,r3⟩:=t1 he;rw [x7 he,cond_false,xQ ⟨r1,r2⟩,zbs];refine ⟨_,_,_,rfl,?_⟩;rw [b8 r1];refine ⟨h.drop _,by rw [List.length_drop];omega,fun hb=>hb,fun hb=>?_⟩;rw [r3];exact ⟨rfl,rfl,hb⟩
 ·rw [xX he,cond_true];refine ⟨_,_,_,rfl,?_⟩;refine ⟨h,Nat.le_refl _,fun _=>rfl,fun hb=>?_⟩;rw [t2 he]
theorem SF {b:List Int} {bad:Bool} {most:Int} (h:vN b) (hm:0<=most):∃ a b' d,mX 281474976710656 ⟨b,bad⟩ most=some (a,⟨b',d⟩)/\qS (pG most) b bad a b' d/\0<=a/\a<=most:=by
 obtain ⟨a,b1,d,e1,s1,s2,s3,s4⟩:=bH (bad:=bad) h;unfold mX;rw [e1,zbs]
 by_cases hc:0<=a/\a<=most
 ·rw [show (decide (a<(0:Int))||decide (a>most))=false by rw [yP (by omega),yP (by omega)];rfl,cond_false];refine ⟨_,_,_,rfl,⟨s1,s2,s3,fun hb=>?_⟩,hc⟩;have s4:=s4 hb;unfold pG vC;cases hp:uG b with
  | none=>rw [hp] at s4;exact s4
  | some v =>
   obtain ⟨v,r⟩:=v;rw [hp] at s4;obtain ⟨rfl,rfl,rfl⟩:=s4;rw [zbs];simp [hc]
 ·rw [show (decide (a<(0:Int))||decide (a>most))=true by
   by_cases h0:a<0
   ·rw [yN h0];rfl
   ·rw [yN (show a>most by omega),Bool.or_true],cond_true]
  refine ⟨_,_,_,rfl,⟨s1,s2,fun _=>rfl,fun hb=>?_⟩,by omega,hm⟩;have s4:=s4 hb;unfold pG vC;cases hp:uG b with
  | none=>rfl
  | some v =>
   obtain ⟨v,r⟩:=v;rw [hp] at s4;obtain ⟨rfl,rfl,rfl⟩:=s4;rw [zbs];simp only;rw [if_neg hc];trivial
theorem X8 {b:List Int} {bad:Bool} (h:vN b):∃ a b' d,BY 281474976710656 ⟨b,bad⟩=some (a,⟨b',d⟩)/\qS pU b bad a b' d:=by
 obtain ⟨a1,b1,d1,e1,s1⟩:=bH (bad:=bad) h;obtain ⟨a2,b2,d2,e2,s2⟩:=bH (bad:=d1) s1.1;obtain ⟨a3,b3,d3,e3,s3⟩:=bH (bad:=d2) s2.1;obtain ⟨a4,b4,d4,e4,s4⟩:=bH (bad:=d3) s3.1;obtain ⟨a5,b5,d5,e5,s5⟩:=bH (bad:=d4) s4.1;unfold BY;simp only [e1,e2,e3,e4,e5,zbs];exact ⟨_,_,_,rfl,s1.comb (s2.comb (s3.comb (s4.comb (s5.comb (.pure s5.1)))))⟩
theorem zIx {r:Int×uE}:∀ (k m i:Nat) (b:List Int) (bad:Bool) (row:List xI),r.1=((i+k:Nat):Int)->i+k<=1000->k<m->vN b->row.length+k<=1000 ->
  ∃ b' d ts,BD 281474976710656 r m (i:Nat) b bad row=some (b',d,row++ts)/\qS (jN mN k) b bad ts b' d:=by
 intro k
 induction k with
 | zero =>
  intro m i b bad row hr hi hm hb hl;cases m with
  | zero=>omega
  | succ m =>
   refine ⟨b,bad,[],?_,.pure hb⟩;show m3 _ _ _ _ _ _ _=_;unfold m3;rw [yP (by omega),Bool.false_and,cond_false,List.append_nil]
 | succ k ih =>
  intro m i b bad row hr hi hm hb hl;cases m with
  | zero=>omega
  | succ m =>
   show ∃ b' d ts,m3 _ _ _ _ _ _ _=_/\_;unfold m3;cases bad with
   | true =>
    rw [Bool.not_true,Bool.and_false,cond_false];exact ⟨b,true,[],by rw [List.append_nil],.bad hb (Nat.le_refl _)⟩
   | false =>
    obtain ⟨a1,b1,d1,e1,s1⟩:=bH (bad:=false) hb;obtain ⟨a2,b2,d2,e2,s2⟩:=zCI (bad:=d1) s1.1;obtain ⟨a3,b3,d3,e3,s3⟩:=bH (bad:=d2) s2.1;rw [yN (by omega),Bool.not_false,Bool.and_self,cond_true];simp only [e1,e2,e3,zbs];rw [xQ (by simp only [zls];omega),zbs,wX (by omega)];obtain ⟨b',d,ts,e,s⟩:=ih m (i+1) b3 d3 (row++[⟨a1,a2,a3⟩]) (by omega) (by omega) (by omega) s3.1 (by simp;omega);refine ⟨b',d,⟨a1,a2,a3⟩::ts,by rw [e];simp,?_⟩;have hx:qS mN b false (⟨a1,a2,a3⟩:xI) b3 d3:=s1.comb (s2.comb (s3.comb (.pure s3.1)));exact hx.comb (s.comb (.pure s.1))
theorem zDn {r:Int×uE}:∀ (k m i:Nat) (b:List Int) (bad:Bool) (row:List xA),r.1=((i+k:Nat):Int)->i+k<=1000->k<m->vN b->row.length+k<=1000 ->
  ∃ b' d ts,CD 281474976710656 r m (i:Nat) b bad row=some (b',d,row++ts)/\qS (jN fL k) b bad ts b' d:=by
 intro k
 induction k with
 | zero =>
  intro m i b bad row hr hi hm hb hl;cases m with
  | zero=>omega
  | succ m =>
   refine ⟨b,bad,[],?_,.pure hb⟩;show o3 _ _ _ _ _ _ _=_;unfold o3;rw [yP (by omega),Bool.false_and,cond_false,List.append_nil]
 | succ k ih =>
  intro m i b bad row hr hi hm hb hl;cases m with
  | zero=>omega
  | succ m =>
   show ∃ b' d ts,o3 _ _ _ _ _ _ _=_/\_;unfold o3;cases bad with
   | true =>
    rw [Bool.not_true,Bool.and_false,cond_false];exact ⟨b,true,[],by rw [List.append_nil],.bad hb (Nat.le_refl _)⟩
   | false =>
    obtain ⟨a1,b1,d1,e1,s1⟩:=bH (bad:=false) hb;obtain ⟨a3,b3,d3,e3,s3⟩:=bH (bad:=d1) s1.1;rw [yN (by omega),Bool.not_false,Bool.and_self,cond_true];simp only [e1,e3,zbs];rw [xQ (by simp only [zls];omega),zbs,wX (by omega)];obtain ⟨b',d,ts,e,s⟩:=ih m (i+1) b3 d3 (row++[⟨a1,a3⟩]) (by omega) (by omega) (by omega) s3.1 (by simp;omega);refine ⟨b',d,⟨a1,a3⟩::ts,by rw [e];simp,?_⟩;have hx:qS fL b false (⟨a1,a3⟩:xA) b3 d3:=s1.comb (s3.comb (.pure s3.1));exact hx.comb (s.comb (.pure s.1))
theorem zB4 {r:Int×uE}:∀ (k m i:Nat) (b:List Int) (bad:Bool) (row:List yZ),r.1=((i+k:Nat):Int)->i+k<=1000->k<m->vN b->row.length+k<=1000 ->
  ∃ b' d ts,AB 281474976710656 r m (i:Nat) b bad row=some (b',d,row++ts)/\qS (jN pU k) b bad ts b' d:=by
 intro k
 induction k with
 | zero =>
  intro m i b bad row hr hi hm hb hl;cases m with
  | zero=>omega
  | succ m =>
   refine ⟨b,bad,[],?_,.pure hb⟩;show oM _ _ _ _ _ _ _=_;unfold oM;rw [yP (by omega),Bool.false_and,cond_false,List.append_nil]
 | succ k ih =>
  intro m i b bad row hr hi hm hb hl;cases m with
  | zero=>omega
  | succ m =>
   show ∃ b' d ts,oM _ _ _ _ _ _ _=_/\_;unfold oM;cases bad with
   | true =>
    rw [Bool.not_true,Bool.and_false,cond_false];exact ⟨b,true,[],by rw [List.append_nil],.bad hb (Nat.le_refl _)⟩
   | false =>
    obtain ⟨a1,b3,d3,e1,s1⟩:=X8 (bad:=false) hb;rw [yN (by omega),Bool.not_false,Bool.and_self,cond_true];simp only [e1,zbs];rw [xQ (by simp only [zls];omega),zbs,wX (by omega)];obtain ⟨b',d,ts,e,s⟩:=ih m (i+1) b3 d3 (row++[a1]) (by omega) (by omega) (by omega) s1.1 (by simp;omega);refine ⟨b',d,a1::ts,by rw [e];simp,?_⟩;exact s1.comb (s.comb (.pure s.1))
end Go.Ab
