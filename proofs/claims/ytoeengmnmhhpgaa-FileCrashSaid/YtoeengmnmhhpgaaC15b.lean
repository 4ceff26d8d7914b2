/- Plain laws of the functions wU this seat's, laid anew from another seat's text. No conditions but those that the theorems name. -/
import Derived.Test.YtoeengmnmhhpgaaP15xD
import Derived.Test.YtoeengmnmhhpgaaR15
import Derived.Test.YtoeengmnmhhpgaaB15a
import Derived.Test.YtoeengmnmhhpgaaB15b
import Derived.Test.YtoeengmnmhhpgaaB15c
import Derived.Test.YtoeengmnmhhpgaaB15d
import Derived.Test.YtoeengmnmhhpgaaB15e
import Derived.Test.YtoeengmnmhhpgaaB15f
import Derived.Test.YtoeengmnmhhpgaaB15g
import Derived.Test.YtoeengmnmhhpgaaB15h
import Derived.Test.YtoeengmnmhhpgaaB15i
import Derived.Test.YtoeengmnmhhpgaaB15j
import Derived.Test.YtoeengmnmhhpgaaB15k
import Derived.Test.YtoeengmnmhhpgaaB15t
import Derived.Test.YtoeengmnmhhpgaaB15m
import Derived.Test.YtoeengmnmhhpgaaB15n
import Derived.Test.YtoeengmnmhhpgaaB15o
import Derived.Test.YtoeengmnmhhpgaaC15a
namespace Go.Ab
open Go
set_option linter.unusedVariables false
def k8 {α:Type} (p:List Int→Option (α×List Int)) (b:List Int) (bad:Bool) (a:α) (b':List Int) (bad':Bool):Prop :=
 wI b'∧b'.length≤b.length∧(bad=true→bad'=true)∧(bad=false→match p b with | some (v,r)=>a=v∧b'=r∧bad'=false | none=>bad'=true)
theorem k8.pure {α:Type} {x:α} {b:List Int} {bad:Bool} (h:wI b):k8 (u6 x) b bad x b bad:=⟨h,Nat.le_refl _,fun h=>h,fun h=>⟨rfl,rfl,h⟩⟩
theorem k8.comb {α β:Type} {p:List Int→Option (α×List Int)} {q:α→List Int→Option (β×List Int)} {b b1 b2:List Int} {bad d1 d2:Bool} {a:α} {c:β}
  (h1:k8 p b bad a b1 d1) (h2:k8 (q a) b1 d1 c b2 d2):k8 (wE p q) b bad c b2 d2:=by
 obtain ⟨x1,x2,x3,x4⟩:=h1
 obtain ⟨y1,y2,y3,y4⟩:=h2
 refine ⟨y1,Nat.le_trans y2 x2,fun h=>y3 (x3 h),fun h=>?_⟩
 have x4:=x4 h
 unfold wE
 cases hp:p b with
 | none=>rw [hp] at x4;exact y3 x4
 | some v =>
  obtain ⟨v,r⟩:=v
  rw [hp] at x4
  obtain ⟨rfl,rfl,rfl⟩:=x4
  exact y4 rfl
theorem EZ {b:List Int} (he:(vrd b 0 0).2.2=0):vM b=some ((vrd b 0 0).1,b.drop (vrd b 0 0).2.1.toNat):=if_pos he
theorem EX {b:List Int} (he:(vrd b 0 0).2.2≠0):vM b=none:=if_neg he
theorem zAD {b:List Int} (hb:∀ x∈b,xO x):((txt b 40).2.2=0→0≤(txt b 40).2.1∧(txt b 40).2.1≤b.length∧dM b=some ((txt b 40).1,b.drop (txt b 40).2.1.toNat))∧((txt b 40).2.2≠0→dM b=none):=by
 have hv:=dI (i:=0) (u:=0) hb (by omega) (by omega) (by decide)
 unfold txt dM wE
 simp only
 by_cases he:(vrd b 0 0).2.2≠0
 ·rw [if_pos he,EX he]
  exact ⟨fun h=>absurd h he,fun _=>rfl⟩
 have he:(vrd b 0 0).2.2=0:=by omega
 have hr:=hv.2.1 he
 rw [if_neg (by omega),EZ he,zbs]
 simp only
 by_cases h1:(vrd b 0 0).1<0
 ·rw [if_pos h1,if_neg (by omega)];simp
 rw [if_neg h1]
 by_cases h2:(vrd b 0 0).1>40
 ·rw [if_pos h2,if_neg (by omega)];simp
 rw [if_neg h2]
 by_cases h3:(vrd b 0 0).1>b.length - (vrd b 0 0).2.1
 ·rw [if_pos h3,if_neg (by rw [List.length_drop];omega)];simp
 rw [if_neg h3,if_pos (by rw [List.length_drop];omega)]
 refine ⟨fun _=>⟨by simp only;omega,by simp only;omega,?_⟩,fun h=>absurd rfl h⟩
 simp only
 congr 2
 ·unfold sub
  rw [List.drop_take,show ((vrd b 0 0).2.1+(vrd b 0 0).1).toNat - (vrd b 0 0).2.1.toNat=(vrd b 0 0).1.toNat by omega]
 ·rw [List.drop_drop,show (vrd b 0 0).2.1.toNat+(vrd b 0 0).1.toNat=((vrd b 0 0).2.1+(vrd b 0 0).1).toNat by omega]
theorem bU {b:List Int} {bad:Bool} (h:wI b):∃ a b' d,pW 281474976710656 ⟨b,bad⟩=some (a,⟨b',d⟩)∧k8 vM b bad a b' d:=by
 have hv:=dI (i:=0) (u:=0) h.1 (by omega) (by omega) (by decide)
 have h2:=h.2
 unfold pW
 simp only
 rw [oP h.1 (by omega) (by omega),zbs]
 by_cases he:(vrd b 0 0).2.2=0
 ·have hr:=hv.2.1 he
  rw [x8 he,cond_false,x7 (by omega),zbs]
  refine ⟨_,_,_,rfl,?_⟩
  rw [oT (by omega)]
  refine ⟨h.drop _,by rw [List.length_drop];omega,fun hb=>hb,fun hb=>?_⟩
  rw [EZ he];exact ⟨rfl,rfl,hb⟩
 ·rw [wA he,cond_true]
  refine ⟨_,_,_,rfl,?_⟩
  refine ⟨.nil,by simp,fun _=>rfl,fun hb=>?_⟩
  rw [EX he]
theorem YL {b:List Int} {bad:Bool} (h:wI b):∃ a b' d,DY 281474976710656 ⟨b,bad⟩=some (a,⟨b',d⟩)∧k8 dM b bad a b' d:=by
 obtain ⟨t1,t2⟩:=zAD h.1
 have h2:=h.2
 unfold DY
 simp only
 rw [UY h.1 (by omega) (by omega) , zbs]
 by_cases he:(txt b 40).2.2=0
 ·obtain ⟨r1,r2,r3⟩:=t1 he
  rw [x8 he,cond_false,x7 ⟨r1,r2⟩,zbs]
  refine ⟨_,_,_,rfl,?_⟩
  rw [oT r1]
  refine ⟨h.drop _,by rw [List.length_drop];omega,fun hb=>hb,fun hb=>?_⟩
  rw [r3];exact ⟨rfl,rfl,hb⟩
 ·rw [wA he,cond_true]
  refine ⟨_,_,_,rfl,?_⟩
  refine ⟨.nil,by simp,fun _=>rfl,fun hb=>?_⟩
  rw [t2 he]
theorem ME {b:List Int} {bad:Bool} {most:Int} (h:wI b) (hm:0≤most):∃ a b' d,gZ 281474976710656 ⟨b,bad⟩ most=some (a,⟨b',d⟩)∧k8 (pR most) b bad a b' d∧0≤a∧a≤most:=by
 obtain ⟨a,b1,d,e1,s1,s2,s3,s4⟩:=bU (bad:=bad) h
 unfold gZ
 rw [e1,zbs]
 by_cases hc:0≤a∧a≤most
 ·rw [show (decide (a<(0:Int))||decide (a>most))=false by rw [yO (by omega),yO (by omega)];rfl,cond_false]
  refine ⟨_,_,_,rfl,⟨s1,s2,s3,fun hb=>?_⟩,hc⟩
  have s4:=s4 hb
  unfold pR wE
  cases hp:vM b with
  | none=>rw [hp] at s4;exact s4
  | some v =>
   obtain ⟨v,r⟩:=v
   rw [hp] at s4
   obtain ⟨rfl,rfl,rfl⟩:=s4
   rw [zbs]
   simp [hc]
 ·rw [show (decide (a<(0:Int))||decide (a>most))=true by
   by_cases h0:a<0
   ·rw [yU h0];rfl
   ·rw [yU (show a>most by omega),Bool.or_true],cond_true]
  refine ⟨_,_,_,rfl,⟨s1,s2,fun _=>rfl,fun hb=>?_⟩,by omega,hm⟩
  have s4:=s4 hb
  unfold pR wE
  cases hp:vM b with
  | none=>rfl
  | some v =>
   obtain ⟨v,r⟩:=v
   rw [hp] at s4
   obtain ⟨rfl,rfl,rfl⟩:=s4
   rw [zbs]
   simp only
   rw [if_neg hc]
   trivial
theorem UN {b:List Int} {bad:Bool} (h:wI b):∃ a b' d,rG 281474976710656 ⟨b,bad⟩=some (a,⟨b',d⟩)∧k8 pM b bad a b' d:=by
 obtain ⟨a1,b1,d1,e1,s1⟩:=bU (bad:=bad) h
 obtain ⟨a2,b2,d2,e2,s2⟩:=bU (bad:=d1) s1.1
 obtain ⟨a3,b3,d3,e3,s3⟩:=bU (bad:=d2) s2.1
 obtain ⟨a4,b4,d4,e4,s4⟩:=bU (bad:=d3) s3.1
 obtain ⟨a5,b5,d5,e5,s5⟩:=bU (bad:=d4) s4.1
 unfold rG
 simp only [e1,e2,e3,e4,e5,zbs]
 exact ⟨_,_,_,rfl,s1.comb (s2.comb (s3.comb (s4.comb (s5.comb (.pure s5.1)))))⟩
theorem zBx {r:Int×vB}:∀ (k m i:Nat) (b:List Int) (bad:Bool) (row:List xH),r.1=((i+k:Nat):Int)→i+k≤1000→k<m→wI b→row.length+k≤1000 →
  ∃ b' d ts,o9 281474976710656 r m (i:Nat) b bad row=some (b',d,row++ts)∧k8 (qS C6 k) b bad ts b' d:=by
 intro k
 induction k with
 | zero =>
  intro m i b bad row hr hi hm hb hl
  cases m with
  | zero=>omega
  | succ m =>
   refine ⟨b,bad,[],?_,.pure hb⟩
   show gD _ _ _ _ _ _ _=_
   unfold gD
   rw [yO (by omega),cond_false,List.append_nil]
 | succ k ih =>
  intro m i b bad row hr hi hm hb hl
  cases m with
  | zero=>omega
  | succ m =>
   show ∃ b' d ts,gD _ _ _ _ _ _ _=_∧_
   unfold gD
   obtain ⟨a1,b1,d1,e1,s1⟩:=bU (bad:=bad) hb
   obtain ⟨a2,b2,d2,e2,s2⟩:=YL (bad:=d1) s1.1
   obtain ⟨a3,b3,d3,e3,s3⟩:=bU (bad:=d2) s2.1
   rw [yU (by omega),cond_true]
   simp only [e1,e2,e3,zbs]
   rw [x7 (by simp only [zls];omega),zbs,vK (by omega)]
   obtain ⟨b',d,ts,e,s⟩:=ih m (i+1) b3 d3 (row++[⟨a1,a2,a3⟩]) (by omega) (by omega) (by omega) s3.1 (by simp;omega)
   refine ⟨b',d,⟨a1,a2,a3⟩::ts,by rw [e];simp,?_⟩
   have hx:k8 C6 b bad (⟨a1,a2,a3⟩:xH) b3 d3:=s1.comb (s2.comb (s3.comb (.pure s3.1)))
   exact hx.comb (s.comb (.pure s.1))
theorem zAk {r:Int×vB}:∀ (k m i:Nat) (b:List Int) (bad:Bool) (row:List y0),r.1=((i+k:Nat):Int)→i+k≤1000→k<m→wI b→row.length+k≤1000 →
  ∃ b' d ts,rT 281474976710656 r m (i:Nat) b bad row=some (b',d,row++ts)∧k8 (qS lB k) b bad ts b' d:=by
 intro k
 induction k with
 | zero =>
  intro m i b bad row hr hi hm hb hl
  cases m with
  | zero=>omega
  | succ m =>
   refine ⟨b,bad,[],?_,.pure hb⟩
   show lF _ _ _ _ _ _ _=_
   unfold lF
   rw [yO (by omega),cond_false,List.append_nil]
 | succ k ih =>
  intro m i b bad row hr hi hm hb hl
  cases m with
  | zero=>omega
  | succ m =>
   show ∃ b' d ts,lF _ _ _ _ _ _ _=_∧_
   unfold lF
   obtain ⟨a1,b1,d1,e1,s1⟩:=bU (bad:=bad) hb
   obtain ⟨a3,b3,d3,e3,s3⟩:=bU (bad:=d1) s1.1
   rw [yU (by omega),cond_true]
   simp only [e1,e3,zbs]
   rw [x7 (by simp only [zls];omega),zbs,vK (by omega)]
   obtain ⟨b',d,ts,e,s⟩:=ih m (i+1) b3 d3 (row++[⟨a1,a3⟩]) (by omega) (by omega) (by omega) s3.1 (by simp;omega)
   refine ⟨b',d,⟨a1,a3⟩::ts,by rw [e];simp,?_⟩
   have hx:k8 lB b bad (⟨a1,a3⟩:y0) b3 d3:=s1.comb (s3.comb (.pure s3.1))
   exact hx.comb (s.comb (.pure s.1))
theorem ZD {r:Int×vB}:∀ (k m i:Nat) (b:List Int) (bad:Bool) (row:List yQ),r.1=((i+k:Nat):Int)→i+k≤1000→k<m→wI b→row.length+k≤1000 →
  ∃ b' d ts,oS 281474976710656 r m (i:Nat) b bad row=some (b',d,row++ts)∧k8 (qS pM k) b bad ts b' d:=by
 intro k
 induction k with
 | zero =>
  intro m i b bad row hr hi hm hb hl
  cases m with
  | zero=>omega
  | succ m =>
   refine ⟨b,bad,[],?_,.pure hb⟩
   show lD _ _ _ _ _ _ _=_
   unfold lD
   rw [yO (by omega),cond_false,List.append_nil]
 | succ k ih =>
  intro m i b bad row hr hi hm hb hl
  cases m with
  | zero=>omega
  | succ m =>
   show ∃ b' d ts,lD _ _ _ _ _ _ _=_∧_
   unfold lD
   obtain ⟨a1,b3,d3,e1,s1⟩:=UN (bad:=bad) hb
   rw [yU (by omega),cond_true]
   simp only [e1,zbs]
   rw [x7 (by simp only [zls];omega),zbs,vK (by omega)]
   obtain ⟨b',d,ts,e,s⟩:=ih m (i+1) b3 d3 (row++[a1]) (by omega) (by omega) (by omega) s1.1 (by simp;omega)
   refine ⟨b',d,a1::ts,by rw [e];simp,?_⟩
   exact s1.comb (s.comb (.pure s.1))
end Go.Ab
