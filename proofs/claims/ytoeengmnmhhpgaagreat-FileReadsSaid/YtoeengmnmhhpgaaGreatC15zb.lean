/- Plain laws of the functions uV this seat's, laid anew from another seat's text. No conditions but those that the theorems name. -/
import Derived.Test.YtoeengmnmhhpgaaGreatP15zxD
import Derived.Test.YtoeengmnmhhpgaaGreatR15z
import Derived.Test.YtoeengmnmhhpgaaGreatB15za
import Derived.Test.YtoeengmnmhhpgaaGreatB15zb
import Derived.Test.YtoeengmnmhhpgaaGreatB15zc
import Derived.Test.YtoeengmnmhhpgaaGreatB15zd
import Derived.Test.YtoeengmnmhhpgaaGreatB15ze
import Derived.Test.YtoeengmnmhhpgaaGreatB15zf
import Derived.Test.YtoeengmnmhhpgaaGreatB15zg
import Derived.Test.YtoeengmnmhhpgaaGreatB15zh
import Derived.Test.YtoeengmnmhhpgaaGreatB15zi
import Derived.Test.YtoeengmnmhhpgaaGreatB15zj
import Derived.Test.YtoeengmnmhhpgaaGreatB15zk
import Derived.Test.YtoeengmnmhhpgaaGreatB15zt
import Derived.Test.YtoeengmnmhhpgaaGreatB15zm
import Derived.Test.YtoeengmnmhhpgaaGreatB15zn
import Derived.Test.YtoeengmnmhhpgaaGreatB15zo
import Derived.Test.YtoeengmnmhhpgaaGreatC15za
namespace Go.Ab
open Go
set_option linter.unusedVariables false
def qF {α:Type} (p:List Int→Option (α×List Int)) (b:List Int) (bad:Bool) (a:α) (b':List Int) (bad':Bool):Prop :=
 vV b'∧b'.length≤b.length∧(bad=true→bad'=true)∧(bad=false→match p b with | some (v,r)=>a=v∧b'=r∧bad'=false | none=>bad'=true)
theorem qF.pure {α:Type} {x:α} {b:List Int} {bad:Bool} (h:vV b):qF (qK x) b bad x b bad:=⟨h,Nat.le_refl _,fun h=>h,fun h=>⟨rfl,rfl,h⟩⟩
theorem qF.comb {α β:Type} {p:List Int→Option (α×List Int)} {q:α→List Int→Option (β×List Int)} {b b1 b2:List Int} {bad d1 d2:Bool} {a:α} {c:β}
  (h1:qF p b bad a b1 d1) (h2:qF (q a) b1 d1 c b2 d2):qF (wX p q) b bad c b2 d2:=by
 obtain ⟨x1,x2,x3,x4⟩:=h1
 obtain ⟨y1,y2,y3,y4⟩:=h2
 refine ⟨y1,Nat.le_trans y2 x2,fun h=>y3 (x3 h),fun h=>?_⟩
 have x4:=x4 h
 unfold wX
 cases hp:p b with
 | none=>rw [hp] at x4;exact y3 x4
 | some v =>
  obtain ⟨v,r⟩:=v
  rw [hp] at x4
  obtain ⟨rfl,rfl,rfl⟩:=x4
  exact y4 rfl
theorem qF.bad {α:Type} {p:List Int→Option (α×List Int)} {b b':List Int} {a:α} (h1:vV b') (h2:b'.length≤b.length):qF p b true a b' true:=⟨h1,h2,fun _=>rfl,fun h=>by cases h⟩
theorem GO {b:List Int} (he:(vrd b 0 0).2.2=0):v8 b=some ((vrd b 0 0).1,b.drop (vrd b 0 0).2.1.toNat):=if_pos he
theorem DC {b:List Int} (he:(vrd b 0 0).2.2≠0):v8 b=none:=if_neg he
theorem ST {b:List Int} (hb:∀ x∈b,x6 x):((txt b 40).2.2=0→0≤(txt b 40).2.1∧(txt b 40).2.1≤b.length∧cE b=some ((txt b 40).1,b.drop (txt b 40).2.1.toNat))∧((txt b 40).2.2≠0→cE b=none):=by
 have hv:=cJ (i:=0) (u:=0) hb (by omega) (by omega) (by decide)
 unfold txt cE wX
 simp only
 by_cases he:(vrd b 0 0).2.2≠0
 ·rw [if_pos he,DC he]
  exact ⟨fun h=>absurd h he,fun _=>rfl⟩
 have he:(vrd b 0 0).2.2=0:=by omega
 have hr:=hv.2.1 he
 rw [if_neg (by omega),GO he,zbs]
 simp only
 by_cases h1:(vrd b 0 0).1<0
 ·rw [if_pos h1,if_neg (by omega)];simp
 rw [if_neg h1]
 by_cases h2:(vrd b 0 0).1>40
 ·rw [if_pos h2,if_neg (by omega)];simp
 rw [if_neg h2]
 by_cases h3:(vrd b 0 0).1>b.length - (vrd b 0 0).2.1
 ·rw [if_pos h3,if_neg (by rw [List.length_drop];omega)];simp
 rw [if_neg h3,if_pos (by rw [List.length_drop];omega)]
 refine ⟨fun _=>⟨by simp only;omega,by simp only;omega,?_⟩,fun h=>absurd rfl h⟩
 simp only
 congr 2
 ·unfold sub
  rw [List.drop_take,show ((vrd b 0 0).2.1+(vrd b 0 0).1).toNat - (vrd b 0 0).2.1.toNat=(vrd b 0 0).1.toNat by omega]
 ·rw [List.drop_drop,show (vrd b 0 0).2.1.toNat+(vrd b 0 0).1.toNat=((vrd b 0 0).2.1+(vrd b 0 0).1).toNat by omega]
theorem cH {b:List Int} {bad:Bool} (h:vV b):∃ a b' d,nL 281474976710656 ⟨b,bad⟩=some (a,⟨b',d⟩)∧qF v8 b bad a b' d:=by
 have hv:=cJ (i:=0) (u:=0) h.1 (by omega) (by omega) (by decide)
 have h2:=h.2
 unfold nL
 simp only
 rw [m7 h.1 (by omega) (by omega),zbs]
 by_cases he:(vrd b 0 0).2.2=0
 ·have hr:=hv.2.1 he
  rw [wF he,cond_false,xZ (by omega),zbs]
  refine ⟨_,_,_,rfl,?_⟩
  rw [aV (by omega)]
  refine ⟨h.drop _,by rw [List.length_drop];omega,fun hb=>hb,fun hb=>?_⟩
  rw [GO he];exact ⟨rfl,rfl,hb⟩
 ·rw [wE he,cond_true]
  refine ⟨_,_,_,rfl,?_⟩
  refine ⟨.nil,by simp,fun _=>rfl,fun hb=>?_⟩
  rw [DC he]
theorem zGp {b:List Int} {bad:Bool} (h:vV b):∃ a b' d,HM 281474976710656 ⟨b,bad⟩=some (a,⟨b',d⟩)∧qF cE b bad a b' d:=by
 obtain ⟨t1,t2⟩:=ST h.1
 have h2:=h.2
 unfold HM
 simp only
 rw [QY h.1 (by omega) (by omega) , zbs]
 by_cases he:(txt b 40).2.2=0
 ·obtain ⟨r1,r2,r3⟩:=t1 he
  rw [wF he,cond_false,xZ ⟨r1,r2⟩,zbs]
  refine ⟨_,_,_,rfl,?_⟩
  rw [aV r1]
  refine ⟨h.drop _,by rw [List.length_drop];omega,fun hb=>hb,fun hb=>?_⟩
  rw [r3];exact ⟨rfl,rfl,hb⟩
 ·rw [wE he,cond_true]
  refine ⟨_,_,_,rfl,?_⟩
  refine ⟨.nil,by simp,fun _=>rfl,fun hb=>?_⟩
  rw [t2 he]
theorem OQ {b:List Int} {bad:Bool} {most:Int} (h:vV b) (hm:0≤most):∃ a b' d,lD 281474976710656 ⟨b,bad⟩ most=some (a,⟨b',d⟩)∧qF (kN most) b bad a b' d∧0≤a∧a≤most:=by
 obtain ⟨a,b1,d,e1,s1,s2,s3,s4⟩:=cH (bad:=bad) h
 unfold lD
 rw [e1,zbs]
 by_cases hc:0≤a∧a≤most
 ·rw [show (decide (a<(0:Int))||decide (a>most))=false by rw [yM (by omega),yM (by omega)];rfl,cond_false]
  refine ⟨_,_,_,rfl,⟨s1,s2,s3,fun hb=>?_⟩,hc⟩
  have s4:=s4 hb
  unfold kN wX
  cases hp:v8 b with
  | none=>rw [hp] at s4;exact s4
  | some v =>
   obtain ⟨v,r⟩:=v
   rw [hp] at s4
   obtain ⟨rfl,rfl,rfl⟩:=s4
   rw [zbs]
   simp [hc]
 ·rw [show (decide (a<(0:Int))||decide (a>most))=true by
   by_cases h0:a<0
   ·rw [yP h0];rfl
   ·rw [yP (show a>most by omega),Bool.or_true],cond_true]
  refine ⟨_,_,_,rfl,⟨s1,s2,fun _=>rfl,fun hb=>?_⟩,by omega,hm⟩
  have s4:=s4 hb
  unfold kN wX
  cases hp:v8 b with
  | none=>rfl
  | some v =>
   obtain ⟨v,r⟩:=v
   rw [hp] at s4
   obtain ⟨rfl,rfl,rfl⟩:=s4
   rw [zbs]
   simp only
   rw [if_neg hc]
   trivial
theorem U5 {b:List Int} {bad:Bool} (h:vV b):∃ a b' d,AT 281474976710656 ⟨b,bad⟩=some (a,⟨b',d⟩)∧qF kV b bad a b' d:=by
 obtain ⟨a1,b1,d1,e1,s1⟩:=cH (bad:=bad) h
 obtain ⟨a2,b2,d2,e2,s2⟩:=cH (bad:=d1) s1.1
 obtain ⟨a3,b3,d3,e3,s3⟩:=cH (bad:=d2) s2.1
 obtain ⟨a4,b4,d4,e4,s4⟩:=cH (bad:=d3) s3.1
 obtain ⟨a5,b5,d5,e5,s5⟩:=cH (bad:=d4) s4.1
 unfold AT
 simp only [e1,e2,e3,e4,e5,zbs]
 exact ⟨_,_,_,rfl,s1.comb (s2.comb (s3.comb (s4.comb (s5.comb (.pure s5.1)))))⟩
theorem zFm {r:Int×v4}:∀ (k m i:Nat) (b:List Int) (bad:Bool) (row:List y7),r.1=((i+k:Nat):Int)→i+k≤1000→k<m→vV b→row.length+k≤1000 →
  ∃ b' d ts,rF 281474976710656 r m (i:Nat) b bad row=some (b',d,row++ts)∧qF (jA mS k) b bad ts b' d:=by
 intro k
 induction k with
 | zero =>
  intro m i b bad row hr hi hm hb hl
  cases m with
  | zero=>omega
  | succ m =>
   refine ⟨b,bad,[],?_,.pure hb⟩
   show iI _ _ _ _ _ _ _=_
   unfold iI
   rw [yM (by omega),cond_false,List.append_nil]
 | succ k ih =>
  intro m i b bad row hr hi hm hb hl
  cases m with
  | zero=>omega
  | succ m =>
   show ∃ b' d ts,iI _ _ _ _ _ _ _=_∧_
   unfold iI
   obtain ⟨a1,b1,d1,e1,s1⟩:=cH (bad:=bad) hb
   obtain ⟨a2,b2,d2,e2,s2⟩:=zGp (bad:=d1) s1.1
   obtain ⟨a3,b3,d3,e3,s3⟩:=cH (bad:=d2) s2.1
   rw [yP (by omega),cond_true]
   simp only [e1,e2,e3,zbs]
   rw [xZ (by simp only [List.length_singleton];omega),zbs,wW (by omega)]
   obtain ⟨b',d,ts,e,s⟩:=ih m (i+1) b3 d3 (row++[⟨a1,a2,a3⟩]) (by omega) (by omega) (by omega) s3.1 (by simp;omega)
   refine ⟨b',d,⟨a1,a2,a3⟩::ts,by rw [e];simp,?_⟩
   have hx:qF mS b bad (⟨a1,a2,a3⟩:y7) b3 d3:=s1.comb (s2.comb (s3.comb (.pure s3.1)))
   exact hx.comb (s.comb (.pure s.1))
theorem zBl {r:Int×v4}:∀ (k m i:Nat) (b:List Int) (bad:Bool) (row:List yS),r.1=((i+k:Nat):Int)→i+k≤1000→k<m→vV b→row.length+k≤1000 →
  ∃ b' d ts,BS 281474976710656 r m (i:Nat) b bad row=some (b',d,row++ts)∧qF (jA dQ k) b bad ts b' d:=by
 intro k
 induction k with
 | zero =>
  intro m i b bad row hr hi hm hb hl
  cases m with
  | zero=>omega
  | succ m =>
   refine ⟨b,bad,[],?_,.pure hb⟩
   show mA _ _ _ _ _ _ _=_
   unfold mA
   rw [yM (by omega),cond_false,List.append_nil]
 | succ k ih =>
  intro m i b bad row hr hi hm hb hl
  cases m with
  | zero=>omega
  | succ m =>
   show ∃ b' d ts,mA _ _ _ _ _ _ _=_∧_
   unfold mA
   obtain ⟨a1,b1,d1,e1,s1⟩:=cH (bad:=bad) hb
   obtain ⟨a3,b3,d3,e3,s3⟩:=cH (bad:=d1) s1.1
   rw [yP (by omega),cond_true]
   simp only [e1,e3,zbs]
   rw [xZ (by simp only [List.length_singleton];omega),zbs,wW (by omega)]
   obtain ⟨b',d,ts,e,s⟩:=ih m (i+1) b3 d3 (row++[⟨a1,a3⟩]) (by omega) (by omega) (by omega) s3.1 (by simp;omega)
   refine ⟨b',d,⟨a1,a3⟩::ts,by rw [e];simp,?_⟩
   have hx:qF dQ b bad (⟨a1,a3⟩:yS) b3 d3:=s1.comb (s3.comb (.pure s3.1))
   exact hx.comb (s.comb (.pure s.1))
theorem zDk {r:Int×v4}:∀ (k m i:Nat) (b:List Int) (bad:Bool) (row:List yU),r.1=((i+k:Nat):Int)→i+k≤1000→k<m→vV b→row.length+k≤1000 →
  ∃ b' d ts,B3 281474976710656 r m (i:Nat) b bad row=some (b',d,row++ts)∧qF (jA kV k) b bad ts b' d:=by
 intro k
 induction k with
 | zero =>
  intro m i b bad row hr hi hm hb hl
  cases m with
  | zero=>omega
  | succ m =>
   refine ⟨b,bad,[],?_,.pure hb⟩
   show lI _ _ _ _ _ _ _=_
   unfold lI
   rw [yM (by omega),cond_false,List.append_nil]
 | succ k ih =>
  intro m i b bad row hr hi hm hb hl
  cases m with
  | zero=>omega
  | succ m =>
   show ∃ b' d ts,lI _ _ _ _ _ _ _=_∧_
   unfold lI
   obtain ⟨a1,b3,d3,e1,s1⟩:=U5 (bad:=bad) hb
   rw [yP (by omega),cond_true]
   simp only [e1,zbs]
   rw [xZ (by simp only [List.length_singleton];omega),zbs,wW (by omega)]
   obtain ⟨b',d,ts,e,s⟩:=ih m (i+1) b3 d3 (row++[a1]) (by omega) (by omega) (by omega) s1.1 (by simp;omega)
   refine ⟨b',d,a1::ts,by rw [e];simp,?_⟩
   exact s1.comb (s.comb (.pure s.1))
theorem aI {b:List Int} {bad:Bool} (h:vV b):∃ a b' d,pP 281474976710656 ⟨b,bad⟩=some (a,⟨b',d⟩)∧qF v8 b bad a b' d:=by
 have hv:=cJ (i:=0) (u:=0) h.1 (by omega) (by omega) (by decide)
 have h2:=h.2
 unfold pP
 simp only
 rw [KW h.1 (by omega) (by omega),zbs]
 by_cases he:(vrd b 0 0).2.2=0
 ·have hr:=hv.2.1 he
  rw [wF he,cond_false,xZ (by omega),zbs]
  refine ⟨_,_,_,rfl,?_⟩
  rw [aV (by omega)]
  refine ⟨h.drop _,by rw [List.length_drop];omega,fun hb=>hb,fun hb=>?_⟩
  rw [GO he];exact ⟨rfl,rfl,hb⟩
 ·rw [wE he,cond_true]
  refine ⟨_,_,_,rfl,?_⟩
  refine ⟨h,Nat.le_refl _,fun _=>rfl,fun hb=>?_⟩
  rw [DC he]
theorem zDp {b:List Int} {bad:Bool} (h:vV b):∃ a b' d,EL 281474976710656 ⟨b,bad⟩=some (a,⟨b',d⟩)∧qF cE b bad a b' d:=by
 obtain ⟨t1,t2⟩:=ST h.1
 have h2:=h.2
 unfold EL
 simp only
 rw [S9 h.1 (by omega) (by omega) (by omega),zbs]
 by_cases he:(txt b 40).2.2=0
 ·obtain ⟨r1,r2,r3⟩:=t1 he
  rw [wF he,cond_false,xZ ⟨r1,r2⟩,zbs]
  refine ⟨_,_,_,rfl,?_⟩
  rw [aV r1]
  refine ⟨h.drop _,by rw [List.length_drop];omega,fun hb=>hb,fun hb=>?_⟩
  rw [r3];exact ⟨rfl,rfl,hb⟩
 ·rw [wE he,cond_true]
  refine ⟨_,_,_,rfl,?_⟩
  refine ⟨h,Nat.le_refl _,fun _=>rfl,fun hb=>?_⟩
  rw [t2 he]
theorem N2 {b:List Int} {bad:Bool} {most:Int} (h:vV b) (hm:0≤most):∃ a b' d,lW 281474976710656 ⟨b,bad⟩ most=some (a,⟨b',d⟩)∧qF (kN most) b bad a b' d∧0≤a∧a≤most:=by
 obtain ⟨a,b1,d,e1,s1,s2,s3,s4⟩:=aI (bad:=bad) h
 unfold lW
 rw [e1,zbs]
 by_cases hc:0≤a∧a≤most
 ·rw [show (decide (a<(0:Int))||decide (a>most))=false by rw [yM (by omega),yM (by omega)];rfl,cond_false]
  refine ⟨_,_,_,rfl,⟨s1,s2,s3,fun hb=>?_⟩,hc⟩
  have s4:=s4 hb
  unfold kN wX
  cases hp:v8 b with
  | none=>rw [hp] at s4;exact s4
  | some v =>
   obtain ⟨v,r⟩:=v
   rw [hp] at s4
   obtain ⟨rfl,rfl,rfl⟩:=s4
   rw [zbs]
   simp [hc]
 ·rw [show (decide (a<(0:Int))||decide (a>most))=true by
   by_cases h0:a<0
   ·rw [yP h0];rfl
   ·rw [yP (show a>most by omega),Bool.or_true],cond_true]
  refine ⟨_,_,_,rfl,⟨s1,s2,fun _=>rfl,fun hb=>?_⟩,by omega,hm⟩
  have s4:=s4 hb
  unfold kN wX
  cases hp:v8 b with
  | none=>rfl
  | some v =>
   obtain ⟨v,r⟩:=v
   rw [hp] at s4
   obtain ⟨rfl,rfl,rfl⟩:=s4
   rw [zbs]
   simp only
   rw [if_neg hc]
   trivial
theorem U8 {b:List Int} {bad:Bool} (h:vV b):∃ a b' d,rO 281474976710656 ⟨b,bad⟩=some (a,⟨b',d⟩)∧qF kV b bad a b' d:=by
 obtain ⟨a1,b1,d1,e1,s1⟩:=aI (bad:=bad) h
 obtain ⟨a2,b2,d2,e2,s2⟩:=aI (bad:=d1) s1.1
 obtain ⟨a3,b3,d3,e3,s3⟩:=aI (bad:=d2) s2.1
 obtain ⟨a4,b4,d4,e4,s4⟩:=aI (bad:=d3) s3.1
 obtain ⟨a5,b5,d5,e5,s5⟩:=aI (bad:=d4) s4.1
 unfold rO
 simp only [e1,e2,e3,e4,e5,zbs]
 exact ⟨_,_,_,rfl,s1.comb (s2.comb (s3.comb (s4.comb (s5.comb (.pure s5.1)))))⟩
theorem zEW {r:Int×v5}:∀ (k m i:Nat) (b:List Int) (bad:Bool) (row:List y7),r.1=((i+k:Nat):Int)→i+k≤1000→k<m→vV b→row.length+k≤1000 →
  ∃ b' d ts,AN 281474976710656 r m (i:Nat) b bad row=some (b',d,row++ts)∧qF (jA mS k) b bad ts b' d:=by
 intro k
 induction k with
 | zero =>
  intro m i b bad row hr hi hm hb hl
  cases m with
  | zero=>omega
  | succ m =>
   refine ⟨b,bad,[],?_,.pure hb⟩
   show oG _ _ _ _ _ _ _=_
   unfold oG
   rw [yM (by omega),Bool.false_and,cond_false,List.append_nil]
 | succ k ih =>
  intro m i b bad row hr hi hm hb hl
  cases m with
  | zero=>omega
  | succ m =>
   show ∃ b' d ts,oG _ _ _ _ _ _ _=_∧_
   unfold oG
   cases bad with
   | true =>
    rw [Bool.not_true,Bool.and_false,cond_false]
    exact ⟨b,true,[],by rw [List.append_nil],.bad hb (Nat.le_refl _)⟩
   | false =>
    obtain ⟨a1,b1,d1,e1,s1⟩:=aI (bad:=false) hb
    obtain ⟨a2,b2,d2,e2,s2⟩:=zDp (bad:=d1) s1.1
    obtain ⟨a3,b3,d3,e3,s3⟩:=aI (bad:=d2) s2.1
    rw [yP (by omega),Bool.not_false,Bool.and_self,cond_true]
    simp only [e1,e2,e3,zbs]
    rw [xZ (by simp only [List.length_singleton];omega),zbs,wW (by omega)]
    obtain ⟨b',d,ts,e,s⟩:=ih m (i+1) b3 d3 (row++[⟨a1,a2,a3⟩]) (by omega) (by omega) (by omega) s3.1 (by simp;omega)
    refine ⟨b',d,⟨a1,a2,a3⟩::ts,by rw [e];simp,?_⟩
    have hx:qF mS b false (⟨a1,a2,a3⟩:y7) b3 d3:=s1.comb (s2.comb (s3.comb (.pure s3.1)))
    exact hx.comb (s.comb (.pure s.1))
theorem zBr {r:Int×v5}:∀ (k m i:Nat) (b:List Int) (bad:Bool) (row:List yS),r.1=((i+k:Nat):Int)→i+k≤1000→k<m→vV b→row.length+k≤1000 →
  ∃ b' d ts,BK 281474976710656 r m (i:Nat) b bad row=some (b',d,row++ts)∧qF (jA dQ k) b bad ts b' d:=by
 intro k
 induction k with
 | zero =>
  intro m i b bad row hr hi hm hb hl
  cases m with
  | zero=>omega
  | succ m =>
   refine ⟨b,bad,[],?_,.pure hb⟩
   show mH _ _ _ _ _ _ _=_
   unfold mH
   rw [yM (by omega),Bool.false_and,cond_false,List.append_nil]
 | succ k ih =>
  intro m i b bad row hr hi hm hb hl
  cases m with
  | zero=>omega
  | succ m =>
   show ∃ b' d ts,mH _ _ _ _ _ _ _=_∧_
   unfold mH
   cases bad with
   | true =>
    rw [Bool.not_true,Bool.and_false,cond_false]
    exact ⟨b,true,[],by rw [List.append_nil],.bad hb (Nat.le_refl _)⟩
   | false =>
    obtain ⟨a1,b1,d1,e1,s1⟩:=aI (bad:=false) hb
    obtain ⟨a3,b3,d3,e3,s3⟩:=aI (bad:=d1) s1.1
    rw [yP (by omega),Bool.not_false,Bool.and_self,cond_true]
    simp only [e1,e3,zbs]
    rw [xZ (by simp only [List.length_singleton];omega),zbs,wW (by omega)]
    obtain ⟨b',d,ts,e,s⟩:=ih m (i+1) b3 d3 (row++[⟨a1,a3⟩]) (by omega) (by omega) (by omega) s3.1 (by simp;omega)
    refine ⟨b',d,⟨a1,a3⟩::ts,by rw [e];simp,?_⟩
    have hx:qF dQ b false (⟨a1,a3⟩:yS) b3 d3:=s1.comb (s3.comb (.pure s3.1))
    exact hx.comb (s.comb (.pure s.1))
theorem zAd {r:Int×v5}:∀ (k m i:Nat) (b:List Int) (bad:Bool) (row:List yU),r.1=((i+k:Nat):Int)→i+k≤1000→k<m→vV b→row.length+k≤1000 →
  ∃ b' d ts,rJ 281474976710656 r m (i:Nat) b bad row=some (b',d,row++ts)∧qF (jA kV k) b bad ts b' d:=by
 intro k
 induction k with
 | zero =>
  intro m i b bad row hr hi hm hb hl
  cases m with
  | zero=>omega
  | succ m =>
   refine ⟨b,bad,[],?_,.pure hb⟩
   show lC _ _ _ _ _ _ _=_
   unfold lC
   rw [yM (by omega),Bool.false_and,cond_false,List.append_nil]
 | succ k ih =>
  intro m i b bad row hr hi hm hb hl
  cases m with
  | zero=>omega
  | succ m =>
   show ∃ b' d ts,lC _ _ _ _ _ _ _=_∧_
   unfold lC
   cases bad with
   | true =>
    rw [Bool.not_true,Bool.and_false,cond_false]
    exact ⟨b,true,[],by rw [List.append_nil],.bad hb (Nat.le_refl _)⟩
   | false =>
    obtain ⟨a1,b3,d3,e1,s1⟩:=U8 (bad:=false) hb
    rw [yP (by omega),Bool.not_false,Bool.and_self,cond_true]
    simp only [e1,zbs]
    rw [xZ (by simp only [List.length_singleton];omega),zbs,wW (by omega)]
    obtain ⟨b',d,ts,e,s⟩:=ih m (i+1) b3 d3 (row++[a1]) (by omega) (by omega) (by omega) s1.1 (by simp;omega)
    refine ⟨b',d,a1::ts,by rw [e];simp,?_⟩
    exact s1.comb (s.comb (.pure s.1))
end Go.Ab
