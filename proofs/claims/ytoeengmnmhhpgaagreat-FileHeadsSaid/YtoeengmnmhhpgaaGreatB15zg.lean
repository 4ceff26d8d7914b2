/- Plain laws of the functions w8 this seat's, laid anew from another seat's text. No conditions but those that the theorems name. -/
import Derived.Test.YtoeengmnmhhpgaaGreatP15zxD
import Derived.Test.YtoeengmnmhhpgaaGreatB15za
import Derived.Test.YtoeengmnmhhpgaaGreatB15zb
import Derived.Test.YtoeengmnmhhpgaaGreatB15zc
import Derived.Test.YtoeengmnmhhpgaaGreatB15zd
import Derived.Test.YtoeengmnmhhpgaaGreatB15ze
import Derived.Test.YtoeengmnmhhpgaaGreatB15zf
namespace Go.Ab
open Go
set_option linter.unusedVariables false
def rJ (c:Bool) (d:Int) (b:List Int) (u f:Int):Int×Int×Int:=if c then tO b u f else (d,u,f)
def ev0:xF:=⟨0,0,[],0,0,[]⟩
def j3 (b:List Int):Int×Int×Int:=tO b 0 0
def rH (b:List Int):Int×Int×Int:=tO b (j3 b).2.1 (j3 b).2.2
def XF (b:List Int):Int:=if (rH b).2.2=0∧((j3 b).1<1∨(j3 b).1>12) then 10 else (rH b).2.2
def iD (b:List Int):Int×Int×Int:=rJ (nO (j3 b).1) 0 b (rH b).2.1 (XF b)
def CT (b:List Int):Int×Int×Int:=rJ (GQ (j3 b).1) 0 b (iD b).2.1 (iD b).2.2
def AE (b:List Int):Int×Int×Int:=rJ (AK (j3 b).1) 0 b (CT b).2.1 (CT b).2.2
def cU (b:List Int):Int×Int×Int:=rJ (cQ (j3 b).1) (-1) b (AE b).2.1 (AE b).2.2
def KE (names:List (List Int)) (stacks:List zX) (b:List Int):xF :=
  ⟨(rH b).1,(j3 b).1,if nO (j3 b).1 then (names[(iD b).1.toNat]?).getD [] else [],(CT b).1,(AE b).1,(TG names stacks (cU b).1).1⟩
def BB (names:List (List Int)) (stacks:List zX) (b:List Int):xF×Int×Int :=
  if mX names stacks≠0 then (ev0,0,1) else
  if (cU b).2.2≠0 then (ev0,0,(cU b).2.2) else
  if nO (j3 b).1=true∧((iD b).1<0∨(iD b).1≥names.length) then (ev0,0,2) else
  if (cU b).1 < -1∨(cU b).1≥stacks.length then (ev0,0,2) else
  if evS (KE names stacks b)≠0 then (ev0,0,10) else (KE names stacks b,(cU b).2.1,0)
def lC (n:List (List Int)) (s:List zX) (e:xF) (L:List Int):Prop :=
  evS e=0∧∃ a st:Int,L=HN a e st∧(nO e.Kind=true→∃ j:Nat,a=(j:Int)∧n[j]?=some e.Name)∧(cQ e.Kind=true→Has n s (-1) e.Stack st∧e.Stack.length≤32)
theorem lC.mono {n n':List (List Int)} {s s':List zX} {e:xF} {L:List Int} (h:lC n s e L) (hn:n <+: n') (hs:s <+: s'):lC n' s' e L:=by
  obtain ⟨h0,a,st,h1,h2,h3⟩:=h
  exact ⟨h0,a,st,h1,fun u=>let ⟨j,e,g⟩:=h2 u;⟨j,e,D9 hn g⟩,fun u=>⟨(h3 u).1.mono hn hs,(h3 u).2⟩⟩
theorem Has.snoc {n:List (List Int)} {s:List zX} {x:List Int} {a b:Nat} {c:Int} (ha:n[a]?=some x) (hb:s[b]?=some ⟨c,(a:Int)⟩):∀ {l:List (List Int)} {at_:Int},Has n s at_ l c→Has n s at_ (l++[x]) (b:Int):=by
  intro l
  induction l with
  | nil=>intro at_ h;simp only [Has] at h;subst h;exact ⟨a,b,ha,hb,rfl⟩
  | cons y r ih =>
    rintro at_ ⟨a2,b2,h1,h2,h3⟩
    exact ⟨a2,b2,h1,h2,ih h3⟩
theorem u6.path {n:List (List Int)} {s:List zX} (g:u6 n s):∀ (k:Nat) (i:Int), -1≤i→i<s.length→dOf (dsF s) i≤k→Has n s (-1) (kK n s k i).reverse i:=by
  intro k
  induction k with
  | zero =>
    intro i h0 h1 hd
    have:=g.depth0 h0 h1
    have hi:i = -1:=by omega
    subst hi;rfl
  | succ k ih =>
    intro i h0 h1 hd
    by_cases hi:i<0
    · have hi:i = -1:=by omega
      subst hi;rfl
    obtain ⟨j,rfl⟩:=Int.eq_ofNat_of_zero_le (show 0≤i by omega)
    have hj:j<s.length:=by omega
    have hp:=List.getElem?_eq_getElem hj
    obtain ⟨q1,q2,q3,q4,q5,q6,_⟩:=g.pair hp
    simp only [kK]
    rw [if_neg hi,Int.toNat_natCast,hp]
    simp only [List.reverse_cons]
    have h:=ih (s[j]).c0 q1 (by omega) (by omega)
    have hn:n[(s[j]).c1.toNat]?=some ((n[(s[j]).c1.toNat]?).getD []):=by rw [List.getElem?_eq_getElem (by omega)];rfl
    refine Has.snoc hn ?_ h
    rw [hp,Int.toNat_of_nonneg q3]
end Go.Ab
