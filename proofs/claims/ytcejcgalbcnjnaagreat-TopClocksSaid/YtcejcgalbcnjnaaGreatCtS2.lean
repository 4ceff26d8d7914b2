/- Lemmas. No conditions but those that they name. -/
import Derived.Test.YtcejcgalbcnjnaaGreatCtS
namespace Go.Ab
open Go
set_option linter.unusedVariables false
theorem ME {x:Int} (h0:0<=x) (h:x<1000000000):zG (xX .u64 (z9 (zG x)) (1:Int))=x / 2:=by
 rw [w64 (x:=x) (by omega) (by omega),JL h0 (by omega),show (1:Int)=((1:Nat):Int) from rfl,zDU h0 (by decide)];exact w64 (x:=x / 2) (by omega) (by omega)
section
variable {w:yR} {F:Nat}
theorem Z0 (a b n:Nat) {l:List Int} (hl:l.length<1000) (hab:a+n<=b) (hb:b+n<=l.length) (hF:1000<F) :
  Ok (DW F l a b n w) fun m=>From l m/\∀ p,gt0 m p=if a<=p/\p<a+n then gt0 l (p+(b - a)) else if b<=p/\p<b+n then gt0 l (p - (b - a)) else gt0 l p:=by
 unfold DW;refine yX (P:=fun m=>From l m/\∀ p,gt0 m p=if a<=p/\p<a+n then gt0 l (p+(b - a)) else if b<=p/\p<b+n then gt0 l (p - (b - a)) else gt0 l p) ?_ fun m hm=>yB hm
 refine gN (σ:=Nat×List Int) (fun k s=>LY F a b n k s.1 s.2) (fun s=>s.1<=n/\From l s.2/\∀ p,gt0 s.2 p=if a<=p/\p<a+s.1 then gt0 l (p+(b - a)) else if b<=p/\p<b+s.1 then gt0 l (p - (b - a)) else gt0 l p) _ (fun s=>n - s.1) ?_ F (0,l)
  ⟨wI _,.refl l,fun p=>by simp only;rw [if_neg (by omega),if_neg (by omega)]⟩ (by simp only;omega)
 rintro k ⟨i,m⟩ ⟨h1,h2,h3⟩ ih;simp only at h1 h2 h3 ih ⊢;have hlen:m.length=l.length:=h2.1;show Ok (XK _ _ _ _ _ _ _) _;unfold XK;refine xV (fun hlt=>?_) fun hge=>yB ⟨h2,by rwa [show i=n by omega] at h3⟩
 rw [w64 (x:=(b:Int)+i) (by omega) (by omega),w64 (x:=(a:Int)+i) (by omega) (by omega)];refine wO fun x hx=>wO fun y hy=>wO fun z hz=>vK (by omega) (by simp;omega) fun u hu=>?_
 rw [show ((b:Int)+i).toNat=b+i by omega] at hx ⊢;rw [show ((a:Int)+i).toNat=a+i by omega] at hy ⊢;rw [w5];have ex:gt0 m (b+i)=x:=getD_some hx;have ey:gt0 m (a+i)=y:=getD_some hy;refine ih (i+1,_) ⟨by simp only;omega,h2.trans (WL (yN hx) (yN hy)),fun p=>?_⟩ (by simp only;omega);simp only;have hg:gt0 ((m.set (a+i) x).set (b+i) y) p=if p=b+i then y else if p=a+i then x else gt0 m p:=by
  unfold gt0;rw [qT (by simp;omega),qT (by omega)]
 rw [h3] at ex ey;rw [if_neg (by omega),if_neg (by omega)] at ex ey;rw [hg]
 by_cases e1:p=b+i
 ·rw [if_pos e1,if_neg (by omega),if_pos (by omega),<- ey];congr 1;omega
 ·rw [if_neg e1]
  by_cases e2:p=a+i
  ·rw [if_pos e2,if_pos (by omega),<- ex];congr 1;omega
  ·rw [if_neg e2,h3]
   repeat' split
   all_goals first | rfl | (exfalso;omega)
def j8 (g:Nat->Int) (m i j p:Nat):Int:=if m - i<=p/\p<m - i+j then g (p+i) else if m - i+j<=p/\p<m+j then g (p - j) else g p
theorem zHb {g:Nat->Int} {m i j p:Nat} (h:i=0\/j=0):j8 g m i j p=g p:=by
 unfold j8
 split
 ·rcases h with h | h<;>first | (congr 1;omega) | omega
 ·split
  ·rcases h with h | h<;>first | (congr 1;omega) | omega
  ·rfl
theorem zGD {g h:Nat->Int} {m i j p:Nat} (hi:i<=m) (hij:j<i) (hg:∀ p,h p=if m - i<=p/\p<m - i+j then g (p+(m - (m - i))) else if m<=p/\p<m+j then g (p - (m - (m - i))) else g p):j8 h m (i - j) j p=j8 g m i j p:=by
 unfold j8;simp only [hg]
 repeat' split
 all_goals first | (congr 1;omega) | omega
theorem zHX {g h:Nat->Int} {m i j p:Nat} (hi:i<=m) (hij:i<j) (hg:∀ p,h p=if m - i<=p/\p<m - i+i then g (p+(m+j - i - (m - i))) else if m+j - i<=p/\p<m+j - i+i then g (p - (m+j - i - (m - i))) else g p):j8 h m i (j - i) p=j8 g m i j p:=by
 unfold j8;simp only [hg]
 repeat' split
 all_goals first | (congr 1;omega) | omega
theorem zNV (a m b:Nat) {l:List Int} (hl:l.length<1000) (h1:a<m) (h2:m<b) (hb:b<=l.length) (hF:3000<F) :
  Ok (MP F l a m b w) fun r=>From l r/\∀ p,gt0 r p=j8 (gt0 l) m (m - a) (b - m) p:=by
 unfold MP;rw [w64 (x:=(m:Int) - a) (by omega) (by omega),w64 (x:=(b:Int) - m) (by omega) (by omega)];refine yX (P:=fun o:Int×List Int=>∃ i:Nat,o.1=i/\0<i/\i<=m/\m+i<=l.length/\From l o.2/\∀ p,j8 (gt0 o.2) m i i p=j8 (gt0 l) m (m - a) (b - m) p) ?_ ?_
 ·have:=gN (σ:=Nat×Nat×List Int) (fun n s=>M3 F m w n s.1 s.2.1 s.2.2) (fun s=>0<s.1/\s.1<=m/\0<s.2.1/\m+s.2.1<=l.length/\From l s.2.2/\∀ p,j8 (gt0 s.2.2) m s.1 s.2.1 p=j8 (gt0 l) m (m - a) (b - m) p)
   (fun o:Int×List Int=>∃ i:Nat,o.1=i/\0<i/\i<=m/\m+i<=l.length/\From l o.2/\∀ p,j8 (gt0 o.2) m i i p=j8 (gt0 l) m (m - a) (b - m) p) (fun s=>s.1+s.2.1) ?_ F (m - a,b - m,l)
   ⟨by simp only;omega,by simp only;omega,by simp only;omega,by simp only;omega,.refl l,fun _=>rfl⟩ (by simp only;omega)
  ·simp only at this
   rwa [show ((m - a:Nat):Int)=(m:Int) - a by omega,show ((b - m:Nat):Int)=(b:Int) - m by omega] at this
  rintro n ⟨i,j,k⟩ ⟨h1,h2,h3,h4,h5,h6⟩ ih;simp only at h1 h2 h3 h4 h5 h6 ih ⊢;have hlen:k.length=l.length:=h5.1;show Ok (SZ _ _ _ _ _ _ _) _;unfold SZ;refine vZ (fun hne=>?_) fun he=>yB ⟨i,rfl,h1,h2,?_,h5,?_⟩
  ·refine xV (fun hgt=>?_) fun hle=>?_
   ·rw [w64 (x:=(m:Int) - i) (by omega) (by omega),show (m:Int) - i=((m - i:Nat):Int) by omega];refine yX (Z0 (w:=w) (m - i) m j (l:=k) (by omega) (by omega) (by omega) (by omega)) fun r hr=>wP hr.1.1 ?_
    rw [w64 (x:=(i:Int) - j) (by omega) (by omega),show (i:Int) - j=((i - j:Nat):Int) by omega];exact ih (i - j,j,r) ⟨by simp only;omega,by simp only;omega,h3,h4,h5.trans hr.1,fun p=>(zGD h2 (by omega) hr.2).trans (h6 p)⟩ (by simp only;omega)
   ·have hne:i≠j:=fun e=>by subst e;simp at hne
    rw [w64 (x:=(m:Int) - i) (by omega) (by omega),show (m:Int) - i=((m - i:Nat):Int) by omega,w64 (x:=(m:Int)+j) (by omega) (by omega),w64 (x:=(m:Int)+j - i) (by omega) (by omega),show (m:Int)+j - i=((m+j - i:Nat):Int) by omega];refine yX (Z0 (w:=w) (m - i) (m+j - i) i (l:=k) (by omega) (by omega) (by omega) (by omega)) fun r hr=>wP hr.1.1 ?_
    rw [w64 (x:=(j:Int) - i) (by omega) (by omega),show (j:Int) - i=((j - i:Nat):Int) by omega];exact ih (i,j - i,r) ⟨h1,h2,by simp only;omega,by simp only;omega,h5.trans hr.1,fun p=>(zHX h2 (by omega) hr.2).trans (h6 p)⟩ (by simp only;omega)
  ·have:(i:Int)=j:=by simpa using he
   omega
  ·have:(i:Int)=j:=by simpa using he
   have:i=j:=by omega
   subst this;exact h6
 ·rintro ⟨q,k⟩ ⟨i,e,h3,h4,h5,h6,h7⟩;simp only at e h6 h7 ⊢;subst e;have hlen:k.length=l.length:=h6.1;rw [w64 (x:=(m:Int) - i) (by omega) (by omega),show (m:Int) - i=((m - i:Nat):Int) by omega];refine yX (Z0 (w:=w) (m - i) m i (l:=k) (by omega) (by omega) (by omega) (by omega)) fun r hr=>wP hr.1.1 (yB ⟨h6.trans hr.1,fun p=>?_⟩)
  rw [<- h7,hr.2];unfold j8
  repeat' split
  all_goals first | (congr 1;omega) | omega
end
end Go.Ab
