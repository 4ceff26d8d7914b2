/- Lemmas. No conditions but those that they name. -/
import Derived.Test.YtcejcgalbcnjnaaGreatCtC
namespace Go.Ab
open Go
set_option linter.unusedVariables false
def cnt (nx:List (List Int)) (D:Nat->Bool) (x:Int):Nat->Nat
 | 0=>0
 | m+1=>cnt nx D x m+if D m then 0 else (nx.getD m []).count x
def dn (D:Nat->Bool):Nat->Nat
 | 0=>0
 | m+1=>dn D m+if D m then 1 else 0
def upd (D:Nat->Bool) (a:Nat):Nat->Bool:=fun b=>if b=a then true else D b
theorem zMz {D:Nat->Bool} {a m:Nat} (h:m<=a):dn (upd D a) m=dn D m/\∀ nx x,cnt nx (upd D a) x m=cnt nx D x m:=by
 induction m with
 | zero=>exact ⟨rfl,fun _ _=>rfl⟩
 | succ m ih =>
  obtain ⟨i1,i2⟩:=ih (by omega);have e:upd D a m=D m:=if_neg (by omega);exact ⟨by simp only [dn,e,i1],fun nx x=>by simp only [cnt,e,i2]⟩
theorem zCs {D:Nat->Bool} {a m:Nat} (h:a<m) (h0:D a=false):dn (upd D a) m=dn D m+1/\∀ nx x,cnt nx (upd D a) x m+(nx.getD a []).count x=cnt nx D x m:=by
 induction m with
 | zero=>omega
 | succ m ih =>
  by_cases e:m=a
  ·subst e;obtain ⟨i1,i2⟩:=zMz (D:=D) (yI m);have e:upd D m m=true:=if_pos rfl;exact ⟨by simp [dn,e,i1,h0],fun nx x=>by simp [cnt,e,i2,h0]⟩
  ·obtain ⟨i1,i2⟩:=ih (by omega);have e:upd D a m=D m:=if_neg e;refine ⟨by simp only [dn,e,i1];omega,fun nx x=>?_⟩
   have:=i2 nx x
   simp only [cnt,e];omega
theorem zBR (D:Nat->Bool) (m:Nat):dn D m<=m:=by
 induction m with
 | zero=>exact yI _
 | succ m ih=>unfold dn;split<;>omega
theorem zGy {D:Nat->Bool} {m:Nat} (h:∀ a<m,D a=true):dn D m=m:=by
 induction m with
 | zero=>rfl
 | succ m ih=>unfold dn;rw [ih fun a ha=>h a (by omega),h m (by omega)];rfl
theorem zI5 {nx:List (List Int)} {D:Nat->Bool} {x:Int} {m:Nat} (h:cnt nx D x m≠0):∃ a<m,D a=false/\x∈nx.getD a []:=by
 induction m with
 | zero=>exact absurd rfl h
 | succ m ih =>
  by_cases h1:cnt nx D x m=0
  ·unfold cnt at h;rw [h1] at h;cases hD:D m
   ·rw [hD] at h;exact ⟨m,by omega,hD,List.count_pos_iff.mp (by rw [cQ] at h;exact Nat.pos_of_ne_zero h)⟩
   ·rw [hD] at h;exact absurd rfl h
  ·obtain ⟨a,a1,a2⟩:=ih h1;exact ⟨a,by omega,a2⟩
theorem zCx {nx:List (List Int)} {D:Nat->Bool} {x:Int} {m b:Nat} (h:∀ a<m,(nx.getD a []).length<=b):cnt nx D x m<=m * b:=by
 induction m with
 | zero=>exact wI _
 | succ m ih =>
  have:=ih fun a ha=>h a (by omega)
  have h2:=h m (by omega);have h3:=zAa (a:=x) (l:=nx.getD m []);unfold cnt;rw [Nat.succ_mul]
  split<;>omega
theorem least {ρ:Nat->Int} {D:Nat->Bool}:∀ n,(∃ a<n,D a=false)->∃ a<n,D a=false/\∀ b<n,D b=false->ρ a<=ρ b:=by
 intro n
 induction n with
 | zero=>rintro ⟨a,h,_⟩;omega
 | succ n ih =>
  rintro ⟨a,ha,hD⟩
  by_cases h:∃ a<n,D a=false
  ·obtain ⟨c,c1,c2,c3⟩:=ih h
   by_cases h2:D n=false/\ρ n<ρ c
   ·refine ⟨n,by omega,h2.1,fun b hb hb2=>?_⟩;rcases zlg b n with h4 | h4
    ·have:=c3 b h4 hb2;omega
    ·rw [show b=n by omega];omega
   ·refine ⟨c,by omega,c2,fun b hb hb2=>?_⟩;rcases zlg b n with h4 | h4
    ·exact c3 b h4 hb2
    ·have e:b=n:=by omega
     subst e
     by_cases h5:ρ b<ρ c
     ·exact absurd ⟨hb2,h5⟩ h2
     ·omega
  ·have e:a=n:=by
    rcases zlg a n with h4 | h4
    ·exact absurd ⟨a,h4,hD⟩ h
    ·omega
   subst e;refine ⟨a,ha,hD,fun b hb hb2=>?_⟩;rcases zlg b a with h4 | h4
   ·exact absurd ⟨b,h4,hb2⟩ h
   ·rw [show b=a by omega];omega
section
variable {ρ:Nat->Int} {n:Nat} {w:yR}
def Wts (n:Nat) (w:List Int) (f:Int->Nat):Prop:=w.length=n/\∀ x:Nat,x<n->w.getD x 0=f x
theorem zJo (hw:Rws ρ n 4000000 w.next) (hn:n<=32) (hi:w.ids.length=n):Ok (LD FF w FF 0 (List.replicate n 0)) fun o=>Wts n o fun x=>cnt w.next (fun _=>false) x n:=by
 refine v9 (σ:=Nat×List Int) (fun n s=>LD FF w n s.1 s.2)
  (fun s=>s.1<=n/\Wts n s.2 fun x=>cnt w.next (fun _=>false) x s.1) _ (fun s=>n - s.1) ?_ (0,List.replicate n 0) ⟨wI _,k8,fun x hx=>?_⟩
 ·rintro f ⟨i,t⟩ ⟨h1,h2⟩ ih;simp only at h1 h2 ih ⊢;have hl:=hw.1;show Ok (TZ _ _ _ _ _) _;unfold TZ;refine xV (fun hi=>?_) fun hi=>yB (by rw [show n=i by omega];rw [show n=i by omega] at h2;exact h2)
  refine wO fun r hr=>?_
  have hr:=(getD_some (d:=[]) hr).symm;rw [wB] at hr;obtain ⟨r1,r2⟩:=hw.2 i (by omega);rw [<- hr] at r1 r2;refine yX (P:=fun o=>Wts n o fun x=>cnt w.next (fun _=>false) x i+r.count x) ?_ fun o ho=>?_
  ·refine v9 (σ:=Nat×List Int) (fun n s=>N7 FF r n s.1 s.2)
    (fun s=>s.1<=r.length/\Wts n s.2 fun x=>cnt w.next (fun _=>false) x i+(r.take s.1).count x) _ (fun s=>r.length - s.1) ?_ (0,t) ⟨wI _,h2.1,fun x hx=>by rw [h2.2 x hx];simp⟩
   rintro f ⟨j,u⟩ ⟨k1,k2⟩ ih;simp only at k1 k2 ih ⊢;show Ok (YC _ _ _ _ _) _;unfold YC;refine xV (fun hi=>?_) fun hi=>yB (by rw [show j=r.length by omega,CU] at k2;exact k2)
   refine wO fun y hy=>?_
   rw [wB] at hy;obtain ⟨y1,y2,_⟩:=r2 y (yN hy);have hul:=k2.1;refine wO fun v hv=>wO fun v2 hv2=>?_
   have hv:=(getD_some (d:=0) hv).symm;have e:=k2.2 y.toNat (by omega);simp only at e;have hc:=zCx (D:=fun _=>false) (x:=(y.toNat:Int)) (m:=i) (fun a ha=>(hw.2 a (by omega)).1);have hc2:=zAa (a:=(y.toNat:Int)) (l:=r.take j);rw [nL] at hc2
   have:i * 4000000<=32 * 4000000:=qW _ (by omega)
   rw [w5,w5];refine ih (j+1,_) ⟨by simp only;omega,by simp only [kW];exact hul,fun x hx=>?_⟩ (by simp only;omega);simp only;rw [qT (by omega),nM,List.count_append,hy];simp only [Option.toList_some,MJ,List.count_nil,cQ]
   by_cases e2:x=y.toNat
   ·rw [if_pos e2,hv,e,if_pos (by rw [beq_iff_eq];omega)];subst e2;omega
   ·rw [if_neg e2,if_neg (by rw [beq_iff_eq];omega),k2.2 x hx];simp only;omega
  ·rw [w5];refine ih (i+1,o) ⟨by simp only;omega,ho.1,fun x hx=>?_⟩ (by simp only;omega);simp only;rw [ho.2 x hx,hr];rfl
 ·simp only;rw [vQ,iE];simp [hx,cnt]
def Rdy (n:Nat) (D:Nat->Bool) (o:List Int) (q:List Int):Prop:=q.Nodup/\(∀ x∈q,0<=x/\x<n)/\∀ x:Nat,x<n->(o.getD x 0=0↔D x=true\/(x:Int)∈q)/\¬(D x=true/\(x:Int)∈q)
theorem zDF {n:Nat} {q:List Int} (h:q.Nodup) (hb:∀ x∈q,0<=x/\x<n):q.length<=n:=by
 induction n generalizing q with
 | zero =>
  rcases q with _ | ⟨x,q⟩
  ·exact wI _
  ·have:=hb x (tK ..);omega
 | succ n ih =>
  have h1:=ih (q:=q.erase (n:Int)) (h.erase _) fun x hx=>by
   rw [h.mem_erase_iff] at hx
   have:=hb x hx.2;omega
  rw [List.length_erase] at h1
  split at h1<;>omega
end
end Go.Ab
