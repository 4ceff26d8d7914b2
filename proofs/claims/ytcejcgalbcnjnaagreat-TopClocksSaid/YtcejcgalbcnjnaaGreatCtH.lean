/- Lemmas. No conditions but those that they name. -/
import Derived.Test.YtcejcgalbcnjnaaGreatCtG
namespace Go.Ab
open Go
set_option linter.unusedVariables false
abbrev qO:=List (vF×Int)
def piG (T:Int->Int->Int) (m:qO) (k:Int):Int:=if k=0 then 0 else T (m.getD (k.toNat - 1) default).1.domain (m.getD (k.toNat - 1) default).1.at_
structure Gr (T:Int->Int->Int) (m:qO) (es:List xD) (N:Nat):Prop where
 num:∀ i<m.length,(m.getD i default).2=i+1
 ok:EOk (m.length+1) 10000000 es
 pot:∀ e∈es,piG T m e.to_ - piG T m e.from_<=e.Xv
 size:m.length+es.length<=N
structure pW (m:qO) (es:List xD) (m':qO) (es':List xD):Prop where
 m:∃ t,m'=m++t
 e:∀ e∈es,e∈es'
theorem pW.refl (m:qO) (es:List xD):pW m es m es:=⟨⟨[],by simp⟩,fun _ h=>h⟩
theorem pW.trans {m m' m'':qO} {es es' es'':List xD} (h:pW m es m' es') (h2:pW m' es' m'' es''):pW m es m'' es'':=by
 obtain ⟨⟨t,rfl⟩,h1⟩:=h;obtain ⟨⟨u,rfl⟩,h3⟩:=h2;exact ⟨⟨t++u,by simp⟩,fun e he=>h3 e (h1 e he)⟩
theorem zHH {α β:Type} [DecidableEq α] {l t:List (α×β)} {k:α} {v:β} (h:zV l k=some v):zV (l++t) k=some v:=by
 induction l with
 | nil=>cases h
 | cons p l ih =>
  rw [B9];unfold zV at h ⊢
  split
  ·rename_i e;rw [if_pos e] at h;exact h
  ·rename_i e;rw [if_neg e] at h;exact ih h
theorem pW.get {m m':qO} {es es':List xD} (h:pW m es m' es') {k:vF} {v:Int} (hk:zV m k=some v):zV m' k=some v:=by
 obtain ⟨⟨t,rfl⟩,_⟩:=h;exact zHH hk
def Arc (back:Bool) (m:qO) (es:List xD) (k1 k2:vF):Prop:=∃ a b,zV m k1=some a/\zV m k2=some b/\∃ e∈es,src back e=a/\dst back e=b
def GF (back:Bool) (m:qO) (es:List xD) (k:vF):Prop:=∃ b,zV m k=some b/\∃ e∈es,src back e=0/\dst back e=b
theorem Arc.ext {back:Bool} {m m':qO} {es es':List xD} {k1 k2:vF} (h:Arc back m es k1 k2) (hx:pW m es m' es'):Arc back m' es' k1 k2:=by
 obtain ⟨a,b,h1,h2,e,h3,h4⟩:=h;exact ⟨a,b,hx.get h1,hx.get h2,e,hx.e e h3,h4⟩
theorem GF.ext {back:Bool} {m m':qO} {es es':List xD} {k:vF} (h:GF back m es k) (hx:pW m es m' es'):GF back m' es' k:=by
 obtain ⟨b,h2,e,h3,h4⟩:=h;exact ⟨b,hx.get h2,e,hx.e e h3,h4⟩
section
variable {T:Int->Int->Int} {m:qO} {es:List xD} {N:Nat}
theorem Gr.mono {M:Nat} (h:Gr T m es N) (hN:N<=M):Gr T m es M:=⟨h.num,h.ok,h.pot,by have:=h.size;omega⟩
theorem Gr.get (h:Gr T m es N) {k:vF} {v:Int} (hk:zV m k=some v):1<=v/\v<=m.length/\piG T m v=T k.domain k.at_:=by
 obtain ⟨i,p,h1,h2,h3,_⟩:=NK hk;have hi:i<m.length:=(vO.mp h1).1
 have:=h.num i hi
 rw [getD_some h1] at this;refine ⟨by omega,by omega,?_⟩;unfold piG;rw [if_neg (by omega),show v.toNat - 1=i by omega,getD_some h1,h2]
theorem zDM {t:qO} {k:Int} (h0':0<=k) (h:k<=m.length):piG T (m++t) k=piG T m k:=by
 unfold piG
 split
 ·rfl
 ·rename_i h0
  by_cases hn:k.toNat - 1<m.length
  ·have:(m++t).getD (k.toNat - 1) default=m.getD (k.toNat - 1) default:=by
    rw [vQ,uH hn,vQ]
   rw [this]
  ·omega
end
section
variable {T:Int->Int->Int} {m:qO} {es:List xD} {N:Nat}
theorem R6 (h:Gr T m es N) (hN:N<=100000) (dom a:Int):Ok (gK ⟨some m,es⟩ dom a) fun r=>Gr T r.2 es (N+1)/\pW m es r.2 es/\zV r.2 ⟨dom,a⟩=some r.1:=by
 have hs:=h.size;unfold gK;simp only [jE];cases hk:zV m ⟨dom,a⟩ with
 | some v =>
  rw [U8,cO,cond_false,jE];exact yB ⟨h.mono (by omega),.refl m es,hk⟩
 | none =>
  rw [Option.isSome_none,Bool.not_false,cond_true];refine wP (by omega) (yB ?_);rw [w5,WW (AA hk)];simp only;refine ⟨⟨fun i hi=>?_,fun e he=>?_,fun e he=>?_,by rw [zla,zls];omega⟩,⟨⟨_,rfl⟩,fun _ h=>h⟩,?_⟩
  ·rw [zla,zls] at hi;rw [vQ]
   by_cases e:i<m.length
   ·rw [uH e,<- vQ];exact h.num i e
   ·rw [u4 (by omega),show i - m.length=0 by omega];show (m.length:Int)+1=_;omega
  ·have:=h.ok e he
   rw [zla,zls];omega
  ·have:=h.ok e he
   rw [zDM (by omega) (by omega),zDM (by omega) (by omega)];exact h.pot e he
  ·have:zV (xC m ⟨dom,a⟩ ((m.length:Int)+1)) ⟨dom,a⟩=some ((m.length:Int)+1):=by rw [dJ,if_pos rfl]
   rw [WW (AA hk)] at this;exact this
theorem Gr.add (h:Gr T m es N) {e1 e2:xD} (h1:0<=e1.from_/\e1.from_<=m.length/\0<=e1.to_/\e1.to_<=m.length /\ -10000000<=e1.Xv/\e1.Xv<=10000000) (h2:0<=e2.from_/\e2.from_<=m.length/\0<=e2.to_/\e2.to_<=m.length /\ -10000000<=e2.Xv/\e2.Xv<=10000000)
  (p1:piG T m e1.to_ - piG T m e1.from_<=e1.Xv) (p2:piG T m e2.to_ - piG T m e2.from_<=e2.Xv):Gr T m (es++[e1,e2]) (N+2)/\pW m es m (es++[e1,e2]):=by
 have hm:∀ e∈es++[e1,e2],e∈es\/e=e1\/e=e2:=fun e he=>by
  rcases wL.mp he with he | he
  ·exact .inl he
  ·simp at he;exact .inr he
 refine ⟨⟨h.num,fun e he=>?_,fun e he=>?_,by have:=h.size;rw [zla];show _+(_+2)<=_;omega⟩,⟨⟨[],by simp⟩,fun e he=>rM _ he⟩⟩
 ·rcases hm e he with he | rfl | rfl
  ·exact h.ok e he
  ·omega
  ·omega
 ·rcases hm e he with he | rfl | rfl
  ·exact h.pot e he
  ·exact p1
  ·exact p2
theorem zEG {m:qO} {es:List xD} (h:es.length<=100000) (a b:Int) {by_:wZ} (hl : -10000000<=by_.Lo/\by_.Lo<=10000000):JR ⟨some m,es⟩ a b by_=some (es++[⟨a,b,by_.Hi⟩,⟨b,a, -by_.Lo⟩]):=by
 unfold JR;simp only;rw [tB (by simp only [zlc,fC];omega),zbs,w64 (by omega) (by omega),Int.zero_sub]
end
def Cl (T:Int->Int->Int) (dom ppm:Int):Prop:=∀ x y lo hi:Int,0<=x->x<=y->y<=1000000->lo * 1000000<=(y - x) * 1000000 - (y - x) * ppm->(y - x) * 1000000+(y - x) * ppm<=hi * 1000000->lo<=T dom y - T dom x/\T dom y - T dom x<=hi
def lH (m:qO) (es:List xD) (dom p q:Int):Prop:=∀ back,Arc back m es ⟨dom,p⟩ ⟨dom,q⟩/\Arc back m es ⟨dom,q⟩ ⟨dom,p⟩
theorem lH.ext {m m':qO} {es es':List xD} {dom p q:Int} (h:lH m es dom p q) (hx:pW m es m' es'):lH m' es' dom p q:=fun b=>⟨(h b).1.ext hx,(h b).2.ext hx⟩
section
variable {T:Int->Int->Int}
theorem zKS {x:yW} {l:List Int} {v2:Nat} {x2:Int} {r5:Int×qO} {m0:qO} {es0:List xD} {N:Nat} (hT:Cl T x.Id x.Xt) (hp:0<=x.Xt/\x.Xt<=10000) (hl:∀ y∈l,0<=y/\y<=1000000) (hs:l.Pairwise (·<=·)) (hv:v2<l.length) (hx2:l[v2]?=some x2) (hll:l.length<=1000)
  (h:Gr T m0 es0 N) (hN:N+3 * v2<=90000) (h5:zV m0 ⟨x.Id,x2⟩=some r5.1) :
  Ok (G9 FF x l v2 x2 r5 FF 0 m0 es0) fun r=>Gr T r.1 r.2 (N+3 * v2)/\pW m0 es0 r.1 r.2/\∀ j<v2,lH r.1 r.2 x.Id (l.getD j 0) x2:=by
 refine v9 (σ:=Nat×qO×List xD) (fun n s=>G9 FF x l v2 x2 r5 n s.1 s.2.1 s.2.2)
  (fun s=>s.1<=v2/\Gr T s.2.1 s.2.2 (N+3 * s.1)/\pW m0 es0 s.2.1 s.2.2/\∀ j<s.1,lH s.2.1 s.2.2 x.Id (l.getD j 0) x2) _ (fun s=>v2 - s.1) ?_ (0,m0,es0) ⟨wI _,h,.refl _ _,fun j hj=>by simp only at hj;omega⟩
 rintro n ⟨i,m,es⟩ ⟨h1,h2,h3,h4⟩ ih;simp only at h1 h2 h3 h4 ih ⊢;show Ok (U4 _ _ _ _ _ _ _ _ _ _) _;unfold U4;refine xV (fun hi=>?_) fun hi=>yB ?_
 ·refine wP (by omega) ?_;rw [show 0+((i:Nat):Int).toNat=i by omega];refine zJu (by omega) fun x3 hx3=>?_
  have m2:=hl x2 (yN hx2);have m3:=hl x3 (yN hx3);have hle:x3<=x2:=by
   have:=BI.mp hs i v2 (by omega) hv (by omega)
   rw [(vO.mp hx3).2,(vO.mp hx2).2] at this;exact this
  rw [w64 (x:=x2 - x3) (by omega) (by omega),w5];refine yX (zLB (d:=x2 - x3) (by omega) (by omega) hp.1 hp.2) ?_;rintro ⟨⟨lo,hi_⟩,b⟩ ⟨s1,s2,s3,s4,s5,s6⟩;simp only at s1 s2 s3 s4 s5 s6 ⊢;obtain ⟨t1,t2⟩:=hT x3 x2 lo hi_ m3.1 hle m2.2 s1 s2;refine yX (R6 h2 (by omega) x.Id x3) ?_;rintro ⟨k,m'⟩ ⟨n1,n2,n3⟩;simp only at n1 n2 n3 ⊢;have hsz:=n1.size;rw [zEG (by omega) _ _ (by simp only;omega),zbs];obtain ⟨a1,a2,a3⟩:=n1.get n3;have g5:=(h3.trans n2).get h5;obtain ⟨b1,b2,b3⟩:=n1.get g5;simp only at a3 b3;obtain ⟨c1,c2⟩:=n1.add (e1:=⟨k,r5.1,hi_⟩) (e2:=⟨r5.1,k, -lo⟩) (by simp only;omega) (by simp only;omega) (by simp only;rw [a3,b3];omega) (by simp only;rw [a3,b3];omega);refine ih (i+1,m',_) ⟨by simp only;omega,c1.mono (by simp only;omega),(h3.trans n2).trans c2,fun j hj=>?_⟩ (by simp only;omega);simp only at hj ⊢;rcases zlg j i with hh | hh
  ·exact (h4 j hh).ext (n2.trans c2)
  ·rw [show j=i by omega,getD_some hx3];have q1:(⟨k,r5.1,hi_⟩:xD)∈es++[⟨k,r5.1,hi_⟩,⟨r5.1,k, -lo⟩]:=bT _ (by simp);have q2:(⟨r5.1,k, -lo⟩:xD)∈es++[⟨k,r5.1,hi_⟩,⟨r5.1,k, -lo⟩]:=bT _ (by simp);intro back;cases back
   ·exact ⟨⟨k,r5.1,n3,g5,_,q1,rfl,rfl⟩,⟨r5.1,k,g5,n3,_,q2,rfl,rfl⟩⟩
   ·exact ⟨⟨k,r5.1,n3,g5,_,q2,rfl,rfl⟩,⟨r5.1,k,g5,n3,_,q1,rfl,rfl⟩⟩
 ·have:i=v2:=by omega
  subst this;exact ⟨h2,h3,h4⟩
end
end Go.Ab
