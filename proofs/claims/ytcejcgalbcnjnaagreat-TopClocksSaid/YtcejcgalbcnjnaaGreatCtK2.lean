/- Lemmas. No conditions but those that they name. -/
import Derived.Test.YtcejcgalbcnjnaaGreatCtK
namespace Go.Ab
open Go
set_option linter.unusedVariables false
theorem zEP {α:Type} {l:List α} {j:Nat} {y:α} (h:l[j]?=some y):l.drop j=y::l.drop (j+1):=by
 obtain ⟨h1,h2⟩:=vO.mp h;rw [List.drop_eq_getElem_cons h1,h2]
section
variable {ρ:Nat->Int} {n:Nat} {w:yR}
theorem zLx {o:List Int} (ho:o.length=n) (hn:n<=32):Ok (HU FF o FF 0 []) (Rdy n (fun _=>false) o):=by
 refine v9 (σ:=Nat×List Int) (fun n s=>HU FF o n s.1 s.2)
  (fun s=>s.1<=n/\s.2.Nodup/\(∀ x∈s.2,0<=x/\x<s.1)/\∀ x:Nat,x<s.1->(o.getD x 0=0↔(x:Int)∈s.2)) _ (fun s=>n - s.1) ?_ (0,[]) ⟨wI _,List.nodup_nil,fun x h=>by (cases h),fun x h=>by simp only at h;omega⟩
 rintro f ⟨i,q⟩ ⟨h1,h2,h3,h4⟩ ih;simp only at h1 h2 h3 h4 ih ⊢;have hql:=zDF h2 h3;show Ok (T7 _ _ _ _ _) _;unfold T7;refine xV (fun hi=>?_) fun hi=>yB ?_
 ·refine wO fun x hx=>?_
  have hx:=(getD_some (d:=0) hx).symm;rw [wB] at hx;rw [w5];have hni:(i:Int)∉q:=fun hh=>by have:=(h3 _ hh).2;omega
  refine vZ (fun hh=>wP (by rw [zls];omega) ?_) fun hh=>?_
  ·refine ih (i+1,_) ⟨by simp only;omega,?_,fun y hy=>?_,fun y hy=>?_⟩ (by simp only;omega)
   ·simp only;rw [List.nodup_append];exact ⟨h2,by simp,fun a ha b hb hab=>hni (by rw [<- uO.mp hb,<- hab];exact ha)⟩
   ·simp only at hy ⊢;rcases wL.mp hy with hy | hy
    ·have:=h3 y hy;omega
    ·rw [uO.mp hy];omega
   ·simp only at hy ⊢;rw [wL,uO]
    by_cases e:y=i
    ·subst e;rw [<- hx,eq_of_beq hh];simp
    ·rw [h4 y (by omega)];exact ⟨Or.inl,fun h=>h.elim id fun h=>by omega⟩
  ·refine ih (i+1,q) ⟨by simp only;omega,h2,fun y hy=>?_,fun y hy=>?_⟩ (by simp only;omega)
   ·have:=h3 y hy;simp only;omega
   ·simp only at hy ⊢
    by_cases e:y=i
    ·subst e;rw [<- hx];exact ⟨fun h=>absurd h (by simpa using hh),fun h=>absurd h hni⟩
    ·exact h4 y (by omega)
 ·have e:i=n:=by omega
  subst e;exact ⟨h2,h3,fun x hx=>⟨by rw [h4 x hx];simp,fun h=>by cases h.1⟩⟩
theorem zIi {D:Nat->Bool} {r a b:List Int} {c:Int->Nat} (hn:n<=32) (hr:∀ x∈r,0<=x/\x<n) (hrl:r.length<=4000000) (hc:∀ x,c x<=200000000) (ha:Wts n a fun x=>c x+r.count x) (hb:Rdy n D a b) :
  Ok (KD FF r FF 0 a b) fun o=>Wts n o.1 c/\Rdy n D o.1 o.2:=by
 refine v9 (σ:=Nat×List Int×List Int) (fun n s=>KD FF r n s.1 s.2.1 s.2.2)
  (fun s=>s.1<=r.length/\Wts n s.2.1 (fun x=>c x+(r.drop s.1).count x)/\Rdy n D s.2.1 s.2.2) _ (fun s=>r.length - s.1) ?_ (0,a,b) ⟨wI _,ha,hb⟩
 rintro f ⟨j,u,q⟩ ⟨k1,k2,k3⟩ ih;simp only at k1 k2 k3 ih ⊢;have hql:=zDF k3.1 k3.2.1;have hul:=k2.1;show Ok (VR _ _ _ _ _ _) _;unfold VR;refine xV (fun hi=>?_) fun hi=>yB ⟨?_,k3⟩
 ·refine wO fun y hy=>?_
  rw [wB] at hy;obtain ⟨y1,y2⟩:=hr y (yN hy);refine wO fun v hv=>wO fun v2 hv2=>?_
  have hv:=(getD_some (d:=0) hv).symm;have e:=k2.2 y.toNat (by omega);have ey:((y.toNat:Nat):Int)=y:=by omega
  simp only at e;rw [zEP hy,MJ,ey,if_pos (beq_self_eq_true y),<- hv] at e;have hc1:=hc y;have hc2:=zAa (a:=y) (l:=r.drop (j+1));rw [DU] at hc2;rw [show zG (v - 1)=v - 1 from w64 (by omega) (by omega),w5];refine vK (by omega) (by rw [kW];omega) fun z hz=>?_
  have hz:=(getD_some (d:=0) hz).symm;rw [qT (by omega),if_pos rfl] at hz;subst hz;have hw:Wts n (u.set y.toNat (v - 1)) fun x=>c x+(r.drop (j+1)).count x:=by
   refine ⟨by rw [kW];exact hul,fun x hx=>?_⟩;rw [qT (by omega)]
   by_cases e2:x=y.toNat
   ·rw [if_pos e2,e2];simp only;rw [ey];omega
   ·rw [if_neg e2,k2.2 x hx,zEP hy];simp only;rw [MJ,if_neg (by rw [beq_iff_eq];omega)];rfl
  have hny:=k3.2.2 y.toNat (by omega);rw [<- hv,ey] at hny;have hny1:¬(D y.toNat=true\/y∈q):=fun hh=>by have:=hny.1.mpr hh;omega
  refine vZ (fun hh=>wP (by rw [zls];omega) ?_) fun hh=>?_
  ·refine ih (j+1,_,_) ⟨by simp only;omega,hw,?_,fun x hx=>?_,fun x hx=>?_⟩ (by simp only;omega)
   ·simp only;rw [List.nodup_append];exact ⟨k3.1,by simp,fun a ha b hb hab=>hny1 (.inr (by rw [<- uO.mp hb,<- hab];exact ha))⟩
   ·simp only at hx;rcases wL.mp hx with hx | hx
    ·exact k3.2.1 x hx
    ·rw [uO.mp hx];omega
   ·simp only;rw [qT (by omega),wL,uO]
    by_cases e2:x=y.toNat
    ·rw [if_pos e2];refine ⟨⟨fun _=>.inr (.inr (by omega)),fun _=>eq_of_beq hh⟩,fun h=>hny1 (.inl (by rw [<- e2];exact h.1))⟩
    ·rw [if_neg e2]
     have:=k3.2.2 x hx
     have hne:(x:Int)≠y:=by omega
     simp only [hne,or_false];exact this
  ·refine ih (j+1,_,q) ⟨by simp only;omega,hw,k3.1,k3.2.1,fun x hx=>?_⟩ (by simp only;omega);simp only;rw [qT (by omega)]
   by_cases e2:x=y.toNat
   ·rw [if_pos e2,e2,ey];refine ⟨⟨fun h=>absurd h (by simpa using hh),fun h=>absurd h hny1⟩,hny.2⟩
   ·rw [if_neg e2];exact k3.2.2 x hx
 ·rw [show j=r.length by omega,List.drop_length] at k2;exact k2
theorem zL0 {o q:List Int} (hw:Rws ρ n 4000000 w.next) (hn:n<=32) (ho:Wts n o fun x=>cnt w.next (fun _=>false) x n) (hq:Rdy n (fun _=>false) o q):Ok (LO FF w FF 0 o q) fun r=>r=n:=by
 refine v9 (σ:=Int×List Int×List Int) (fun n s=>LO FF w n s.1 s.2.1 s.2.2)
  (fun s=>∃ D,s.1=dn D n/\Wts n s.2.1 (fun x=>cnt w.next D x n)/\Rdy n D s.2.1 s.2.2) _ (fun s=>n - s.1.toNat) ?_ (0,o,q) ⟨fun _=>false,?_,ho,hq⟩
 ·rintro f ⟨d,a,b⟩ ⟨D,h1,h2,h3⟩ ih;simp only at h1 h2 h3 ih ⊢;have hl:=hw.1;show Ok (VV _ _ _ _ _ _) _;unfold VV;refine xV (fun hi=>?_) fun hi=>yB ?_
  ·rcases b with _ | ⟨x,b⟩
   ·simp at hi
   obtain ⟨c1,c2,c3⟩:=h3;rw [CD] at c1;obtain ⟨x1,x2⟩:=c2 x (tK ..);have ex:((x.toNat:Nat):Int)=x:=by omega
   have hx0:D x.toNat=false:=by
    cases e:D x.toNat
    ·rfl
    ·exact absurd ⟨e,by rw [ex];exact tK ..⟩ (c3 x.toNat (by omega)).2
   rw [show z0 (x::b) 0=some x from rfl,zbs];refine wP (by rw [zlc];omega) ?_;refine vK x1 (by omega) fun r hr=>?_
   have hr:=(getD_some (d:=[]) hr).symm;obtain ⟨r1,r2⟩:=hw.2 x.toNat (by omega);rw [<- hr] at r1 r2;obtain ⟨u1,u2⟩:=zCs (D:=D) (a:=x.toNat) (m:=n) (by omega) hx0;refine yX (zIi (D:=upd D x.toNat) (c:=fun z=>cnt w.next (upd D x.toNat) z n) hn (fun y hy=>⟨(r2 y hy).1,(r2 y hy).2.1⟩) r1 (fun y=>?_) (a:=a) (b:=(x::b).drop 1) ?_ ?_) ?_
   ·have:=zCx (nx:=w.next) (D:=upd D x.toNat) (x:=y) (m:=n) (b:=4000000) fun a ha=>(hw.2 a ha).1
    show cnt _ _ _ _<=_;omega
   ·refine ⟨h2.1,fun y hy=>?_⟩;rw [h2.2 y hy,hr];simp only;rw [u2]
   ·refine ⟨c1.2,fun y hy=>c2 y (qX _ hy),fun y hy=>?_⟩;have h4:=c3 y hy;show (_↔upd D x.toNat y=true\/(y:Int)∈b)/\¬(upd D x.toNat y=true/\(y:Int)∈b)
    by_cases e:y=x.toNat
    ·have e2:upd D x.toNat y=true:=if_pos e;have e3:(y:Int)=x:=by omega
     rw [e2,e3];refine ⟨⟨fun _=>.inl rfl,fun _=>h4.1.mpr (.inr (by rw [e3];exact tK ..))⟩,fun h=>c1.1 h.2⟩
    ·have e2:upd D x.toNat y=D y:=if_neg e;have e3:(y:Int)≠x:=by omega
     rw [e2];simpa only [uA,e3,false_or] using h4
   ·rintro ⟨a2,b2⟩ ⟨g1,g2⟩;have hd:=zBR (upd D x.toNat) n;have hd2:=zBR D n;simp only at g1 g2 ⊢;rw [w5];refine ih (d+1,a2,b2) ⟨upd D x.toNat,by simp only;omega,g1,g2⟩ (by simp only;omega)
  ·have hb:b=[]:=by
    rcases b with _ | ⟨x,b⟩
    ·rfl
    ·simp only [zlc] at hi;omega
   subst hb
   have:∀ a<n,D a=true:=by
    intro a ha;cases e:D a
    ·obtain ⟨c,c1,c2,c3⟩:=least (ρ:=ρ) n ⟨a,ha,e⟩;have h4:=(h3.2.2 c c1).1;have h5:¬cnt w.next D c n=0:=fun h=>by
      rw [h2.2 c c1] at h4;simp only at h4;rw [h] at h4;rcases h4.mp rfl with h4 | h4
      ·rw [c2] at h4;cases h4
      ·cases h4
     obtain ⟨b,b1,b2,b3⟩:=zI5 h5;obtain ⟨_,_,h6⟩:=(hw.2 b b1).2 _ b3
     have:=c3 b b1 b2
     rw [wB] at h6;omega
    ·rfl
   rw [h1,zGy this]
 ·have:∀ m,dn (fun _=>false) m=0:=by
   intro m
   induction m with
   | zero=>rfl
   | succ m ih=>unfold dn;rw [ih];rfl
  simp only;rw [this n];rfl
end
theorem zFk:∀ {b:List Bool} {i:Nat},b[i]?=some false->(b.set i true).count false+1=b.count false:=by
 intro b
 induction b with
 | nil=>intro i h;cases h
 | cons x b ih =>
  intro i h;cases i with
  | zero =>
   have h:some x=some false:=h;injection h with h;subst h;simp
  | succ i =>
   have:=ih (i:=i) h
   rw [MU,MJ,MJ];omega
section
variable {l:z6} {ρ:Nat->Int}
structure Wld (l:z6) (ρ:Nat->Int) (w:yR):Prop where
 lg:w.l=l
 ids:w.ids=uE l.Xa
 Xm:w.Xm=evL l.Xa
 at_:∃ m,w.at_=some m/\M6 (uE l.Xa) (evN l.Xa) m
 next:Rws ρ (evN l.Xa) 4000000 w.next
theorem zDr (h:Tr l ρ):Ok (bX FF l) fun r=>r.2=0/\Wld l ρ r.1:=by
 have hn:=h.n;have hil:(uE l.Xa).length=evN l.Xa:=rK _;have hel:=LH l.Xa;unfold bX;refine yX (zNo h) ?_;rintro ⟨w,q⟩ ⟨e0,m,hm,e1⟩;simp only at e0 e1 ⊢;subst e0 e1;refine vZ (fun hh=>absurd hh (by decide)) fun _=>?_
 simp only [zbs,jE];have e:List.map (fun _=>([]:List Int)) (List.replicate (evN l.Xa) ([]:List Int))=List.replicate (evN l.Xa) []:=by rw [List.map_replicate]
 rw [e];refine yX (zMD h (w:=⟨l,uE l.Xa,some m,evL l.Xa,List.replicate (evN l.Xa) []⟩) rfl rfl rfl) fun nx hx=>?_
 refine wP (by rw [hx.1,k8]) ?_;have hg:gS ⟨l,uE l.Xa,some m,evL l.Xa,nx⟩:=by
  refine ⟨by show (uE l.Xa).length<40;omega,by show (evL l.Xa).length=(uE l.Xa).length;omega,by show nx.length=_;rw [hx.1,hil],fun r hr=>?_,h.thl,fun x hx=>?_⟩
  ·obtain ⟨a,ha⟩:=uG.mp hr;have hal:a<nx.length:=(vO.mp ha).1
   have:=(hx.2 a (by rw [<- hx.1];exact hal)).1
   rw [getD_some ha] at this;omega
  ·obtain ⟨a,ha⟩:=uG.mp hx;have hal:a<(uE l.Xa).length:=(vO.mp ha).1
   have:=h.th a (by omega)
   rw [idA,getD_some ha] at this;exact this
 refine yX (zKT (F:=FF) hg (by decide)) fun nx2 hx2=>?_
 obtain ⟨y1,y2⟩:=hx2;refine wP (by rw [y1,hx.1];exact hil) ?_;have hW:Wld l ρ ⟨l,uE l.Xa,some m,evL l.Xa,nx2⟩:=by
  refine ⟨rfl,rfl,rfl,⟨m,rfl,hm⟩,y1.trans hil,fun a ha=>?_⟩;obtain ⟨c,c1,c2,c3⟩:=y2 a (by show a<(uE l.Xa).length;omega);obtain ⟨d1,d2⟩:=hx.2 a ha;simp only at c1 ⊢;rw [c1,zla];refine ⟨by omega,fun x hx=>?_⟩;rcases wL.mp hx with hx | hx
  ·exact d2 x hx
  ·obtain ⟨f1,f2,f3,d,⟨s,s1,s2,s3⟩,t,t1,t2,t3⟩:=c3 x hx;have f2':x<(uE l.Xa).length:=f2;exact ⟨f1,by omega,h.e3 a ha x.toNat (by omega) f3 ⟨s,s1,t,t1,s2,t2,by rw [s3,t3]⟩⟩
 refine wP (by show (uE l.Xa).length * 8<=_;omega) ?_;have hrl:(List.replicate (uE l.Xa).length (0:Int))=List.replicate (evN l.Xa) 0:=by rw [hil]
 rw [hrl];refine yX (zJo hW.next hn hil) fun o ho=>yX (zLx ho.1 hn) fun q hq=>yX (zL0 hW.next hn ho hq) fun r hr=>?_
 refine xV (fun hh=>?_) fun _=>yB ⟨rfl,hW⟩
 have:r<((uE l.Xa).length:Int):=hh
 omega
theorem zCZ {w:yR} (h:Tr l ρ) (hw:Wld l ρ w) {i:Int} (h0:0<=i) (h1:i<evN l.Xa):Ok (DV FF w i) fun b=>b.length=evN l.Xa/\∀ k<evN l.Xa,b.getD k false=true->ρ i.toNat<ρ k:=by
 have hn:=h.n;have hil:w.ids.length=evN l.Xa:=by rw [hw.ids];exact rK _
 have hnl:=hw.next.1;unfold DV LQ;refine wP (by omega) (vK h0 (by omega) fun r hr=>?_);have hr:=(getD_some (d:=[]) hr).symm;obtain ⟨r1,r2⟩:=hw.next.2 i.toNat (by omega);rw [<- hr] at r1 r2;rw [tB (by simp only [fC];omega),zbs,zbs,EO,hil];refine yX (P:=fun b=>b.length=evN l.Xa/\∀ k<evN l.Xa,b.getD k false=true->ρ i.toNat<ρ k) ?_ fun b hb=>yB hb
 refine gN (σ:=List Bool×List Int) (fun n s=>QF FF w n s.1 s.2)
  (fun s=>s.1.length=evN l.Xa/\(∀ k<evN l.Xa,s.1.getD k false=true->ρ i.toNat<ρ k)/\(∀ x∈s.2,0<=x/\x<evN l.Xa/\ρ i.toNat<ρ x.toNat)/\s.2.length+s.1.count false * 4000000<=33 * 4000000)
  _ (fun s=>s.1.count false * 4000001+s.2.length) ?_ FF (List.replicate (evN l.Xa) false,r) ⟨k8,fun k hk hk2=>?_,r2,?_⟩ ?_
 ·rintro f ⟨b,q⟩ ⟨a1,a2,a3,a4⟩ ih;simp only at a1 a2 a3 a4 ih ⊢;show Ok (SM _ _ _ _ _) _;unfold SM;refine xV (fun hi=>?_) fun hi=>yB ⟨a1,a2⟩
  rw [o8,show ((q.length:Int) - 1).toNat=q.length - 1 by omega];refine wO fun x hx=>wP (by omega) ?_
  obtain ⟨x0,x1,x2⟩:=a3 x (yN hx);have htl:(q.take (q.length - 1)).length=q.length - 1:=by rw [nL];omega
  have ht:∀ y∈q.take (q.length - 1),0<=y/\y<evN l.Xa/\ρ i.toNat<ρ y.toNat:=fun y hy=>a3 y (aK hy)
  refine vK x0 (by omega) fun v hv=>vZ (fun hh=>?_) fun hh=>ih (b,_) ⟨a1,a2,ht,by simp only;omega⟩ (by simp only;omega)
  rw [pH] at hh;subst hh;have hc:=zFk hv;refine vK x0 (by omega) fun v2 hv2=>vK x0 (by omega) fun s hs=>?_
  have hs:=(getD_some (d:=[]) hs).symm;obtain ⟨s1,s2⟩:=hw.next.2 x.toNat (by omega);rw [<- hs] at s1 s2;refine wP (by omega) (ih (_,_) ⟨by simp only [kW];exact a1,fun k hk hk2=>?_,fun y hy=>?_,by simp only [zla];omega⟩ (by simp only [zla];omega))
  ·simp only at hk2;rw [qT (by omega)] at hk2
   by_cases e:k=x.toNat
   ·rw [e];exact x2
   ·rw [if_neg e] at hk2;exact a2 k hk hk2
  ·rcases wL.mp hy with hy | hy
   ·exact ht y hy
   ·obtain ⟨t1,t2,t3⟩:=s2 y hy;exact ⟨t1,t2,by omega⟩
 ·simp only at hk2;rw [vQ,iE,if_pos hk] at hk2;cases hk2
 ·simp only;rw [zA9];omega
 ·show _<281474976710656;simp only;rw [zA9];omega
end
end Go.Ab
