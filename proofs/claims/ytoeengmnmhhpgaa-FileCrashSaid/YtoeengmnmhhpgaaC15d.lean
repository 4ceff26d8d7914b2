/- Plain laws of the functions wU this seat's, laid anew from another seat's text. No conditions but those that the theorems name. -/
import Derived.Test.YtoeengmnmhhpgaaP15xD
import Derived.Test.YtoeengmnmhhpgaaR15
import Derived.Test.YtoeengmnmhhpgaaB15a
import Derived.Test.YtoeengmnmhhpgaaB15b
import Derived.Test.YtoeengmnmhhpgaaB15c
import Derived.Test.YtoeengmnmhhpgaaB15d
import Derived.Test.YtoeengmnmhhpgaaB15e
import Derived.Test.YtoeengmnmhhpgaaB15f
import Derived.Test.YtoeengmnmhhpgaaB15g
import Derived.Test.YtoeengmnmhhpgaaB15h
import Derived.Test.YtoeengmnmhhpgaaB15i
import Derived.Test.YtoeengmnmhhpgaaB15j
import Derived.Test.YtoeengmnmhhpgaaB15k
import Derived.Test.YtoeengmnmhhpgaaB15t
import Derived.Test.YtoeengmnmhhpgaaB15m
import Derived.Test.YtoeengmnmhhpgaaB15n
import Derived.Test.YtoeengmnmhhpgaaB15o
import Derived.Test.YtoeengmnmhhpgaaC15a
import Derived.Test.YtoeengmnmhhpgaaC15b
import Derived.Test.YtoeengmnmhhpgaaC15c
namespace Go.Ab
open Go
set_option linter.unusedVariables false
theorem zB8 {b:List Int} (hb:wI b):∃ x p,DV 281474976710656 b=some (x,p)∧match pM b with | some (y,[])=>x=y∧p=true | _=>p=false:=by
 obtain ⟨a,b1,d,e,s1,s2,s3,s4⟩:=UN (bad:=false) hb
 unfold DV
 rw [e,zbs]
 simp only
 cases d with
 | true =>
  refine ⟨a,false,rfl,?_⟩
  have:=s4 rfl
  cases hp:pM b with
  | none=>rfl
  | some v=>obtain ⟨v,r⟩:=v;rw [hp] at this;exact absurd this.2.2 (by simp)
 | false =>
  have:=s4 rfl
  cases hp:pM b with
  | none=>rw [hp] at this;cases this
  | some v =>
   obtain ⟨v,r⟩:=v
   rw [hp] at this
   obtain ⟨rfl,rfl,_⟩:=this
   obtain ⟨u1,u2⟩:=NJ.uniq b a b1 hb.1 hp
   simp only [Bool.not_false,cond_true]
   rw [NH (by simp) u2,zbs]
   unfold cN
   refine ⟨a,[]++jB a==b,rfl,?_⟩
   rw [List.nil_append]
   cases b1 with
   | nil=>rw [List.append_nil] at u1;exact ⟨rfl,beq_iff_eq.2 u1.symm⟩
   | cons c r =>
    show (_==b)=false
    refine beq_eq_false_iff_ne.2 fun h=>?_
    rw [u1] at h
    have:=congrArg List.length h
    simp at this
theorem O1 {b:List Int} (hb:wI b):∃ x p,CE 281474976710656 b=some (x,p)∧match a9 b with | some (y,[])=>x=y∧p=true | _=>p=false:=by
 obtain ⟨n,b1,d1,e1,s1,n1,n2⟩:=ME (bad:=false) (most:=64) hb (by omega)
 obtain ⟨b2,d2,ts,e2,s2⟩:=zBx (r:=(n,⟨b1,d1⟩)) n.toNat 281474976710656 0 b1 d1 [] (by simp only;omega) (by omega) (by omega) s1.1 (by simp;omega)
 obtain ⟨m,b3,d3,e3,s3,m1,m2⟩:=ME (bad:=d2) (most:=8) s2.1 (by omega)
 obtain ⟨b4,d4,ds,e4,s4⟩:=zAk (r:=(m,⟨b3,d3⟩)) m.toNat 281474976710656 0 b3 d3 [] (by simp only;omega) (by omega) (by omega) s3.1 (by simp;omega)
 obtain ⟨k,b5,d5,e5,s5,k1,k2⟩:=ME (bad:=d4) (most:=200) s4.1 (by omega)
 obtain ⟨b6,d6,ss,e6,s6⟩:=ZD (r:=(k,⟨b5,d5⟩)) k.toNat 281474976710656 0 b5 d5 [] (by simp only;omega) (by omega) (by omega) s5.1 (by simp;omega)
 have hst:k8 a9 b false (⟨ts,ds,ss⟩:zT) b6 d6:=s1.comb (s2.comb (s3.comb (s4.comb (s5.comb (s6.comb (.pure s6.1))))))
 unfold CE
 rw [e1,zbs]
 simp only
 rw [show o9 281474976710656 (n,⟨b1,d1⟩) 281474976710656 (0:Int) b1 d1 []=_ from e2,zbs]
 simp only [List.nil_append]
 rw [e3,zbs]
 simp only
 rw [show rT 281474976710656 (m,⟨b3,d3⟩) 281474976710656 (0:Int) b3 d3 []=_ from e4,zbs]
 simp only [List.nil_append]
 rw [e5,zbs]
 simp only
 rw [show oS 281474976710656 (k,⟨b5,d5⟩) 281474976710656 (0:Int) b5 d5 []=_ from e6,zbs]
 simp only [List.nil_append]
 obtain ⟨_,_,_,hq⟩:=hst
 have hq:=hq rfl
 cases d6 with
 | true =>
  refine ⟨_,false,rfl,?_⟩
  cases hp:a9 b with
  | none=>rfl
  | some v=>obtain ⟨v,r⟩:=v;rw [hp] at hq;exact absurd hq.2.2 (by simp)
 | false =>
  cases hp:a9 b with
  | none=>rw [hp] at hq;cases hq
  | some v =>
   obtain ⟨v,r⟩:=v
   rw [hp] at hq
   obtain ⟨rfl,rfl,_⟩:=hq
   obtain ⟨u1,u2⟩:=EN.uniq b _ b6 hb.1 hp
   simp only [Bool.not_false,cond_true]
   rw [VB u2,zbs]
   unfold cN
   refine ⟨_,hdB ⟨ts,ds,ss⟩==b,rfl,?_⟩
   cases b6 with
   | nil=>rw [List.append_nil] at u1;exact ⟨rfl,beq_iff_eq.2 u1.symm⟩
   | cons c r =>
    show (_==b)=false
    refine beq_eq_false_iff_ne.2 fun h=>?_
    rw [u1] at h
    have:=congrArg List.length h
    simp at this
/-! Chunks. -/
def nB (k:Int) (b:List Int):Int:=i32 (mW (k::b))
theorem G9 (k:Int) (b:List Int):yS (nB k b):=by
 have:=KJ (mW (k::b))
 unfold nB yS;omega
def y9 (k:Int) (b:List Int):List Int:=k::(wY b.length++wY (nB k b)++b)
def tF:List Int→Option (Int×List Int×List Int)
 | []=>none
 | k::t=>(vM t).bind fun x=>(vM x.2).bind fun y=>if 0≤x.1∧x.1≤y.2.length∧nB k (y.2.take x.1.toNat)=y.1 then some (k,y.2.take x.1.toNat,y.2.drop x.1.toNat) else none
theorem GF (k:Int) (t:List Int):tF (k::t)=(vM t).bind fun x=>(vM x.2).bind fun y=>if 0≤x.1∧x.1≤y.2.length∧nB k (y.2.take x.1.toNat)=y.1 then some (k,y.2.take x.1.toNat,y.2.drop x.1.toNat) else none:=rfl
def r8 (b:List Int):Int×List Int×Int:=match tF b with | none=>(0,[],0) | some (k,body,r)=>(k,body,(b.length:Int) - r.length)
theorem zCu {b body r:List Int} {k:Int} (hb:∀ x∈b,xO x) (h:tF b=some (k,body,r)):b=y9 k body++r:=by
 cases b with
 | nil=>cases h
 | cons c t =>
  rw [GF] at h
  have ht:∀ x∈t,xO x:=fun x hx=>hb x (by simp [hx])
  cases h1:vM t with
  | none=>rw [h1] at h;cases h
  | some x =>
   obtain ⟨n,t1⟩:=x
   rw [h1,zbs] at h
   obtain ⟨e1,l1⟩:=jQ.uniq t n t1 ht h1
   simp only at h
   cases h2:vM t1 with
   | none=>rw [h2] at h;cases h
   | some y =>
    obtain ⟨s,t2⟩:=y
    rw [h2,zbs] at h
    obtain ⟨e2,l2⟩:=jQ.uniq t1 s t2 (fun z hz=>ht z (by rw [e1];simp [hz])) h2
    simp only at h
    by_cases hc:0≤n∧n≤t2.length∧nB c (t2.take n.toNat)=s
    ·rw [if_pos hc] at h
     injection h with h;injection h with h3 h;injection h with h4 h5
     obtain ⟨c1,c2,c3⟩:=hc
     have hlen:(body.length:Int)=n:=by rw [← h4,List.length_take];omega
     subst h3
     unfold y9
     rw [e1,e2,← h4] at *
     rw [show nB c (List.take n.toNat t2)=s from c3]
     rw [show ((List.take n.toNat t2).length:Int)=n by rw [List.length_take];omega,← h5]
     simp
    ·rw [if_neg hc] at h;cases h
theorem BF {body r:List Int} {k:Int} (hl:body.length≤100000):tF (y9 k body++r)=some (k,body,r):=by
 unfold y9
 rw [List.cons_append]
 rw [GF]
 rw [List.append_assoc,List.append_assoc,jQ.back _ _ (by unfold yS;omega),zbs]
 simp only
 rw [jQ.back _ _ (G9 _ _),zbs]
 simp only
 rw [Int.toNat_natCast,List.take_left,List.drop_left,if_pos ⟨by omega,by simp only [zla];omega,rfl⟩]
theorem SL {body:List Int} {k:Int} {j:Nat} (hl:body.length≤100000) (hj:j<(y9 k body).length):tF ((y9 k body).take j)=none:=by
 unfold y9 at hj ⊢
 cases j with
 | zero=>rfl
 | succ j =>
  rw [List.take_succ_cons]
  rw [GF]
  simp only [zlc,zla] at hj
  have ho:yS (body.length:Int):=by unfold yS;omega
  have hs:=G9 k body
  rw [List.append_assoc]
  rcases zlg j (wY (body.length:Int)).length with h1 | h1
  ·rw [List.take_append_of_le_length (by omega),O5 ho h1];rfl
  ·obtain ⟨q,rfl⟩:∃ q,j=(wY (body.length:Int)).length+q:=⟨j - (wY (body.length:Int)).length,by omega⟩
   rw [List.take_length_add_append,jQ.back _ _ ho,zbs]
   simp only
   rcases zlg q (wY (nB k body)).length with h2 | h2
   ·rw [List.take_append_of_le_length (by omega),O5 hs h2];rfl
   ·obtain ⟨u,rfl⟩:∃ u,q=(wY (nB k body)).length+u:=⟨q - (wY (nB k body)).length,by omega⟩
    rw [List.take_length_add_append,jQ.back _ _ hs,zbs]
    simp only
    rw [if_neg]
    rintro ⟨_,h3,_⟩
    rw [List.length_take] at h3
    omega
theorem g9 (k:Int) (b:List Int):b.length+3≤(y9 k b).length∧(y9 k b).length≤b.length+21:=by
 have h1:=u7 (b.length:Int);have h2:=u7 (nB k b)
 unfold y9
 simp only [zlc,zla];omega
theorem H1 {k:Int} {b:List Int} (hk:xO k) (hb:∀ x∈b,xO x) (hl:b.length≤100000):∀ x∈y9 k b,xO x:=by
 intro x hx
 unfold y9 at hx
 rcases List.mem_cons.1 hx with rfl | hx
 ·exact hk
 ·rcases List.mem_append.1 hx with hx | hx
  ·rcases List.mem_append.1 hx with hx | hx
   ·exact AH (by unfold yS;omega) x hx
   ·exact AH (G9 _ _) x hx
  ·exact hb x hx
theorem zBj {b:List Int} {a n:Nat} (h:a+n≤b.length):sub b (a:Int) ((a:Int)+(n:Int))=(b.drop a).take n:=by
 unfold sub
 rw [List.drop_take,show ((a:Int)+(n:Int)).toNat - ((a:Int)).toNat=n by omega,Int.toNat_natCast]
theorem TX {k:Int} {b:List Int} (hk:xO k) (hb:∀ x∈b,xO x) (hl:b.length≤100000):mQ 281474976710656 k b=some (nB k b):=by
 unfold mQ
 rw [x7 (by simp only [zls];omega),zbs,List.singleton_append,zDD (fun x hx=>by rcases List.mem_cons.1 hx with rfl | hx;exact hk;exact hb x hx) (by simp only [zlc];omega) (by omega) (by simp only [zlc];omega)];rfl
theorem EW {k:Int} {b:List Int} (hk:xO k) (hb:∀ x∈b,xO x) (hl:b.length≤100000):dH 281474976710656 k b=some (y9 k b):=by
 have h1:=(u7 (b.length:Int)).2;have h2:=(u7 (nB k b)).2
 unfold wY at h1 h2
 unfold dH
 rw [jK (by unfold yS;omega) (by simp) (by omega),zbs,TX hk hb hl,zbs,jK (G9 _ _) (by simp only [zla,zls];omega) (by omega),zbs,x7 (by simp only [zla,zls];omega),zbs]
 simp [y9,wY]
theorem MP {b:List Int} (hb:wI b):rV 281474976710656 b=some (r8 b):=by
 have hl:=hb.2
 unfold rV r8
 cases b with
 | nil=>rfl
 | cons k t =>
  have ht:∀ x∈t,xO x:=fun x hx=>hb.1 x (by simp [hx])
  have hlt:(k::t).length=t.length+1:=rfl
  rw [tA (by omega),cond_false,x7 (by omega),zbs]
  have hd1:sub (k::t) (1:Int) ((k::t).length:Int)=t:=by rw [oT (by omega)];rfl
  rw [hd1,oP ht (by omega) (by omega),zbs]
  have hv:=dI (i:=0) (u:=0) ht (by omega) (by omega) (by decide)
  rw [GF]
  by_cases he:(vrd t 0 0).2.2≠0
  ·rw [wA he,cond_true,EX he];rfl
  have he:(vrd t 0 0).2.2=0:=by omega
  have hr:=hv.2.1 he
  rw [x8 he,cond_false,EZ he,zbs]
  generalize hkk:(vrd t 0 0).2.1=kk at *
  generalize hnn:(vrd t 0 0).1=nn at *
  have hdt:wI (t.drop kk.toNat):=wI.drop ⟨ht,by omega⟩ _
  rw [w64 (by omega) (by omega),x7 (by omega),zbs]
  have hd2:sub (k::t) ((1:Int)+kk) ((k::t).length:Int)=t.drop kk.toNat:=by
   rw [oT (by omega),show ((1:Int)+kk).toNat=kk.toNat+1 by omega];rfl
  rw [hd2,oP hdt.1 (by have:=hdt.2;omega) (by have:=hdt.2;omega),zbs]
  have hv2:=dI (i:=0) (u:=0) hdt.1 (by omega) (by omega) (by decide)
  simp only
  by_cases he2:(vrd (t.drop kk.toNat) 0 0).2.2≠0
  ·rw [wA he2,Bool.true_or,cond_true,EX he2];rfl
  have he2:(vrd (t.drop kk.toNat) 0 0).2.2=0:=by omega
  have hr2:=hv2.2.1 he2
  rw [x8 he2,Bool.false_or,EZ he2,zbs]
  generalize hmm:(vrd (t.drop kk.toNat) 0 0).2.1=mm at *
  generalize hss:(vrd (t.drop kk.toNat) 0 0).1=ss at *
  simp only
  rw [List.length_drop] at hr2
  have hdd:(t.drop kk.toNat).drop mm.toNat=(k::t).drop (1+kk.toNat+mm.toNat):=by
   rw [List.drop_drop,show 1+kk.toNat+mm.toNat=kk.toNat+mm.toNat+1 by omega];rfl
  rw [hdd]
  have hlen2:((k::t).drop (1+kk.toNat+mm.toNat)).length=(k::t).length - (1+kk.toNat+mm.toNat):=List.length_drop
  rw [w64 (show -9223372036854775808≤(1:Int)+kk+mm by omega) (by omega),w64 (show -9223372036854775808≤(((k::t).length:Int)) - ((1:Int)+kk+mm) by omega) (by omega)]
  have hnr:yS nn:=hv.1
  unfold yS at hnr
  by_cases hc:0≤nn∧nn≤(k::t).length - ((1:Int)+kk+mm)
  ·rw [yO (by omega),yO (by omega),Bool.or_self,cond_false,w64 (by omega) (by omega),x7 (by omega),zbs]
   have hsb:sub (k::t) ((1:Int)+kk+mm) ((1:Int)+kk+mm+nn)=((k::t).drop (1+kk.toNat+mm.toNat)).take nn.toNat:=by
    have:=zBj (b:=k::t) (a:=1+kk.toNat+mm.toNat) (n:=nn.toNat) (by omega)
    rw [← this]
    congr 1<;>omega
   have hbb:∀ x∈((k::t).drop (1+kk.toNat+mm.toNat)).take nn.toNat,xO x:=fun x hx=>hb.1 x (List.mem_of_mem_drop (List.mem_of_mem_take hx))
   rw [show xI (k::t) (0:Int)=some k from rfl,zbs,hsb,TX (hb.1 k (by simp)) hbb (by rw [List.length_take,hlen2];omega),zbs]
   by_cases hsum:nB k (((k::t).drop (1+kk.toNat+mm.toNat)).take nn.toNat)=ss
   ·rw [x8 hsum,cond_false,zbs,if_pos ⟨hc.1,by omega,hsum⟩]
    simp only [Option.some.injEq,Prod.mk.injEq,true_and]
    rw [List.length_drop,hlen2];omega
   ·rw [wA hsum,cond_true,if_neg (fun h=>hsum h.2.2)]
  ·rw [if_neg (fun h=>hc ⟨h.1,by omega⟩)]
   rw [show (decide (nn<(0:Int))||decide (nn>((k::t).length:Int) - ((1:Int)+kk+mm)))=true by
    by_cases h0:nn<0
    ·rw [yU h0];rfl
    ·rw [yU (show nn>((k::t).length:Int) - ((1:Int)+kk+mm) by omega),Bool.or_true],cond_true]
end Go.Ab
