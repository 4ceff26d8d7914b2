/- Plain laws of the functions uV this seat's, laid anew from another seat's text. No conditions but those that the theorems name. -/
import Derived.Test.YtoeengmnmhhpgaaGreatP15zxD
import Derived.Test.YtoeengmnmhhpgaaGreatR15z
import Derived.Test.YtoeengmnmhhpgaaGreatB15za
import Derived.Test.YtoeengmnmhhpgaaGreatB15zb
import Derived.Test.YtoeengmnmhhpgaaGreatB15zc
import Derived.Test.YtoeengmnmhhpgaaGreatB15zd
import Derived.Test.YtoeengmnmhhpgaaGreatB15ze
import Derived.Test.YtoeengmnmhhpgaaGreatB15zf
import Derived.Test.YtoeengmnmhhpgaaGreatB15zg
import Derived.Test.YtoeengmnmhhpgaaGreatB15zh
import Derived.Test.YtoeengmnmhhpgaaGreatB15zi
import Derived.Test.YtoeengmnmhhpgaaGreatB15zj
import Derived.Test.YtoeengmnmhhpgaaGreatB15zk
import Derived.Test.YtoeengmnmhhpgaaGreatB15zt
import Derived.Test.YtoeengmnmhhpgaaGreatB15zm
import Derived.Test.YtoeengmnmhhpgaaGreatB15zn
import Derived.Test.YtoeengmnmhhpgaaGreatB15zo
import Derived.Test.YtoeengmnmhhpgaaGreatC15za
import Derived.Test.YtoeengmnmhhpgaaGreatC15zb
import Derived.Test.YtoeengmnmhhpgaaGreatC15zc
namespace Go.Ab
open Go
set_option linter.unusedVariables false
theorem zAG {b:List Int} (hb:vV b):∃ x p,HG 281474976710656 b=some (x,p)∧match kV b with | some (y,[])=>x=y∧p=true | _=>p=false:=by
 obtain ⟨a,b1,d,e,s1,s2,s3,s4⟩:=U5 (bad:=false) hb
 unfold HG
 rw [e,zbs]
 simp only
 cases d with
 | true =>
  refine ⟨a,false,rfl,?_⟩
  have:=s4 rfl
  cases hp:kV b with
  | none=>rfl
  | some v=>obtain ⟨v,r⟩:=v;rw [hp] at this;exact absurd this.2.2 (by simp)
 | false =>
  have:=s4 rfl
  cases hp:kV b with
  | none=>rw [hp] at this;cases this
  | some v =>
   obtain ⟨v,r⟩:=v
   rw [hp] at this
   obtain ⟨rfl,rfl,_⟩:=this
   obtain ⟨u1,u2⟩:=S0.uniq b a b1 hb.1 hp
   simp only [Bool.not_false,cond_true]
   rw [S6 (by simp) u2,zbs]
   unfold dD
   refine ⟨a,[]++aU a==b,rfl,?_⟩
   rw [List.nil_append]
   cases b1 with
   | nil=>rw [List.append_nil] at u1;exact ⟨rfl,beq_iff_eq.2 u1.symm⟩
   | cons c r =>
    show (_==b)=false
    refine beq_eq_false_iff_ne.2 fun h=>?_
    rw [u1] at h
    have:=congrArg List.length h
    simp at this
theorem SQ {b:List Int} (hb:vV b):∃ x p,HI 281474976710656 b=some (x,p)∧match pI b with | some (y,[])=>x=y∧p=true | _=>p=false:=by
 obtain ⟨n,b1,d1,e1,s1,n1,n2⟩:=OQ (bad:=false) (most:=64) hb (by omega)
 obtain ⟨b2,d2,ts,e2,s2⟩:=zFm (r:=(n,⟨b1,d1⟩)) n.toNat 281474976710656 0 b1 d1 [] (by simp only;omega) (by omega) (by omega) s1.1 (by simp;omega)
 obtain ⟨m,b3,d3,e3,s3,m1,m2⟩:=OQ (bad:=d2) (most:=8) s2.1 (by omega)
 obtain ⟨b4,d4,ds,e4,s4⟩:=zBl (r:=(m,⟨b3,d3⟩)) m.toNat 281474976710656 0 b3 d3 [] (by simp only;omega) (by omega) (by omega) s3.1 (by simp;omega)
 obtain ⟨k,b5,d5,e5,s5,k1,k2⟩:=OQ (bad:=d4) (most:=200) s4.1 (by omega)
 obtain ⟨b6,d6,ss,e6,s6⟩:=zDk (r:=(k,⟨b5,d5⟩)) k.toNat 281474976710656 0 b5 d5 [] (by simp only;omega) (by omega) (by omega) s5.1 (by simp;omega)
 have hst:qF pI b false (⟨ts,ds,ss⟩:yF) b6 d6:=s1.comb (s2.comb (s3.comb (s4.comb (s5.comb (s6.comb (.pure s6.1))))))
 unfold HI
 rw [e1,zbs]
 simp only
 rw [show rF 281474976710656 (n,⟨b1,d1⟩) 281474976710656 (0:Int) b1 d1 []=_ from e2,zbs]
 simp only [List.nil_append]
 rw [e3,zbs]
 simp only
 rw [show BS 281474976710656 (m,⟨b3,d3⟩) 281474976710656 (0:Int) b3 d3 []=_ from e4,zbs]
 simp only [List.nil_append]
 rw [e5,zbs]
 simp only
 rw [show B3 281474976710656 (k,⟨b5,d5⟩) 281474976710656 (0:Int) b5 d5 []=_ from e6,zbs]
 simp only [List.nil_append]
 obtain ⟨_,_,_,hq⟩:=hst
 have hq:=hq rfl
 cases d6 with
 | true =>
  refine ⟨_,false,rfl,?_⟩
  cases hp:pI b with
  | none=>rfl
  | some v=>obtain ⟨v,r⟩:=v;rw [hp] at hq;exact absurd hq.2.2 (by simp)
 | false =>
  cases hp:pI b with
  | none=>rw [hp] at hq;cases hq
  | some v =>
   obtain ⟨v,r⟩:=v
   rw [hp] at hq
   obtain ⟨rfl,rfl,_⟩:=hq
   obtain ⟨u1,u2⟩:=HF.uniq b _ b6 hb.1 hp
   simp only [Bool.not_false,cond_true]
   rw [zAo u2,zbs]
   unfold dD
   refine ⟨_,hdB ⟨ts,ds,ss⟩==b,rfl,?_⟩
   cases b6 with
   | nil=>rw [List.append_nil] at u1;exact ⟨rfl,beq_iff_eq.2 u1.symm⟩
   | cons c r =>
    show (_==b)=false
    refine beq_eq_false_iff_ne.2 fun h=>?_
    rw [u1] at h
    have:=congrArg List.length h
    simp at this
theorem zBq {b:List Int} (hb:vV b):∃ x p,C9 281474976710656 b=some (x,p)∧match pI b with | some (y,[])=>x=y∧p=decide (aH y=0) | _=>p=false:=by
 obtain ⟨n,b1,d1,e1,s1,n1,n2⟩:=N2 (bad:=false) (most:=64) hb (by omega)
 obtain ⟨b2,d2,ts,e2,s2⟩:=zEW (r:=(n,⟨b1,d1⟩)) n.toNat 281474976710656 0 b1 d1 [] (by simp only;omega) (by omega) (by omega) s1.1 (by simp;omega)
 obtain ⟨m,b3,d3,e3,s3,m1,m2⟩:=N2 (bad:=d2) (most:=8) s2.1 (by omega)
 obtain ⟨b4,d4,ds,e4,s4⟩:=zBr (r:=(m,⟨b3,d3⟩)) m.toNat 281474976710656 0 b3 d3 [] (by simp only;omega) (by omega) (by omega) s3.1 (by simp;omega)
 obtain ⟨k,b5,d5,e5,s5,k1,k2⟩:=N2 (bad:=d4) (most:=200) s4.1 (by omega)
 obtain ⟨b6,d6,ss,e6,s6⟩:=zAd (r:=(k,⟨b5,d5⟩)) k.toNat 281474976710656 0 b5 d5 [] (by simp only;omega) (by omega) (by omega) s5.1 (by simp;omega)
 have hst:qF pI b false (⟨ts,ds,ss⟩:yF) b6 d6:=s1.comb (s2.comb (s3.comb (s4.comb (s5.comb (s6.comb (.pure s6.1))))))
 unfold C9
 rw [e1,zbs]
 simp only
 rw [show AN 281474976710656 (n,⟨b1,d1⟩) 281474976710656 (0:Int) b1 d1 []=_ from e2,zbs]
 simp only [List.nil_append]
 rw [e3,zbs]
 simp only
 rw [show BK 281474976710656 (m,⟨b3,d3⟩) 281474976710656 (0:Int) b3 d3 []=_ from e4,zbs]
 simp only [List.nil_append]
 rw [e5,zbs]
 simp only
 rw [show rJ 281474976710656 (k,⟨b5,d5⟩) 281474976710656 (0:Int) b5 d5 []=_ from e6,zbs]
 simp only [List.nil_append]
 obtain ⟨_,_,_,hq⟩:=hst
 have hq:=hq rfl
 cases d6 with
 | true =>
  refine ⟨_,false,rfl,?_⟩
  cases hp:pI b with
  | none=>rfl
  | some v=>obtain ⟨v,r⟩:=v;rw [hp] at hq;exact absurd hq.2.2 (by simp)
 | false =>
  cases hp:pI b with
  | none=>rw [hp] at hq;cases hq
  | some v =>
   obtain ⟨v,r⟩:=v
   rw [hp] at hq
   obtain ⟨rfl,rfl,_⟩:=hq
   obtain ⟨u1,u2⟩:=HF.uniq b _ b6 hb.1 hp
   simp only [Bool.not_false,cond_true]
   cases b6 with
   | nil =>
    have q1:=u2.nt;have q2:=u2.nd;have q3:=u2.ns
    rw [uF (show (([]:List Int).length:Int)=0 from rfl),cond_true,zFT (Nat.le_trans q1 (by omega)) (Nat.le_trans q2 (by omega)) (Nat.le_trans q3 (by omega)),zbs,zbs]
    refine ⟨_,_,rfl,rfl,?_⟩
    by_cases h0:aH ⟨ts,ds,ss⟩=0
    ·rw [uF h0,yP h0]
    ·rw [uH h0,yM h0]
   | cons c r =>
    rw [uH (show ((c::r).length:Int)≠0 by simp only [List.length_cons];omega),cond_false,zbs]
    exact ⟨_,_,rfl,rfl⟩
/-! Chunks. -/
def dX (k:Int) (b:List Int):Int:=i32 (aX (k::b))
def fE (k:Int) (b:List Int):List Int:=k::(uO b.length++uO (dX k b)++b)
def p9:List Int→Option (Int×List Int×List Int)
 | []=>none
 | k::t=>(v8 t).bind fun x=>(v8 x.2).bind fun y=>if 0≤x.1∧x.1≤y.2.length∧dX k (y.2.take x.1.toNat)=y.1 then some (k,y.2.take x.1.toNat,y.2.drop x.1.toNat) else none
theorem M2 (k:Int) (t:List Int):p9 (k::t)=(v8 t).bind fun x=>(v8 x.2).bind fun y=>if 0≤x.1∧x.1≤y.2.length∧dX k (y.2.take x.1.toNat)=y.1 then some (k,y.2.take x.1.toNat,y.2.drop x.1.toNat) else none:=rfl
def fV (b:List Int):Int×List Int×Int:=match p9 b with | none=>(0,[],0) | some (k,body,r)=>(k,body,(b.length:Int) - r.length)
theorem zBb {b body r:List Int} {k:Int} (hb:∀ x∈b,x6 x) (h:p9 b=some (k,body,r)):b=fE k body++r:=by
 cases b with
 | nil=>cases h
 | cons c t =>
  rw [M2] at h
  have ht:∀ x∈t,x6 x:=fun x hx=>hb x (by simp [hx])
  cases h1:v8 t with
  | none=>rw [h1] at h;cases h
  | some x =>
   obtain ⟨n,t1⟩:=x
   rw [h1,zbs] at h
   obtain ⟨e1,l1⟩:=pQ.uniq t n t1 ht h1
   simp only at h
   cases h2:v8 t1 with
   | none=>rw [h2] at h;cases h
   | some y =>
    obtain ⟨s,t2⟩:=y
    rw [h2,zbs] at h
    obtain ⟨e2,l2⟩:=pQ.uniq t1 s t2 (fun z hz=>ht z (by rw [e1];simp [hz])) h2
    simp only at h
    by_cases hc:0≤n∧n≤t2.length∧dX c (t2.take n.toNat)=s
    ·rw [if_pos hc] at h
     injection h with h;injection h with h3 h;injection h with h4 h5
     obtain ⟨c1,c2,c3⟩:=hc
     have hlen:(body.length:Int)=n:=by rw [← h4,List.length_take];omega
     subst h3
     unfold fE
     rw [e1,e2,← h4] at *
     rw [show dX c (List.take n.toNat t2)=s from c3]
     rw [show ((List.take n.toNat t2).length:Int)=n by rw [List.length_take];omega,← h5]
     simp
    ·rw [if_neg hc] at h;cases h
theorem zCV (k:Int) (b:List Int):b.length+3≤(fE k b).length∧(fE k b).length≤b.length+21:=by
 have h1:=jF (b.length:Int);have h2:=jF (dX k b)
 unfold fE
 simp only [List.length_cons,List.length_append];omega
theorem zCn {b:List Int} {a n:Nat} (h:a+n≤b.length):sub b (a:Int) ((a:Int)+(n:Int))=(b.drop a).take n:=by
 unfold sub
 rw [List.drop_take,show ((a:Int)+(n:Int)).toNat - ((a:Int)).toNat=n by omega,Int.toNat_natCast]
theorem zFM {k:Int} {b:List Int} (hk:x6 k) (hb:∀ x∈b,x6 x) (hl:b.length≤100000):rU 281474976710656 k b=some (dX k b):=by
 unfold rU
 rw [xZ (by simp only [List.length_singleton];omega),zbs,List.singleton_append,zAS (fun x hx=>by rcases List.mem_cons.1 hx with rfl | hx;exact hk;exact hb x hx) (by simp only [List.length_cons];omega) (by omega) (by simp only [List.length_cons];omega)];rfl
theorem YH {b:List Int} {n:Int} {r:List Int} (hb:∀ x∈b,x6 x) (h:v8 b=some (n,r)):r.length<b.length∧r=b.drop (b.length - r.length)∧xP n:=by
 obtain ⟨e,l⟩:=pQ.uniq b n r hb h
 have:=(jF n).1
 refine ⟨by rw [e,List.length_append];omega,?_,l⟩
 conv=>rhs;arg 2;rw [e]
 rw [show b.length - r.length=(uO n).length by rw [e,List.length_append];omega,List.drop_left]
theorem NZ {b:List Int} (hb:vV b):rS 281474976710656 b=some (fV b):=by
 have hl:=hb.2
 unfold rS fV
 cases b with
 | nil=>rfl
 | cons k t =>
  have ht:∀ x∈t,x6 x:=fun x hx=>hb.1 x (by simp [hx])
  have hlt:(k::t).length=t.length+1:=rfl
  rw [uH (by omega),cond_false,xZ (by omega),zbs]
  have hd1:sub (k::t) (1:Int) ((k::t).length:Int)=t:=by rw [aV (by omega)];rfl
  rw [hd1,m7 ht (by omega) (by omega),zbs]
  have hv:=cJ (i:=0) (u:=0) ht (by omega) (by omega) (by decide)
  rw [M2]
  by_cases he:(vrd t 0 0).2.2≠0
  ·rw [wE he,cond_true,DC he];rfl
  have he:(vrd t 0 0).2.2=0:=by omega
  have hr:=hv.2.1 he
  rw [wF he,cond_false,GO he,zbs]
  generalize hkk:(vrd t 0 0).2.1=kk at *
  generalize hnn:(vrd t 0 0).1=nn at *
  have hdt:vV (t.drop kk.toNat):=vV.drop ⟨ht,by omega⟩ _
  rw [w64 (by omega) (by omega),xZ (by omega),zbs]
  have hd2:sub (k::t) ((1:Int)+kk) ((k::t).length:Int)=t.drop kk.toNat:=by
   rw [aV (by omega),show ((1:Int)+kk).toNat=kk.toNat+1 by omega];rfl
  rw [hd2,m7 hdt.1 (by have:=hdt.2;omega) (by have:=hdt.2;omega),zbs]
  have hv2:=cJ (i:=0) (u:=0) hdt.1 (by omega) (by omega) (by decide)
  simp only
  by_cases he2:(vrd (t.drop kk.toNat) 0 0).2.2≠0
  ·rw [wE he2,Bool.true_or,cond_true,DC he2];rfl
  have he2:(vrd (t.drop kk.toNat) 0 0).2.2=0:=by omega
  have hr2:=hv2.2.1 he2
  rw [wF he2,Bool.false_or,GO he2,zbs]
  generalize hmm:(vrd (t.drop kk.toNat) 0 0).2.1=mm at *
  generalize hss:(vrd (t.drop kk.toNat) 0 0).1=ss at *
  simp only
  rw [List.length_drop] at hr2
  have hdd:(t.drop kk.toNat).drop mm.toNat=(k::t).drop (1+kk.toNat+mm.toNat):=by
   rw [List.drop_drop,show 1+kk.toNat+mm.toNat=kk.toNat+mm.toNat+1 by omega];rfl
  rw [hdd]
  have hlen2:((k::t).drop (1+kk.toNat+mm.toNat)).length=(k::t).length - (1+kk.toNat+mm.toNat):=List.length_drop
  rw [w64 (show -9223372036854775808≤(1:Int)+kk+mm by omega) (by omega),w64 (show -9223372036854775808≤(((k::t).length:Int)) - ((1:Int)+kk+mm) by omega) (by omega)]
  have hnr:xP nn:=hv.1
  unfold xP at hnr
  by_cases hc:0≤nn∧nn≤(k::t).length - ((1:Int)+kk+mm)
  ·rw [yM (by omega),yM (by omega),Bool.or_self,cond_false,w64 (by omega) (by omega),xZ (by omega),zbs]
   have hsb:sub (k::t) ((1:Int)+kk+mm) ((1:Int)+kk+mm+nn)=((k::t).drop (1+kk.toNat+mm.toNat)).take nn.toNat:=by
    have:=zCn (b:=k::t) (a:=1+kk.toNat+mm.toNat) (n:=nn.toNat) (by omega)
    rw [← this]
    congr 1<;>omega
   have hbb:∀ x∈((k::t).drop (1+kk.toNat+mm.toNat)).take nn.toNat,x6 x:=fun x hx=>hb.1 x (List.mem_of_mem_drop (List.mem_of_mem_take hx))
   rw [show yZ (k::t) (0:Int)=some k from rfl,zbs,hsb,zFM (hb.1 k (by simp)) hbb (by rw [List.length_take,hlen2];omega),zbs]
   by_cases hsum:dX k (((k::t).drop (1+kk.toNat+mm.toNat)).take nn.toNat)=ss
   ·rw [wF hsum,cond_false,zbs,if_pos ⟨hc.1,by omega,hsum⟩]
    simp only [Option.some.injEq,Prod.mk.injEq,true_and]
    rw [List.length_drop,hlen2];omega
   ·rw [wE hsum,cond_true,if_neg (fun h=>hsum h.2.2)]
  ·rw [if_neg (fun h=>hc ⟨h.1,by omega⟩)]
   rw [show (decide (nn<(0:Int))||decide (nn>((k::t).length:Int) - ((1:Int)+kk+mm)))=true by
    by_cases h0:nn<0
    ·rw [yP h0];rfl
    ·rw [yP (show nn>((k::t).length:Int) - ((1:Int)+kk+mm) by omega),Bool.or_true],cond_true]
theorem O2 {b:List Int} (hb:vV b):A9 281474976710656 b=some (fV b):=by
 have hl:=hb.2
 unfold A9 fV
 cases b with
 | nil=>rfl
 | cons k t =>
  have ht:∀ x∈t,x6 x:=fun x hx=>hb.1 x (by simp [hx])
  have hlt:(k::t).length=t.length+1:=rfl
  rw [uH (by omega),cond_false,xZ (by omega),zbs]
  have hd1:sub (k::t) (1:Int) ((k::t).length:Int)=t:=by rw [aV (by omega)];rfl
  obtain ⟨n,b1,d1,e1,s1⟩:=aI (bad:=false) (b:=t) ⟨ht,by omega⟩
  obtain ⟨s,b2,d2,e2,s2⟩:=aI (bad:=d1) s1.1
  obtain ⟨y1,y2,y3,y4⟩:=s2
  rw [hd1,e1,zbs]
  simp only
  rw [e2,zbs]
  simp only
  obtain ⟨x1,x2,x3,x4⟩:=s1
  have x4:=x4 rfl
  rw [M2]
  cases hp1:v8 t with
  | none =>
   rw [hp1] at x4
   have:d2=true:=y3 x4
   rw [this,Bool.true_or,cond_true];rfl
  | some v =>
   obtain ⟨v,r⟩:=v
   rw [hp1] at x4
   obtain ⟨rfl,rfl,rfl⟩:=x4
   have y4:=y4 rfl
   rw [zbs]
   simp only
   cases hp2:v8 b1 with
   | none =>
    rw [hp2] at y4
    rw [y4,Bool.true_or,cond_true];rfl
   | some v =>
    obtain ⟨v,r⟩:=v
    rw [hp2] at y4
    obtain ⟨rfl,rfl,rfl⟩:=y4
    rw [zbs,Bool.false_or]
    simp only
    obtain ⟨z1,z2,z3⟩:=YH ht hp1
    obtain ⟨w1,w2,w3⟩:=YH x1.1 hp2
    unfold xP at z3
    by_cases hc:0≤n∧n≤b2.length
    ·rw [yM (by omega),yM (by omega),Bool.or_self,cond_false,xZ hc,zbs,show yZ (k::t) (0:Int)=some k from rfl,zbs,SH hc.1,xZ (by rw [List.length_take];simp only [List.length_singleton];omega),zbs,List.singleton_append]
     have hbb:∀ x∈k::b2.take n.toNat,x6 x:=by
      intro x hx
      rcases List.mem_cons.1 hx with rfl | hx
      ·exact hb.1 _ (by simp)
      ·exact y1.1 x (List.mem_of_mem_take hx)
     rw [zE9 hbb (by simp only [List.length_cons,List.length_take];omega) (by omega) (by simp only [List.length_cons,List.length_take];omega),zbs]
     by_cases hsum:dX k (b2.take n.toNat)=s
     ·rw [wF (show i32 (aX (k::b2.take n.toNat))=s from hsum),cond_false,zbs,if_pos ⟨hc.1,hc.2,hsum⟩]
      simp only [Option.some.injEq,Prod.mk.injEq,true_and]
      rw [w64 (show -9223372036854775808≤((k::t).length:Int) - (b2.length:Int) by omega) (by omega),w64 (by omega) (by omega),List.length_drop];omega
     ·rw [wE (show i32 (aX (k::b2.take n.toNat))≠s from hsum),cond_true,if_neg (fun h=>hsum h.2.2)]
    ·rw [if_neg (fun h=>hc ⟨h.1,h.2.1⟩)]
     rw [show (decide (n<(0:Int))||decide (n>(b2.length:Int)))=true by
      by_cases h0:n<0
      ·rw [yP h0];rfl
      ·rw [yP (show n>(b2.length:Int) by omega),Bool.or_true],cond_true]
end Go.Ab
