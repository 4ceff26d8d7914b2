/- Plain laws of the functions uS this seat's, laid anew from another seat's text. No conditions but those that the theorems name. -/
import Derived.Test.YtoeengmnmhhpgaaGreatP15zxD
import Derived.Test.YtoeengmnmhhpgaaGreatR15z
import Derived.Test.YtoeengmnmhhpgaaGreatB15za
import Derived.Test.YtoeengmnmhhpgaaGreatB15zb
import Derived.Test.YtoeengmnmhhpgaaGreatB15zc
import Derived.Test.YtoeengmnmhhpgaaGreatB15zd
import Derived.Test.YtoeengmnmhhpgaaGreatB15ze
import Derived.Test.YtoeengmnmhhpgaaGreatB15zf
import Derived.Test.YtoeengmnmhhpgaaGreatB15zg
import Derived.Test.YtoeengmnmhhpgaaGreatB15zh
import Derived.Test.YtoeengmnmhhpgaaGreatB15zi
import Derived.Test.YtoeengmnmhhpgaaGreatB15zj
import Derived.Test.YtoeengmnmhhpgaaGreatB15zk
import Derived.Test.YtoeengmnmhhpgaaGreatB15zt
import Derived.Test.YtoeengmnmhhpgaaGreatB15zm
import Derived.Test.YtoeengmnmhhpgaaGreatB15zn
import Derived.Test.YtoeengmnmhhpgaaGreatB15zo
import Derived.Test.YtoeengmnmhhpgaaGreatC15za
import Derived.Test.YtoeengmnmhhpgaaGreatC15zb
import Derived.Test.YtoeengmnmhhpgaaGreatC15zc
namespace Go.Ab
open Go
set_option linter.unusedVariables false
theorem zC8 {b:List Int} (hb:vN b):∃ x p,DY 281474976710656 b=some (x,p)/\match pU b with | some (y,[])=>x=y/\p=true | _=>p=false:=by
 obtain ⟨a,b1,d,e,s1,s2,s3,s4⟩:=VA (bad:=false) hb;unfold DY;rw [e,zbs];simp only;cases d with
 | true =>
  refine ⟨a,false,rfl,?_⟩
  have:=s4 rfl
  cases hp:pU b with
  | none=>rfl
  | some v=>obtain ⟨v,r⟩:=v;rw [hp] at this;exact absurd this.2.2 (by simp)
 | false =>
  have:=s4 rfl
  cases hp:pU b with
  | none=>rw [hp] at this;cases this
  | some v =>
   obtain ⟨v,r⟩:=v;rw [hp] at this;obtain ⟨rfl,rfl,_⟩:=this;obtain ⟨u1,u2⟩:=XQ.uniq b a b1 hb.1 hp;simp only [Bool.not_false,cond_true];rw [UT (by simp) u2,zbs];unfold dW;refine ⟨a,[]++kP a==b,rfl,?_⟩;rw [List.nil_append];cases b1 with
   | nil=>rw [List.append_nil] at u1;exact ⟨rfl,beq_iff_eq.2 u1.symm⟩
   | cons c r =>
    show (_==b)=false;refine beq_eq_false_iff_ne.2 fun h=>?_
    rw [u1] at h
    have:=congrArg List.length h
    simp at this
theorem zAb {b:List Int} (hb:vN b):∃ x p,KN 281474976710656 b=some (x,p)/\match p9 b with | some (y,[])=>x=y/\p=true | _=>p=false:=by
 obtain ⟨n,b1,d1,e1,s1,n1,n2⟩:=SJ (bad:=false) (most:=64) hb (by omega);obtain ⟨b2,d2,ts,e2,s2⟩:=zF7 (r:=(n,⟨b1,d1⟩)) n.toNat 281474976710656 0 b1 d1 [] (by simp only;omega) (by omega) (by omega) s1.1 (by simp;omega);obtain ⟨m,b3,d3,e3,s3,m1,m2⟩:=SJ (bad:=d2) (most:=8) s2.1 (by omega);obtain ⟨b4,d4,ds,e4,s4⟩:=zIp (r:=(m,⟨b3,d3⟩)) m.toNat 281474976710656 0 b3 d3 [] (by simp only;omega) (by omega) (by omega) s3.1 (by simp;omega);obtain ⟨k,b5,d5,e5,s5,k1,k2⟩:=SJ (bad:=d4) (most:=200) s4.1 (by omega);obtain ⟨b6,d6,ss,e6,s6⟩:=zFU (r:=(k,⟨b5,d5⟩)) k.toNat 281474976710656 0 b5 d5 [] (by simp only;omega) (by omega) (by omega) s5.1 (by simp;omega);have hst:qS p9 b false (⟨ts,ds,ss⟩:yB) b6 d6:=s1.comb (s2.comb (s3.comb (s4.comb (s5.comb (s6.comb (.pure s6.1))))));unfold KN;rw [e1,zbs];simp only;rw [show B0 281474976710656 (n,⟨b1,d1⟩) 281474976710656 (0:Int) b1 d1 []=_ from e2,zbs];simp only [List.nil_append];rw [e3,zbs];simp only;rw [show rT 281474976710656 (m,⟨b3,d3⟩) 281474976710656 (0:Int) b3 d3 []=_ from e4,zbs];simp only [List.nil_append];rw [e5,zbs];simp only;rw [show AA 281474976710656 (k,⟨b5,d5⟩) 281474976710656 (0:Int) b5 d5 []=_ from e6,zbs];simp only [List.nil_append];obtain ⟨_,_,_,hq⟩:=hst;have hq:=hq rfl;cases d6 with
 | true =>
  refine ⟨_,false,rfl,?_⟩;cases hp:p9 b with
  | none=>rfl
  | some v=>obtain ⟨v,r⟩:=v;rw [hp] at hq;exact absurd hq.2.2 (by simp)
 | false =>
  cases hp:p9 b with
  | none=>rw [hp] at hq;cases hq
  | some v =>
   obtain ⟨v,r⟩:=v;rw [hp] at hq;obtain ⟨rfl,rfl,_⟩:=hq;obtain ⟨u1,u2⟩:=EO.uniq b _ b6 hb.1 hp;simp only [Bool.not_false,cond_true];rw [ZK u2,zbs];unfold dW;refine ⟨_,hdB ⟨ts,ds,ss⟩==b,rfl,?_⟩;cases b6 with
   | nil=>rw [List.append_nil] at u1;exact ⟨rfl,beq_iff_eq.2 u1.symm⟩
   | cons c r =>
    show (_==b)=false;refine beq_eq_false_iff_ne.2 fun h=>?_
    rw [u1] at h
    have:=congrArg List.length h
    simp at this
theorem zFI {b:List Int} (hb:vN b):∃ x p,KH 281474976710656 b=some (x,p)/\match p9 b with | some (y,[])=>x=y/\p=decide (pC y=0) | _=>p=false:=by
 obtain ⟨n,b1,d1,e1,s1,n1,n2⟩:=SF (bad:=false) (most:=64) hb (by omega);obtain ⟨b2,d2,ts,e2,s2⟩:=zIx (r:=(n,⟨b1,d1⟩)) n.toNat 281474976710656 0 b1 d1 [] (by simp only;omega) (by omega) (by omega) s1.1 (by simp;omega);obtain ⟨m,b3,d3,e3,s3,m1,m2⟩:=SF (bad:=d2) (most:=8) s2.1 (by omega);obtain ⟨b4,d4,ds,e4,s4⟩:=zDn (r:=(m,⟨b3,d3⟩)) m.toNat 281474976710656 0 b3 d3 [] (by simp only;omega) (by omega) (by omega) s3.1 (by simp;omega);obtain ⟨k,b5,d5,e5,s5,k1,k2⟩:=SF (bad:=d4) (most:=200) s4.1 (by omega);obtain ⟨b6,d6,ss,e6,s6⟩:=zB4 (r:=(k,⟨b5,d5⟩)) k.toNat 281474976710656 0 b5 d5 [] (by simp only;omega) (by omega) (by omega) s5.1 (by simp;omega);have hst:qS p9 b false (⟨ts,ds,ss⟩:yB) b6 d6:=s1.comb (s2.comb (s3.comb (s4.comb (s5.comb (s6.comb (.pure s6.1))))));unfold KH;rw [e1,zbs];simp only;rw [show BD 281474976710656 (n,⟨b1,d1⟩) 281474976710656 (0:Int) b1 d1 []=_ from e2,zbs];simp only [List.nil_append];rw [e3,zbs];simp only;rw [show CD 281474976710656 (m,⟨b3,d3⟩) 281474976710656 (0:Int) b3 d3 []=_ from e4,zbs];simp only [List.nil_append];rw [e5,zbs];simp only;rw [show AB 281474976710656 (k,⟨b5,d5⟩) 281474976710656 (0:Int) b5 d5 []=_ from e6,zbs];simp only [List.nil_append];obtain ⟨_,_,_,hq⟩:=hst;have hq:=hq rfl;cases d6 with
 | true =>
  refine ⟨_,false,rfl,?_⟩;cases hp:p9 b with
  | none=>rfl
  | some v=>obtain ⟨v,r⟩:=v;rw [hp] at hq;exact absurd hq.2.2 (by simp)
 | false =>
  cases hp:p9 b with
  | none=>rw [hp] at hq;cases hq
  | some v =>
   obtain ⟨v,r⟩:=v;rw [hp] at hq;obtain ⟨rfl,rfl,_⟩:=hq;obtain ⟨u1,u2⟩:=EO.uniq b _ b6 hb.1 hp;simp only [Bool.not_false,cond_true];cases b6 with
   | nil =>
    have q1:=u2.nt;have q2:=u2.nd;have q3:=u2.ns;rw [u9 (show (([]:List Int).length:Int)=0 from rfl),cond_true,ZC (Nat.le_trans q1 (by omega)) (Nat.le_trans q2 (by omega)) (Nat.le_trans q3 (by omega)),zbs,zbs];refine ⟨_,_,rfl,rfl,?_⟩
    by_cases h0:pC ⟨ts,ds,ss⟩=0
    ·rw [u9 h0,yN h0]
    ·rw [uK h0,yP h0]
   | cons c r =>
    rw [uK (show ((c::r).length:Int)≠0 by simp only [zlc];omega),cond_false,zbs];exact ⟨_,_,rfl,rfl⟩
/-! Chunks. -/
def aB (k:Int) (b:List Int):Int:=i32 (bF (k::b))
theorem ZS (k:Int) (b:List Int):xM (aB k b):=by
 have:=G3 (bF (k::b))
 unfold aB xM;omega
def kO (k:Int) (b:List Int):List Int:=k::(vF b.length++vF (aB k b)++b)
def pR:List Int->Option (Int×List Int×List Int)
 | []=>none
 | k::t=>(uG t).bind fun x=>(uG x.2).bind fun y=>if 0<=x.1/\x.1<=y.2.length/\aB k (y.2.take x.1.toNat)=y.1 then some (k,y.2.take x.1.toNat,y.2.drop x.1.toNat) else none
theorem R6 (k:Int) (t:List Int):pR (k::t)=(uG t).bind fun x=>(uG x.2).bind fun y=>if 0<=x.1/\x.1<=y.2.length/\aB k (y.2.take x.1.toNat)=y.1 then some (k,y.2.take x.1.toNat,y.2.drop x.1.toNat) else none:=rfl
def gD (b:List Int):Int×List Int×Int:=match pR b with | none=>(0,[],0) | some (k,body,r)=>(k,body,(b.length:Int) - r.length)
theorem zEH {b body r:List Int} {k:Int} (hb:∀ x∈b,xY x) (h:pR b=some (k,body,r)):b=kO k body++r:=by
 cases b with
 | nil=>cases h
 | cons c t =>
  rw [R6] at h;have ht:∀ x∈t,xY x:=fun x hx=>hb x (by simp [hx])
  cases h1:uG t with
  | none=>rw [h1] at h;cases h
  | some x =>
   obtain ⟨n,t1⟩:=x;rw [h1,zbs] at h;obtain ⟨e1,l1⟩:=nF.uniq t n t1 ht h1;simp only at h;cases h2:uG t1 with
   | none=>rw [h2] at h;cases h
   | some y =>
    obtain ⟨s,t2⟩:=y;rw [h2,zbs] at h;obtain ⟨e2,l2⟩:=nF.uniq t1 s t2 (fun z hz=>ht z (by rw [e1];simp [hz])) h2;simp only at h
    by_cases hc:0<=n/\n<=t2.length/\aB c (t2.take n.toNat)=s
    ·rw [if_pos hc] at h;injection h with h;injection h with h3 h;injection h with h4 h5;obtain ⟨c1,c2,c3⟩:=hc;have hlen:(body.length:Int)=n:=by rw [<- h4,List.length_take];omega
     subst h3;unfold kO;rw [e1,e2,<- h4] at *;rw [show aB c (List.take n.toNat t2)=s from c3];rw [show ((List.take n.toNat t2).length:Int)=n by rw [List.length_take];omega,<- h5];simp
    ·rw [if_neg hc] at h;cases h
theorem HA (k:Int) (b:List Int):b.length+3<=(kO k b).length/\(kO k b).length<=b.length+21:=by
 have h1:=uZ (b.length:Int);have h2:=uZ (aB k b);unfold kO;simp only [zlc,zla];omega
theorem zGG {b:List Int} {a n:Nat} (h:a+n<=b.length):sub b (a:Int) ((a:Int)+(n:Int))=(b.drop a).take n:=by
 unfold sub;rw [List.drop_take,show ((a:Int)+(n:Int)).toNat - ((a:Int)).toNat=n by omega,Int.toNat_natCast]
theorem YD {k:Int} {b:List Int} (hk:xY k) (hb:∀ x∈b,xY x) (hl:b.length<=100000):CJ 281474976710656 k b=some (aB k b):=by
 unfold CJ;rw [xQ (by simp only [zls];omega),zbs,List.singleton_append,zHp (fun x hx=>by rcases List.mem_cons.1 hx with rfl | hx;exact hk;exact hb x hx) (by simp only [zlc];omega) (by omega) (by simp only [zlc];omega)];rfl
theorem LL {k:Int} {b:List Int} (hk:xY k) (hb:∀ x∈b,xY x) (hl:b.length<=100000):fA 281474976710656 k b=some (kO k b):=by
 have h1:=(uZ (b.length:Int)).2;have h2:=(uZ (aB k b)).2;unfold vF at h1 h2;unfold fA;rw [pA (by unfold xM;omega) (by simp) (by omega),zbs,YD hk hb hl,zbs,pA (ZS _ _) (by simp only [zla,zls];omega) (by omega),zbs,xQ (by simp only [zla,zls];omega),zbs];simp [kO,vF]
theorem NP {k:Int} {b:List Int} (hk:xY k) (hb:∀ x∈b,xY x) (hl:b.length<=100000):gX 281474976710656 k b=some (kO k b):=by
 have h1:=(uZ (b.length:Int)).2;have h2:=(uZ (aB k b)).2;unfold vF at h1 h2;unfold gX;rw [xQ (by simp only [zls];omega),zbs,jM (by unfold xM;omega) (by simp) (by omega),zbs,List.singleton_append,
  zAz (fun x hx=>by rcases List.mem_cons.1 hx with rfl | hx;exact hk;exact hb x hx) (by simp only [zlc];omega) (by omega) (by simp only [zlc];omega),zbs]
 change ((qP 281474976710656 ([k]++vJ 9 (wT (b.length:Int))) (aB k b)).bind fun _=>_)=_
 rw [jM (ZS _ _) (by simp only [zla,zls];omega) (by omega),zbs,xQ (by simp only [zla,zls];omega),zbs];simp [kO,vF]
theorem zAN {b:List Int} {n:Int} {r:List Int} (hb:∀ x∈b,xY x) (h:uG b=some (n,r)):r.length<b.length/\r=b.drop (b.length - r.length)/\xM n:=by
 obtain ⟨e,l⟩:=nF.uniq b n r hb h
 have:=(uZ n).1
 refine ⟨by rw [e,zla];omega,?_,l⟩
 conv=>rhs;arg 2;rw [e]
 rw [show b.length - r.length=(vF n).length by rw [e,zla];omega,List.drop_left]
theorem UN {b:List Int} (hb:vN b):DL 281474976710656 b=some (gD b):=by
 have hl:=hb.2;unfold DL gD;cases b with
 | nil=>rfl
 | cons k t =>
  have ht:∀ x∈t,xY x:=fun x hx=>hb.1 x (by simp [hx])
  have hlt:(k::t).length=t.length+1:=rfl;rw [uK (by omega),cond_false,xQ (by omega),zbs];have hd1:sub (k::t) (1:Int) ((k::t).length:Int)=t:=by rw [b8 (by omega)];rfl
  rw [hd1,oO ht (by omega) (by omega),zbs];have hv:=cJ (i:=0) (u:=0) ht (by omega) (by omega) (by decide);rw [R6]
  by_cases he:(vrd t 0 0).2.2≠0
  ·rw [xX he,cond_true,HQ he];rfl
  have he:(vrd t 0 0).2.2=0:=by omega
  have hr:=hv.2.1 he;rw [x7 he,cond_false,LB he,zbs];generalize hkk:(vrd t 0 0).2.1=kk at *;generalize hnn:(vrd t 0 0).1=nn at *;have hdt:vN (t.drop kk.toNat):=vN.drop ⟨ht,by omega⟩ _;rw [w64 (by omega) (by omega),xQ (by omega),zbs];have hd2:sub (k::t) ((1:Int)+kk) ((k::t).length:Int)=t.drop kk.toNat:=by
   rw [b8 (by omega),show ((1:Int)+kk).toNat=kk.toNat+1 by omega];rfl
  rw [hd2,oO hdt.1 (by have:=hdt.2;omega) (by have:=hdt.2;omega),zbs];have hv2:=cJ (i:=0) (u:=0) hdt.1 (by omega) (by omega) (by decide);simp only
  by_cases he2:(vrd (t.drop kk.toNat) 0 0).2.2≠0
  ·rw [xX he2,Bool.true_or,cond_true,HQ he2];rfl
  have he2:(vrd (t.drop kk.toNat) 0 0).2.2=0:=by omega
  have hr2:=hv2.2.1 he2;rw [x7 he2,Bool.false_or,LB he2,zbs];generalize hmm:(vrd (t.drop kk.toNat) 0 0).2.1=mm at *;generalize hss:(vrd (t.drop kk.toNat) 0 0).1=ss at *;simp only;rw [List.length_drop] at hr2;have hdd:(t.drop kk.toNat).drop mm.toNat=(k::t).drop (1+kk.toNat+mm.toNat):=by
   rw [List.drop_drop,show 1+kk.toNat+mm.toNat=kk.toNat+mm.toNat+1 by omega];rfl
  rw [hdd];have hlen2:((k::t).drop (1+kk.toNat+mm.toNat)).length=(k::t).length - (1+kk.toNat+mm.toNat):=List.length_drop;rw [w64 (show -9223372036854775808<=(1:Int)+kk+mm by omega) (by omega),w64 (show -9223372036854775808<=(((k::t).length:Int)) - ((1:Int)+kk+mm) by omega) (by omega)];have hnr:xM nn:=hv.1;unfold xM at hnr
  by_cases hc:0<=nn/\nn<=(k::t).length - ((1:Int)+kk+mm)
  ·rw [yP (by omega),yP (by omega),Bool.or_self,cond_false,w64 (by omega) (by omega),xQ (by omega),zbs];have hsb:sub (k::t) ((1:Int)+kk+mm) ((1:Int)+kk+mm+nn)=((k::t).drop (1+kk.toNat+mm.toNat)).take nn.toNat:=by
    have:=zGG (b:=k::t) (a:=1+kk.toNat+mm.toNat) (n:=nn.toNat) (by omega)
    rw [<- this]
    congr 1<;>omega
   have hbb:∀ x∈((k::t).drop (1+kk.toNat+mm.toNat)).take nn.toNat,xY x:=fun x hx=>hb.1 x (List.mem_of_mem_drop (List.mem_of_mem_take hx))
   rw [show yX (k::t) (0:Int)=some k from rfl,zbs,hsb,YD (hb.1 k (by simp)) hbb (by rw [List.length_take,hlen2];omega),zbs]
   by_cases hsum:aB k (((k::t).drop (1+kk.toNat+mm.toNat)).take nn.toNat)=ss
   ·rw [x7 hsum,cond_false,zbs,if_pos ⟨hc.1,by omega,hsum⟩];simp only [Option.some.injEq,Prod.mk.injEq,true_and];rw [List.length_drop,hlen2];omega
   ·rw [xX hsum,cond_true,if_neg (fun h=>hsum h.2.2)]
  ·rw [if_neg (fun h=>hc ⟨h.1,by omega⟩)];rw [show (decide (nn<(0:Int))||decide (nn>((k::t).length:Int) - ((1:Int)+kk+mm)))=true by
    by_cases h0:nn<0
    ·rw [yN h0];rfl
    ·rw [yN (show nn>((k::t).length:Int) - ((1:Int)+kk+mm) by omega),Bool.or_true],cond_true]
theorem UG {b:List Int} (hb:vN b):C6 281474976710656 b=some (gD b):=by
 have hl:=hb.2;unfold C6 gD;cases b with
 | nil=>rfl
 | cons k t =>
  have ht:∀ x∈t,xY x:=fun x hx=>hb.1 x (by simp [hx])
  have hlt:(k::t).length=t.length+1:=rfl;rw [uK (by omega),cond_false,xQ (by omega),zbs];have hd1:sub (k::t) (1:Int) ((k::t).length:Int)=t:=by rw [b8 (by omega)];rfl
  obtain ⟨n,b1,d1,e1,s1⟩:=bH (bad:=false) (b:=t) ⟨ht,by omega⟩;obtain ⟨s,b2,d2,e2,s2⟩:=bH (bad:=d1) s1.1;obtain ⟨y1,y2,y3,y4⟩:=s2;rw [hd1,e1,zbs];simp only;rw [e2,zbs];simp only;obtain ⟨x1,x2,x3,x4⟩:=s1;have x4:=x4 rfl;rw [R6];cases hp1:uG t with
  | none =>
   rw [hp1] at x4
   have:d2=true:=y3 x4
   rw [this,Bool.true_or,cond_true];rfl
  | some v =>
   obtain ⟨v,r⟩:=v;rw [hp1] at x4;obtain ⟨rfl,rfl,rfl⟩:=x4;have y4:=y4 rfl;rw [zbs];simp only;cases hp2:uG b1 with
   | none =>
    rw [hp2] at y4;rw [y4,Bool.true_or,cond_true];rfl
   | some v =>
    obtain ⟨v,r⟩:=v;rw [hp2] at y4;obtain ⟨rfl,rfl,rfl⟩:=y4;rw [zbs,Bool.false_or];simp only;obtain ⟨z1,z2,z3⟩:=zAN ht hp1;obtain ⟨w1,w2,w3⟩:=zAN x1.1 hp2;unfold xM at z3
    by_cases hc:0<=n/\n<=b2.length
    ·rw [yP (by omega),yP (by omega),Bool.or_self,cond_false,xQ hc,zbs,show yX (k::t) (0:Int)=some k from rfl,zbs,oP hc.1,xQ (by rw [List.length_take];simp only [zls];omega),zbs,List.singleton_append];have hbb:∀ x∈k::b2.take n.toNat,xY x:=by
      intro x hx;rcases List.mem_cons.1 hx with rfl | hx
      ·exact hb.1 _ (by simp)
      ·exact y1.1 x (List.mem_of_mem_take hx)
     rw [zAz hbb (by simp only [zlc,List.length_take];omega) (by omega) (by simp only [zlc,List.length_take];omega),zbs]
     by_cases hsum:aB k (b2.take n.toNat)=s
     ·rw [x7 (show i32 (bF (k::b2.take n.toNat))=s from hsum),cond_false,zbs,if_pos ⟨hc.1,hc.2,hsum⟩];simp only [Option.some.injEq,Prod.mk.injEq,true_and];rw [w64 (show -9223372036854775808<=((k::t).length:Int) - (b2.length:Int) by omega) (by omega),w64 (by omega) (by omega),List.length_drop];omega
     ·rw [xX (show i32 (bF (k::b2.take n.toNat))≠s from hsum),cond_true,if_neg (fun h=>hsum h.2.2)]
    ·rw [if_neg (fun h=>hc ⟨h.1,h.2.1⟩)];rw [show (decide (n<(0:Int))||decide (n>(b2.length:Int)))=true by
      by_cases h0:n<0
      ·rw [yN h0];rfl
      ·rw [yN (show n>(b2.length:Int) by omega),Bool.or_true],cond_true]
end Go.Ab
