/- Lemmas. No conditions but those that they name. -/
import Derived.Test.YtcejcgalbcnjnaaGreatCtV
namespace Go.Ab
open Go
set_option linter.unusedVariables false
theorem V8 {m:Int} (h0:0<=m):xX .u64 m 32=m / 4294967296:=by
 have:=zDU (k:=.u64) (x:=m) (s:=32) h0 (by decide)
 rw [show ((32:Nat):Int)=32 from rfl] at this;rw [this];rfl
theorem zAp {m:Int} (h0:0<=m) (h1:m<4294967296):tS .u64 m 4294967295=m:=by
 obtain ⟨n,rfl⟩:=zBb h0;rw [show (4294967295:Int)=((4294967295:Nat):Int) from rfl,zMd (k:=.u64) (show n<2 ^ 64 by omega) (show 4294967295<2 ^ 64 by omega),show 4294967295=2 ^ 32 - 1 from rfl,Nat.and_two_pow_sub_one_eq_mod,UI (by omega)]
theorem zEu {x y:Int} (hx:0<=x) (hx2:x<4294967296) (hy:0<=y) (hy2:y<4294967296) (h:x * y<4611686018427387904):KX x y=some (0,x * y):=by
 have hp:0<=x * y:=CL hx hy;unfold KX;have t1:z9 (x * y / 4294967296)=x * y / 4294967296:=JL (by omega) (by omega);have t2:xX .u64 (x * y / 4294967296) 32=0:=by rw [V8 (by omega)];omega
 have t3:tS .u64 (x * y / 4294967296) 4294967295=x * y / 4294967296:=zAp (by omega) (by omega);have t4:z9 (0:Int)=0:=by decide
 rw [V8 hx,V8 hy,zAp hx hx2,zAp hy hy2,show x / 4294967296=0 by omega,show y / 4294967296=0 by omega];simp only [Int.mul_zero,Int.zero_mul,Int.zero_add,Int.add_zero,t4,JL (x:=x * y) hp (by omega),V8 hp,t1,t2,t3]
theorem zFe {F:Nat} {a b:Int} (ha:0<=a) (ha2:a<=1000000) (hb:0<=b) (hb2:b<=1100000):HP F a b 1000000=some (a * b / 1000000,a * b % 1000000,false,true):=by
 have hp:0<=a * b:=CL ha hb;have hp2:a * b<=1000000 * 1100000:=Int.mul_le_mul ha2 hb2 hb (by omega);have hin:∀ x:Int,0<=x->x<=1100000->dY x=some true:=fun x h1 h2=>by
  unfold dY;rw [wE (by omega),wE (by omega)];rfl
 have hm:∀ x:Int,0<=x->x<=1100000->HI x=some (x,false):=fun x h1 h2=>by
  unfold HI;rw [xN (by omega),cond_false,JL (by omega) (by omega)]
 unfold HP;rw [hin a ha (by omega),hin b hb (by omega),hin 1000000 (by omega) (by omega),hm a ha (by omega),hm b hb (by omega)];simp only [zbs,cO,cond_false];rw [xN (by omega)];simp only [zbs,cond_false];rw [zEu ha (by omega) hb (by omega) (by omega),zbs,JL (x:=1000000) (by omega) (by omega)];simp only;rw [xN (by omega),cond_false];unfold VC;rw [nK (by omega),cond_false,zbs,xN (by omega),cond_false,zbs,qN rfl,cond_true,tB (by omega),zbs,zbs,zbs,
  zIM hp (show a * b<AX .u64 from by show _<(2 ^ 64:Int);omega) (by omega),zHp hp]
 simp only;rw [wE (by omega)];rfl
theorem zA7 {x:Int} (h1:0<=x) (h2:x<=10000000):LS x true=some (x,true):=by
 unfold LS dY;rw [wE (by omega),wE (by omega)];rfl
theorem zLB {d p:Int} (hd:0<=d) (hd2:d<=1000000) (hp:0<=p) (hp2:p<=10000):Ok (EW FF d p) fun r=>r.1.Lo * 1000000<=d * 1000000 - d * p/\d * 1000000+d * p<=r.1.Hi * 1000000/\0<=r.1.Lo/\r.1.Lo<=2000000/\0<=r.1.Hi/\r.1.Hi<=2000000:=by
 have hq:0<=d * p:=CL hd hp;have hq2:d * p<=d * 10000:=BQ hp2 hd;have e1:d * (1000000 - p)=d * 1000000 - d * p:=Int.mul_sub ..;have e2:d * (1000000+p)=d * 1000000+d * p:=Int.mul_add ..;have key:∀ G,FF=G+1->Ok (EW (G+1) d p) fun r=>r.1.Lo * 1000000<=d * 1000000 - d * p/\d * 1000000+d * p<=r.1.Hi * 1000000/\0<=r.1.Lo/\r.1.Lo<=2000000/\0<=r.1.Hi/\r.1.Hi<=2000000:=by
  intro G hG;unfold EW;rw [xN (by omega),xN (by omega),xN (by omega),xN (by omega),D6,D6,D6,cond_false,xN (by omega),cond_false,
   w64 (x:=1000000 - p) (by omega) (by omega),w64 (x:=1000000+p) (by omega) (by omega)]
  unfold VB TW;rw [zFe hd hd2 (by omega) (by omega),zFe hd hd2 (by omega) (by omega),e1,e2];generalize d * p=u at *;simp only [zbs,cond_false];rw [w64 (x:=(d * 1000000 - u) / 1000000) (by omega) (by omega),w64 (x:=(d * 1000000+u) / 1000000) (by omega) (by omega),w64 (x:=(d * 1000000+u) / 1000000+1) (by omega) (by omega),zA7 (by omega) (by omega)]
  by_cases h:(d * 1000000+u) % 1000000>0
  ·rw [wE h,cond_true];simp only [zbs];rw [zA7 (x:=(d * 1000000+u) / 1000000+1) (by omega) (by omega)];refine yB ?_;simp only;omega
  ·rw [xN h,cond_false];simp only [zbs];rw [zA7 (x:=(d * 1000000+u) / 1000000) (by omega) (by omega)];refine yB ?_;simp only;omega
 exact key 281474976710655 rfl
def cT (c:dH) (x:Int):Int:=c.Yd+x+x * c.Xr / 1000000
theorem zEJ {c:dH} {x:Int} (hx:0<=x) (hx2:x<=1000000) (ho:0<=c.Yd) (ho2:c.Yd<=1000000) (hd : -10000<=c.Xr) (hd2:c.Xr<=10000):J8 c x=some (cT c x):=by
 have h1:x * c.Xr<=x * 10000:=BQ hd2 hx;have h2:x * -10000<=x * c.Xr:=BQ hd hx;unfold J8 cT;generalize x * c.Xr=p at *;have hw:zG p=p:=w64 (by omega) (by omega);rw [hw];unfold pV dZ;rcases (show p<0\/0<=p by omega) with hn | hn
 ·obtain ⟨q,hq⟩:∃ q,p = -q:=⟨-p,by omega⟩;subst hq;have e1:(-q).tdiv 1000000 = -(q / 1000000):=by rw [Int.neg_tdiv,Int.tdiv_eq_ediv_of_nonneg (by omega)]
  have e2:(-q).tmod 1000000 = -(q % 1000000):=by rw [Int.neg_tmod,Int.tmod_eq_emod_of_nonneg (by omega)]
  rw [e1,e2];have hq:IntKind.wrap .i64 (-(q / 1000000)) = -(q / 1000000):=w64 (by omega) (by omega);rw [hq,wE hn,Bool.true_and,w64 (x := -(q / 1000000) - 1) (by omega) (by omega),w64 (x:=c.Yd+x) (by omega) (by omega)]
  by_cases h:q % 1000000=0
  ·rw [tV (by omega),cond_false,zbs,w64 (by omega) (by omega)]
   congr 1;omega
  ·rw [aN (by omega),cond_true,zbs,w64 (by omega) (by omega)]
   congr 1;omega
 ·rw [Int.tdiv_eq_ediv_of_nonneg hn];have hq:IntKind.wrap .i64 (p / 1000000)=p / 1000000:=w64 (by omega) (by omega);rw [hq,xN (by omega),Bool.false_and,cond_false,zbs,w64 (x:=c.Yd+x) (by omega) (by omega),w64 (by omega) (by omega)]
theorem zJN {c:dH} {x y p lo hi:Int} (hx:x<=y) (h1 : -p<=c.Xr) (h2:c.Xr<=p) (hlo:lo * 1000000<=(y - x) * 1000000 - (y - x) * p) (hhi:(y - x) * 1000000+(y - x) * p<=hi * 1000000):lo<=cT c y - cT c x/\cT c y - cT c x<=hi:=by
 have e:(y - x) * c.Xr=y * c.Xr - x * c.Xr:=Int.sub_mul ..;have a1:(y - x) * c.Xr<=(y - x) * p:=BQ h2 (by omega);have a2:(y - x) * -p<=(y - x) * c.Xr:=BQ h1 (by omega);rw [Int.mul_neg] at a2;unfold cT;generalize (y - x) * p=r at *;generalize (y - x) * c.Xr=s at *;generalize y * c.Xr=u at *;generalize x * c.Xr=v at *;omega
theorem zJC {c:dH} {x y:Int} (hx:x<=y) (hd : -10000<=c.Xr) (hd2:c.Xr<=10000):cT c x<=cT c y:=by
 have e:(y - x) * c.Xr=y * c.Xr - x * c.Xr:=Int.sub_mul ..;have a2:(y - x) * -10000<=(y - x) * c.Xr:=BQ hd (by omega);unfold cT;generalize (y - x) * c.Xr=s at *;generalize y * c.Xr=u at *;generalize x * c.Xr=v at *;omega
theorem zGS {c:dH} {x:Int} (hx:0<=x) (hx2:x<=1000000) (ho:0<=c.Yd) (ho2:c.Yd<=1000000) (hd : -10000<=c.Xr) (hd2:c.Xr<=10000):0<=cT c x/\cT c x<=2020000:=by
 have h1:x * c.Xr<=x * 10000:=BQ hd2 hx;have h2:x * -10000<=x * c.Xr:=BQ hd hx;unfold cT;omega
end Go.Ab
