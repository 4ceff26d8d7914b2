/- Plain laws of the functions uS this seat's, laid anew from another seat's text. No conditions but those that the theorems name. -/
import Derived.Test.YtoeengmnmhhpgaaGreatP15zxD
import Derived.Test.YtoeengmnmhhpgaaGreatR15z
import Derived.Test.YtoeengmnmhhpgaaGreatB15za
import Derived.Test.YtoeengmnmhhpgaaGreatB15zb
import Derived.Test.YtoeengmnmhhpgaaGreatB15zc
import Derived.Test.YtoeengmnmhhpgaaGreatB15zd
import Derived.Test.YtoeengmnmhhpgaaGreatB15ze
import Derived.Test.YtoeengmnmhhpgaaGreatB15zf
import Derived.Test.YtoeengmnmhhpgaaGreatB15zg
import Derived.Test.YtoeengmnmhhpgaaGreatB15zh
import Derived.Test.YtoeengmnmhhpgaaGreatB15zi
import Derived.Test.YtoeengmnmhhpgaaGreatB15zj
import Derived.Test.YtoeengmnmhhpgaaGreatB15zk
import Derived.Test.YtoeengmnmhhpgaaGreatB15zt
import Derived.Test.YtoeengmnmhhpgaaGreatB15zm
import Derived.Test.YtoeengmnmhhpgaaGreatB15zn
import Derived.Test.YtoeengmnmhhpgaaGreatB15zo
import Derived.Test.YtoeengmnmhhpgaaGreatC15za
import Derived.Test.YtoeengmnmhhpgaaGreatC15zb
import Derived.Test.YtoeengmnmhhpgaaGreatC15zc
import Derived.Test.YtoeengmnmhhpgaaGreatC15zd
import Derived.Test.YtoeengmnmhhpgaaGreatC15ze
namespace Go.Ab
open Go
set_option linter.unusedVariables false
theorem MQ {b r:List Int} {h:yB} (hb:vN b) (hh:jR b=some (h,r)):∃ body,pR b=some (72,body,r)/\p9 body=some (h,[])/\pC h=0/\nY h/\body=hdB h/\vN r/\r.length+3<=b.length/\r=b.drop (b.length - r.length):=by
 unfold jR at hh;cases hc:pR b with
 | none=>rw [hc] at hh;cases hh
 | some v =>
  obtain ⟨k,body,r1⟩:=v;rw [hc] at hh;simp only at hh;obtain ⟨q1,q2,q3,q4⟩:=oF hb hc
  split at hh
  ·rename_i hk
   cases hp:p9 body with
   | none=>rw [hp] at hh;cases hh
   | some y =>
    obtain ⟨y,rr⟩:=y;rw [hp] at hh;cases rr with
    | cons c cs=>cases hh
    | nil =>
     simp only at hh
     split at hh
     ·rename_i h0
      injection hh with hh;injection hh with e1 e2;subst e1;subst e2;subst hk;obtain ⟨u1,u2⟩:=EO.uniq body y [] q1.1 hp;exact ⟨body,rfl,hp,h0,u2,by rw [List.append_nil] at u1;exact u1,q2,q3,q4⟩
     ·cases hh
  ·cases hh
theorem zDA {b:List Int} (hb:vN b):∃ r,iU 281474976710656 b=some r/\match jR b with
  | none=>r=⟨⟨⟨[],[],[]⟩,[],none,0⟩,0⟩
  | some (h,rest)=>∃ E,cN E (fin b h rest).packs/\r=⟨⟨⟨h.Threads,h.Domains,(fin b h rest).snaps⟩,(fin b h rest).packs,E,evN (fin b h rest).packs⟩,(fin b h rest).used⟩:=by
 have hbl:=hb.2;unfold iU;rw [UN hb,zbs];cases hc:pR b with
 | none =>
  rw [LZ hc];simp only;obtain ⟨x,p,e1,_⟩:=zAb vN.nil;rw [e1,zbs];have hn:jR b=none:=by unfold jR;rw [hc]
  rw [hn];exact ⟨_,rfl,rfl⟩
 | some v =>
  obtain ⟨k,body,r⟩:=v;obtain ⟨q1,q2,q3,q4⟩:=oF hb hc;rw [LE hc];simp only;obtain ⟨x,p,e1,e2⟩:=zAb q1;rw [e1,zbs,uK (show (b.length:Int) - r.length≠0 by omega),cond_false];simp only;have hno:jR b=none->∃ r',((bif k != 72 then some true else bif !p then some true else ((rA 281474976710656 x).bind fun r_3=>some (r_3 != (0:Int))))=some true->(some (⟨⟨⟨[],[],[]⟩,[],none,0⟩,0⟩:wY)=some r')/\match jR b with
   | none=>r'=⟨⟨⟨[],[],[]⟩,[],none,0⟩,0⟩
   | some (h,rest)=>∃ E,cN E (fin b h rest).packs/\r'=⟨⟨⟨h.Threads,h.Domains,(fin b h rest).snaps⟩,(fin b h rest).packs,E,evN (fin b h rest).packs⟩,(fin b h rest).used⟩):=by
   intro hn;rw [hn];exact ⟨_,fun _=>⟨rfl,rfl⟩⟩
  by_cases hk:k=72
  ·rw [x7 hk,cond_false];subst hk;have hun:jR b=match p9 body with | some (h,[])=>if pC h=0 then some (h,r) else none | _=>none:=by
    unfold jR;rw [hc];exact if_pos rfl
   cases hp:p9 body with
   | none =>
    rw [hp] at e2 hun;simp only at e2;subst e2;rw [hun];exact ⟨_,rfl,rfl⟩
   | some y =>
    obtain ⟨y,rr⟩:=y;rw [hp] at e2 hun;cases rr with
    | cons c cs =>
     simp only at e2 hun;subst e2;rw [hun];exact ⟨_,rfl,rfl⟩
    | nil =>
     simp only at e2 hun;obtain ⟨rfl,rfl⟩:=e2;obtain ⟨u1,u2⟩:=EO.uniq body x [] q1.1 hp;have w1:=u2.nt;have w2:=u2.nd;have w3:=u2.ns;rw [Bool.not_true,cond_false,W7 (Nat.le_trans w1 (by omega)) (Nat.le_trans w2 (by omega)) (Nat.le_trans w3 (by omega)),zbs,zbs]
     by_cases h0:pC x=0
     ·rw [if_pos h0] at hun;rw [x7 h0,cond_false,ZZ (by simp) (by simp only;omega),zbs,hun];simp only;obtain ⟨E,g1,g2⟩:=zIy (h:=x) hb (by omega) (by omega) r.length 281474976710656 (bS x ((b.length:Int) - r.length)) r none none (Nat.le_refl _) (by omega) (RM (by omega)) q4 (by omega) rfl TX TX;refine ⟨_,?_,E,g1,rfl⟩;have g3:AL 281474976710656 b 281474976710656 false false ((b.length:Int) - r.length) x.Threads x.Domains x.Snaps none 0 ((b.length:Int) - r.length) [] x.Threads x.Domains none 0 x.Snaps []=_:=g2;rw [g3];rfl
     ·rw [if_neg h0] at hun;rw [xX h0,cond_true,hun];exact ⟨_,rfl,rfl⟩
  ·rw [xX hk,cond_true];have hn:jR b=none:=by unfold jR;rw [hc];simp [hk]
   rw [hn];exact ⟨_,rfl,rfl⟩
theorem X0 {h:yB}:∀ (n:Nat) (st:RdS) (b:List Int),vN b->RdI st->RdI (kN h n st b)
 | 0,st,b,_,hi=>hi
 | n+1,st,b,hb,hi=>by
  unfold kN;cases hc:pR b with
  | none=>exact hi
  | some v =>
   obtain ⟨k,body,r⟩:=v;obtain ⟨q1,q2,q3,q4⟩:=oF hb hc;simp only;cases hs:bW h st k body (st.pos+((b.length:Int) - r.length)) with
   | none=>exact hi
   | some st'=>exact X0 n st' r q2 (zCz q1.1 hi hs)
theorem zAI {h:yB}:∀ (n:Nat) (st:RdS) (b:List Int),vN b->0<st.used->st.used<=st.pos->st.used<=(kN h n st b).used/\(kN h n st b).used<=st.pos+b.length
 | 0,st,b,_,h0,h1=>by unfold kN;omega
 | n+1,st,b,hb,h0,h1=>by
  unfold kN;cases hc:pR b with
  | none=>simp only;omega
  | some v =>
   obtain ⟨k,body,r⟩:=v;obtain ⟨q1,q2,q3,q4⟩:=oF hb hc;simp only;cases hs:bW h st k body (st.pos+((b.length:Int) - r.length)) with
   | none=>simp only;omega
   | some st' =>
    simp only;have hst:st'.pos=st.pos+((b.length:Int) - r.length)/\(st'.used=st.used\/st'.used=st'.pos):=by
     unfold bW at hs
     split at hs
     ·split at hs
      ·split at hs
       ·split at hs
        ·injection hs with hs;subst hs;exact ⟨rfl,.inl rfl⟩
        ·cases hs
       ·cases hs
      ·cases hs
     ·split at hs
      ·split at hs
       ·injection hs with hs;subst hs;exact ⟨rfl,.inl rfl⟩
       ·cases hs
      ·split at hs
       ·split at hs
        ·injection hs with hs;subst hs;exact ⟨rfl,.inr rfl⟩
        ·cases hs
       ·cases hs
    have:=zAI (h:=h) n st' r q2 (by omega) (by omega)
    omega
theorem zDa {b r:List Int} {h:yB} (hb:vN b) (hh:jR b=some (h,r)):0<(fin b h r).used/\(fin b h r).used<=b.length:=by
 obtain ⟨body,c1,c2,c3,c4,c5,c6,c7,c8⟩:=MQ hb hh
 have:=zAI (h:=h) r.length (bS h ((b.length:Int) - r.length)) r c6 (by simp only [bS];omega) (by simp [bS])
 unfold fin;simp only [bS] at this;unfold bS;omega
theorem zEh {b r:List Int} {h:yB} (hb:vN b) (hh:jR b=some (h,r)):RdI (fin b h r):=by
 obtain ⟨body,c1,c2,c3,c4,c5,c6,c7,c8⟩:=MQ hb hh;exact X0 _ _ _ c6 (RM c4.ns)
/-! The reference's side. -/
theorem zHj {b:List Int} {r2:yB×Bool} (hb:vN b) (ht:r2.1.Threads.length<=100000) (hdl:r2.1.Domains.length<=100000):∀ (n m:Nat) (st:RdS) (rest:List Int) (more:List z7),rest.length<=n->n<m->RdI st->rest=b.drop (b.length - rest.length)->rest.length<=b.length->st.pos=(b.length:Int) - rest.length->st.cp=st.packs++more ->
  CH 281474976710656 b r2 m st.pos st.used (st.stage:Int) st.snaps st.packs st.cs more=some (⟨r2.1.Threads,r2.1.Domains,(kN r2.1 n st rest).snaps⟩,(kN r2.1 n st rest).packs,(kN r2.1 n st rest).used):=by
 intro n
 induction n with
 | zero =>
  intro m st rest more hr hm hi hd hrl hpos hmo
  have:rest=[]:=List.length_eq_zero_iff.1 (by omega)
  subst this;cases m with
  | zero=>omega
  | succ m =>
   show rH _ _ _ _ _ _ _ _ _ _ _=_;unfold rH;simp only [List.length_nil] at hpos;have hcp:=BJ hi.v;have hev:=hi.ev;have hlen:st.cp.length=st.packs.length+more.length:=by rw [hmo,zla]
   rw [xQ (by omega),zbs,b8 (by omega),show st.pos.toNat=b.length by omega,List.drop_length,UG vN.nil,zbs,xQ (by simp only [List.length_nil];omega),zbs,xQ (by simp only [List.nil_append];omega),zbs];rfl
 | succ n ih =>
  intro m st rest more hr hm hi hd hrl hpos hmo;cases m with
  | zero=>omega
  | succ m =>
   show rH _ _ _ _ _ _ _ _ _ _ _=_;unfold rH;have hbl:=hb.2;have hrest:vN rest:=by rw [hd];exact hb.drop _
   have hpn:st.pos.toNat=b.length - rest.length:=by omega
   have hcp:=BJ hi.v;have hev:=hi.ev;have hcs:=hi.cs;have hsg:=hi.stg;have hlen:st.cp.length=st.packs.length+more.length:=by rw [hmo,zla]
   rw [xQ (by omega),zbs,b8 (by omega),hpn,<- hd,UG hrest,zbs,xQ (by simp only [List.length_nil];omega),zbs,xQ (by simp only [List.nil_append];omega),zbs];simp only [List.nil_append];rw [<- hmo];unfold kN;cases hc:pR rest with
   | none=>rw [LZ hc];rfl
   | some v =>
    obtain ⟨k,body,r⟩:=v;obtain ⟨q1,q2,q3,q4⟩:=oF hrest hc;have hbb:=q1.2;rw [LE hc];simp only;rw [uK (show (rest.length:Int) - r.length≠0 by omega),cond_false,w64 (by omega) (by omega)];have hr':r=b.drop (b.length - r.length):=by
     conv=>lhs;rw [q4,hd,List.drop_drop]
     congr 1
     rw [List.length_drop];omega
    unfold bW
    by_cases k1:k=83
    ·rw [if_pos k1,u9 k1,Bool.true_and,uK (show k≠80 by omega),cond_false,uK (show k≠70 by omega),Bool.false_and,cond_false]
     by_cases hst:st.stage<=1
     ·rw [if_pos hst,yN (show (st.stage:Int)<=1 by omega),cond_true];obtain ⟨x,b1,d,e1,s1,s2,s3,s4⟩:=X8 (bad:=false) q1;rw [e1,zbs];simp only;rw [xQ (by simp only [zls];omega),zbs];have s4:=s4 rfl;cases hps:pU body with
      | none =>
       rw [hps] at s4;simp only at s4;subst s4;rfl
      | some v =>
       obtain ⟨y,rr⟩:=v;rw [hps] at s4;obtain ⟨rfl,rfl,rfl⟩:=s4;simp only [cond_false];cases b1 with
       | cons c cs =>
        rw [yN (show (((c::cs).length:Nat):Int)>0 by simp only [zlc];omega),cond_true];rfl
       | nil =>
        rw [yP (show ¬ ((([]:List Int).length:Nat):Int)>0 by simp),cond_false,ML hdl (by simp only [zla,zls];omega),zbs,zbs]
        by_cases hcl:tV r2.1.Domains (st.cs++[x])=0
        ·rw [x7 hcl,cond_false];simp only [if_pos hcl]
         have:=ih m { st with cs:=st.cs++[x],stage:=1,pos:=st.pos+((rest.length:Int) - r.length) } r more (by omega) (by omega) ⟨hi.v,hi.ev,(NN hcl).2,hi.pre,hi.snaps,by simp⟩ hr' (by omega) (by simp only;omega) hmo
         exact this
        ·rw [xX hcl,cond_true];simp only [if_neg hcl]
     ·rw [if_neg hst,yP (show ¬ (st.stage:Int)<=1 by omega),cond_false]
    ·rw [if_neg k1,uK k1,Bool.false_and,cond_false]
     by_cases k2:k=80
     ·rw [if_pos k2,u9 k2,cond_true,zGJ q1.1 q1.2,zbs]
      by_cases g1:(tB body).2.2=0
      ·rw [x7 g1,cond_false];have hz:=S4 q1.1 g1;have hz1:=c9 hz.1
       by_cases g2:(tB body).2.1=(body.length:Int)
       ·rw [x7 g2,cond_false,WK (h:=⟨r2.1.Threads,r2.1.Domains,st.snaps⟩) ht,zbs]
        by_cases g3:(tB body).1.Thread∈kV r2.1
        ·rw [yN (show (tB body).1.Thread∈kV ⟨r2.1.Threads,r2.1.Domains,st.snaps⟩ from g3),Bool.not_true,cond_false,V8 (by omega) (by omega) hi.v hz.1,zbs];cases g4:aW st.cp (tB body).1 with
         | false =>
          simp only [Bool.not_false,cond_true,zbs];rw [if_neg (fun hg=>by have:=hg.2.2.2.1;rw [g4] at this;cases this)]
         | true =>
          simp only [Bool.not_true,cond_false];rw [VL (by omega) (by omega),zbs,zbs,w64 (by omega) (by omega)]
          by_cases g5:evN st.cp+(tB body).1.Events.length>20000
          ·rw [yN (by omega),cond_true,if_neg (fun hg=>by have:=hg.2.2.2.2;omega)]
          ·rw [yP (by omega),cond_false,if_pos ⟨g1,g2,g3,g4,by omega⟩,xQ (by simp only [zls];omega),zbs];obtain ⟨mm,hmm⟩:=hi.pre
           have:=ih m { st with cp:=st.cp++[(tB body).1],stage:=2,pos:=st.pos+((rest.length:Int) - r.length) } r (more++[(tB body).1]) (by omega) (by omega) ⟨A0 hi.v hz.1,by simp only [gQ];omega,hi.cs,⟨mm++[(tB body).1],by simp only;rw [hmm,List.append_assoc]⟩,hi.snaps,by simp⟩ hr' (by omega) (by simp only;omega) (by simp only;rw [hmo,List.append_assoc])
           exact this
        ·rw [yP (show ¬ (tB body).1.Thread∈kV ⟨r2.1.Threads,r2.1.Domains,st.snaps⟩ from g3),Bool.not_false,cond_true,zbs,cond_true,if_neg (fun hg=>g3 hg.2.2.1)]
       ·rw [xX g2,cond_true,zbs,cond_true,if_neg (fun hg=>g2 hg.2.1)]
      ·rw [xX g1,cond_true,zbs,cond_true,if_neg (fun hg=>g1 hg.1)]
     ·rw [if_neg k2,uK k2,cond_false]
      by_cases k3:k=70
      ·rw [if_pos k3,u9 k3,Bool.true_and]
       by_cases g1:body=[]/\st.stage≠0
       ·rw [if_pos g1,g1.1,u9 (show ((([]:List Int).length:Nat):Int)=0 from rfl),yN (show (st.stage:Int)>0 by have:=g1.2;omega),Bool.and_self,cond_true,xQ (by simp only [List.length_nil];omega),zbs]
        have:=ih m ⟨st.cs,st.cp,st.pos+((rest.length:Int) - r.length),st.cs,st.cp,st.pos+((rest.length:Int) - r.length),0⟩ r [] (by omega) (by omega) ⟨hi.v,hi.ev,hi.cs,⟨[],by simp⟩,hi.cs,by simp⟩ hr' (by omega) (by simp only;omega) (by simp)
        exact this
       ·rw [if_neg g1];rw [show ((((body.length:Nat):Int)==(0:Int))&&decide ((st.stage:Int)>(0:Int)))=false by
         by_cases hbn:body=[]
         ·rw [yP (show ¬ (st.stage:Int)>0 from fun h=>g1 ⟨hbn,by omega⟩),Bool.and_false]
         ·rw [uK (show ((body.length:Nat):Int)≠0 by have:=List.length_pos_iff.2 hbn;omega)];rfl,cond_false]
      ·rw [if_neg k3,uK k3,Bool.false_and,cond_false]
theorem WY {b:List Int} (hb:vN b):AJ 281474976710656 b=some (vW b):=by
 have hbl:=hb.2;unfold AJ vW;rw [UG hb,zbs];cases hc:pR b with
 | none =>
  have hn:jR b=none:=by unfold jR;rw [hc]
  rw [LZ hc,hn];rfl
 | some v =>
  obtain ⟨k,body,r⟩:=v;obtain ⟨q1,q2,q3,q4⟩:=oF hb hc;rw [LE hc];simp only
  by_cases hk:k=72
  ·rw [x7 hk,uK (show (b.length:Int) - r.length≠0 by omega),Bool.or_self,cond_false];subst hk;obtain ⟨x,p,e1,e2⟩:=zFI q1;rw [e1,zbs];have hun:jR b=match p9 body with | some (h,[])=>if pC h=0 then some (h,r) else none | _=>none:=by
    unfold jR;rw [hc];exact if_pos rfl
   cases hp:p9 body with
   | none =>
    rw [hp] at e2 hun;simp only at e2;subst e2;rw [hun];rfl
   | some y =>
    obtain ⟨y,rr⟩:=y;rw [hp] at e2 hun;cases rr with
    | cons c cs =>
     simp only at e2 hun;subst e2;rw [hun];rfl
    | nil =>
     simp only at e2 hun;obtain ⟨rfl,rfl⟩:=e2;obtain ⟨u1,u2⟩:=EO.uniq body x [] q1.1 hp;have w1:=u2.nt;have w2:=u2.nd;have w3:=u2.ns
     by_cases h0:pC x=0
     ·rw [if_pos h0] at hun;simp only;rw [yN h0,Bool.not_true,cond_false,xQ (by simp only [List.length_nil];omega),zbs,hun];simp only [List.nil_append];have g2:=zHj (r2:=(x,true)) hb (by simp only;omega) (by simp only;omega) r.length 281474976710656 (bS x ((b.length:Int) - r.length)) r [] (Nat.le_refl _) (by omega) (RM (by omega)) q4 (by omega) rfl rfl;have g3:CH 281474976710656 b (x,true) 281474976710656 ((b.length:Int) - r.length) ((b.length:Int) - r.length) 0 x.Snaps [] x.Snaps []=_:=g2;rw [g3];rfl
     ·rw [if_neg h0] at hun;simp only;rw [yP h0,Bool.not_false,cond_true,hun]
  ·rw [xX hk,Bool.true_or,cond_true];have hn:jR b=none:=by unfold jR;rw [hc];simp [hk]
   rw [hn]
end Go.Ab
