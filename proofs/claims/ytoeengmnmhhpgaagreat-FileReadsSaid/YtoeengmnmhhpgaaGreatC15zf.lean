/- Plain laws of the functions uV this seat's, laid anew from another seat's text. No conditions but those that the theorems name. -/
import Derived.Test.YtoeengmnmhhpgaaGreatP15zxD
import Derived.Test.YtoeengmnmhhpgaaGreatR15z
import Derived.Test.YtoeengmnmhhpgaaGreatB15za
import Derived.Test.YtoeengmnmhhpgaaGreatB15zb
import Derived.Test.YtoeengmnmhhpgaaGreatB15zc
import Derived.Test.YtoeengmnmhhpgaaGreatB15zd
import Derived.Test.YtoeengmnmhhpgaaGreatB15ze
import Derived.Test.YtoeengmnmhhpgaaGreatB15zf
import Derived.Test.YtoeengmnmhhpgaaGreatB15zg
import Derived.Test.YtoeengmnmhhpgaaGreatB15zh
import Derived.Test.YtoeengmnmhhpgaaGreatB15zi
import Derived.Test.YtoeengmnmhhpgaaGreatB15zj
import Derived.Test.YtoeengmnmhhpgaaGreatB15zk
import Derived.Test.YtoeengmnmhhpgaaGreatB15zt
import Derived.Test.YtoeengmnmhhpgaaGreatB15zm
import Derived.Test.YtoeengmnmhhpgaaGreatB15zn
import Derived.Test.YtoeengmnmhhpgaaGreatB15zo
import Derived.Test.YtoeengmnmhhpgaaGreatC15za
import Derived.Test.YtoeengmnmhhpgaaGreatC15zb
import Derived.Test.YtoeengmnmhhpgaaGreatC15zc
import Derived.Test.YtoeengmnmhhpgaaGreatC15zd
import Derived.Test.YtoeengmnmhhpgaaGreatC15ze
namespace Go.Ab
open Go
set_option linter.unusedVariables false
theorem UA {b r:List Int} {h:yF} (hb:vV b) (hh:jW b=some (h,r)):∃ body,p9 b=some (72,body,r)∧pI body=some (h,[])∧aH h=0∧BL h∧body=hdB h∧vV r∧r.length+3≤b.length∧r=b.drop (b.length - r.length):=by
 unfold jW at hh
 cases hc:p9 b with
 | none=>rw [hc] at hh;cases hh
 | some v =>
  obtain ⟨k,body,r1⟩:=v
  rw [hc] at hh
  simp only at hh
  obtain ⟨q1,q2,q3,q4⟩:=B4 hb hc
  split at hh
  ·rename_i hk
   cases hp:pI body with
   | none=>rw [hp] at hh;cases hh
   | some y =>
    obtain ⟨y,rr⟩:=y
    rw [hp] at hh
    cases rr with
    | cons c cs=>cases hh
    | nil =>
     simp only at hh
     split at hh
     ·rename_i h0
      injection hh with hh;injection hh with e1 e2
      subst e1;subst e2;subst hk
      obtain ⟨u1,u2⟩:=HF.uniq body y [] q1.1 hp
      exact ⟨body,rfl,hp,h0,u2,by rw [List.append_nil] at u1;exact u1,q2,q3,q4⟩
     ·cases hh
  ·cases hh
theorem zAM {b:List Int} (hb:vV b):∃ r,gR 281474976710656 b=some r∧match jW b with
  | none=>r=⟨⟨⟨[],[],[]⟩,[],none,0⟩,0⟩
  | some (h,rest)=>∃ E,fH E (fin b h rest).packs∧r=⟨⟨⟨h.Threads,h.Domains,(fin b h rest).snaps⟩,(fin b h rest).packs,E,evN (fin b h rest).packs⟩,(fin b h rest).used⟩:=by
 have hbl:=hb.2
 unfold gR
 rw [NZ hb,zbs]
 cases hc:p9 b with
 | none =>
  rw [MF hc]
  simp only
  obtain ⟨x,p,e1,_⟩:=SQ vV.nil
  rw [e1,zbs]
  have hn:jW b=none:=by unfold jW;rw [hc]
  rw [hn]
  exact ⟨_,rfl,rfl⟩
 | some v =>
  obtain ⟨k,body,r⟩:=v
  obtain ⟨q1,q2,q3,q4⟩:=B4 hb hc
  rw [MN hc]
  simp only
  obtain ⟨x,p,e1,e2⟩:=SQ q1
  rw [e1,zbs,uH (show (b.length:Int) - r.length≠0 by omega),cond_false]
  simp only
  have hno:jW b=none→∃ r',((bif k != 72 then some true else bif !p then some true else ((oF 281474976710656 x).bind fun r_3=>some (r_3 != (0:Int))))=some true→(some (⟨⟨⟨[],[],[]⟩,[],none,0⟩,0⟩:wQ)=some r')∧match jW b with
   | none=>r'=⟨⟨⟨[],[],[]⟩,[],none,0⟩,0⟩
   | some (h,rest)=>∃ E,fH E (fin b h rest).packs∧r'=⟨⟨⟨h.Threads,h.Domains,(fin b h rest).snaps⟩,(fin b h rest).packs,E,evN (fin b h rest).packs⟩,(fin b h rest).used⟩):=by
   intro hn
   rw [hn]
   exact ⟨_,fun _=>⟨rfl,rfl⟩⟩
  by_cases hk:k=72
  ·rw [wF hk,cond_false]
   subst hk
   have hun:jW b=match pI body with | some (h,[])=>if aH h=0 then some (h,r) else none | _=>none:=by
    unfold jW;rw [hc];exact if_pos rfl
   cases hp:pI body with
   | none =>
    rw [hp] at e2 hun
    simp only at e2
    subst e2
    rw [hun]
    exact ⟨_,rfl,rfl⟩
   | some y =>
    obtain ⟨y,rr⟩:=y
    rw [hp] at e2 hun
    cases rr with
    | cons c cs =>
     simp only at e2 hun
     subst e2
     rw [hun]
     exact ⟨_,rfl,rfl⟩
    | nil =>
     simp only at e2 hun
     obtain ⟨rfl,rfl⟩:=e2
     obtain ⟨u1,u2⟩:=HF.uniq body x [] q1.1 hp
     have w1:=u2.nt;have w2:=u2.nd;have w3:=u2.ns
     rw [Bool.not_true,cond_false,zGe (Nat.le_trans w1 (by omega)) (Nat.le_trans w2 (by omega)) (Nat.le_trans w3 (by omega)),zbs,zbs]
     by_cases h0:aH x=0
     ·rw [if_pos h0] at hun
      rw [wF h0,cond_false,UP (by simp) (by simp only;omega),zbs,hun]
      simp only
      obtain ⟨E,g1,g2⟩:=zEg (h:=x) hb (by omega) (by omega) r.length 281474976710656 (CJ x ((b.length:Int) - r.length)) r none none (Nat.le_refl _) (by omega) (QO (by omega)) q4 (by omega) rfl UC UC
      refine ⟨_,?_,E,g1,rfl⟩
      have g3:r9 281474976710656 b 281474976710656 false false ((b.length:Int) - r.length) x.Threads x.Domains x.Snaps none 0 ((b.length:Int) - r.length) [] x.Threads x.Domains none 0 x.Snaps []=_:=g2
      rw [g3];rfl
     ·rw [if_neg h0] at hun
      rw [wE h0,cond_true,hun]
      exact ⟨_,rfl,rfl⟩
  ·rw [wE hk,cond_true]
   have hn:jW b=none:=by unfold jW;rw [hc];simp [hk]
   rw [hn]
   exact ⟨_,rfl,rfl⟩
theorem zGv {b:List Int} (hb:vV b):iE 281474976710656 b=some (bO b):=by
 obtain ⟨r,h1,h2⟩:=zAM hb
 unfold iE bO
 rw [h1,zbs]
 cases hh:jW b with
 | none=>rw [hh] at h2;simp only at h2;subst h2;rfl
 | some v =>
  obtain ⟨h,rest⟩:=v
  rw [hh] at h2
  obtain ⟨E,_,rfl⟩:=h2
  rfl
theorem V1 {h:yF}:∀ (n:Nat) (st:RdS) (b:List Int),vV b→RdI st→RdI (nH h n st b)
 | 0,st,b,_,hi=>hi
 | n+1,st,b,hb,hi=>by
  unfold nH
  cases hc:p9 b with
  | none=>exact hi
  | some v =>
   obtain ⟨k,body,r⟩:=v
   obtain ⟨q1,q2,q3,q4⟩:=B4 hb hc
   simp only
   cases hs:B6 h st k body (st.pos+((b.length:Int) - r.length)) with
   | none=>exact hi
   | some st'=>exact V1 n st' r q2 (zBZ q1.1 hi hs)
theorem zA1 {b r:List Int} {h:yF} (hb:vV b) (hh:jW b=some (h,r)):RdI (fin b h r):=by
 obtain ⟨body,c1,c2,c3,c4,c5,c6,c7,c8⟩:=UA hb hh
 exact V1 _ _ _ c6 (QO c4.ns)
/-! The reference's side. -/
theorem zCi {b:List Int} {r2:yF×Bool} (hb:vV b) (ht:r2.1.Threads.length≤100000) (hdl:r2.1.Domains.length≤100000):∀ (n m:Nat) (st:RdS) (rest:List Int) (more:List z8),rest.length≤n→n<m→RdI st→rest=b.drop (b.length - rest.length)→rest.length≤b.length→st.pos=(b.length:Int) - rest.length→st.cp=st.packs++more →
  rA 281474976710656 b r2 m st.pos st.used (st.stage:Int) st.snaps st.packs st.cs more=some (⟨r2.1.Threads,r2.1.Domains,(nH r2.1 n st rest).snaps⟩,(nH r2.1 n st rest).packs,(nH r2.1 n st rest).used):=by
 intro n
 induction n with
 | zero =>
  intro m st rest more hr hm hi hd hrl hpos hmo
  have:rest=[]:=List.length_eq_zero_iff.1 (by omega)
  subst this
  cases m with
  | zero=>omega
  | succ m =>
   show gX _ _ _ _ _ _ _ _ _ _ _=_
   unfold gX
   simp only [List.length_nil] at hpos
   have hcp:=CW hi.v
   have hev:=hi.ev
   have hlen:st.cp.length=st.packs.length+more.length:=by rw [hmo,List.length_append]
   rw [xZ (by omega),zbs,aV (by omega),show st.pos.toNat=b.length by omega,List.drop_length,O2 vV.nil,zbs,xZ (by simp only [List.length_nil];omega),zbs,xZ (by simp only [List.nil_append];omega),zbs]
   rfl
 | succ n ih =>
  intro m st rest more hr hm hi hd hrl hpos hmo
  cases m with
  | zero=>omega
  | succ m =>
   show gX _ _ _ _ _ _ _ _ _ _ _=_
   unfold gX
   have hbl:=hb.2
   have hrest:vV rest:=by rw [hd];exact hb.drop _
   have hpn:st.pos.toNat=b.length - rest.length:=by omega
   have hcp:=CW hi.v
   have hev:=hi.ev
   have hcs:=hi.cs
   have hsg:=hi.stg
   have hlen:st.cp.length=st.packs.length+more.length:=by rw [hmo,List.length_append]
   rw [xZ (by omega),zbs,aV (by omega),hpn,← hd,O2 hrest,zbs,xZ (by simp only [List.length_nil];omega),zbs,xZ (by simp only [List.nil_append];omega),zbs]
   simp only [List.nil_append]
   rw [← hmo]
   unfold nH
   cases hc:p9 rest with
   | none=>rw [MF hc];rfl
   | some v =>
    obtain ⟨k,body,r⟩:=v
    obtain ⟨q1,q2,q3,q4⟩:=B4 hrest hc
    have hbb:=q1.2
    rw [MN hc]
    simp only
    rw [uH (show (rest.length:Int) - r.length≠0 by omega),cond_false,w64 (by omega) (by omega)]
    have hr':r=b.drop (b.length - r.length):=by
     conv=>lhs;rw [q4,hd,List.drop_drop]
     congr 1
     rw [List.length_drop];omega
    unfold B6
    by_cases k1:k=83
    ·rw [if_pos k1,uF k1,Bool.true_and,uH (show k≠80 by omega),cond_false,uH (show k≠70 by omega),Bool.false_and,cond_false]
     by_cases hst:st.stage≤1
     ·rw [if_pos hst,yP (show (st.stage:Int)≤1 by omega),cond_true]
      obtain ⟨x,b1,d,e1,s1,s2,s3,s4⟩:=U8 (bad:=false) q1
      rw [e1,zbs]
      simp only
      rw [xZ (by simp only [List.length_singleton];omega),zbs]
      have s4:=s4 rfl
      cases hps:kV body with
      | none =>
       rw [hps] at s4
       simp only at s4
       subst s4
       rfl
      | some v =>
       obtain ⟨y,rr⟩:=v
       rw [hps] at s4
       obtain ⟨rfl,rfl,rfl⟩:=s4
       simp only [cond_false]
       cases b1 with
       | cons c cs =>
        rw [yP (show (((c::cs).length:Nat):Int)>0 by simp only [List.length_cons];omega),cond_true];rfl
       | nil =>
        rw [yM (show ¬ ((([]:List Int).length:Nat):Int)>0 by simp),cond_false,NW hdl (by simp only [List.length_append,List.length_singleton];omega),zbs,zbs]
        by_cases hcl:kJ r2.1.Domains (st.cs++[x])=0
        ·rw [wF hcl,cond_false]
         simp only [if_pos hcl]
         have:=ih m { st with cs:=st.cs++[x],stage:=1,pos:=st.pos+((rest.length:Int) - r.length) } r more (by omega) (by omega) ⟨hi.v,hi.ev,(O7 hcl).2,hi.pre,hi.snaps,by simp⟩ hr' (by omega) (by simp only;omega) hmo
         exact this
        ·rw [wE hcl,cond_true]
         simp only [if_neg hcl]
     ·rw [if_neg hst,yM (show ¬ (st.stage:Int)≤1 by omega),cond_false]
    ·rw [if_neg k1,uH k1,Bool.false_and,cond_false]
     by_cases k2:k=80
     ·rw [if_pos k2,uF k2,cond_true,zBo q1.1 q1.2,zbs]
      by_cases g1:(uX body).2.2=0
      ·rw [wF g1,cond_false]
       have hz:=SJ q1.1 g1
       have hz1:=bN hz.1
       by_cases g2:(uX body).2.1=(body.length:Int)
       ·rw [wF g2,cond_false,zCI (h:=⟨r2.1.Threads,r2.1.Domains,st.snaps⟩) ht,zbs]
        by_cases g3:(uX body).1.Thread∈bA r2.1
        ·rw [yP (show (uX body).1.Thread∈bA ⟨r2.1.Threads,r2.1.Domains,st.snaps⟩ from g3),Bool.not_true,cond_false,zFj (by omega) (by omega) hi.v hz.1,zbs]
         cases g4:bP st.cp (uX body).1 with
         | false =>
          simp only [Bool.not_false,cond_true,zbs]
          rw [if_neg (fun hg=>by have:=hg.2.2.2.1;rw [g4] at this;cases this)]
         | true =>
          simp only [Bool.not_true,cond_false]
          rw [zGz (by omega) (by omega),zbs,zbs,w64 (by omega) (by omega)]
          by_cases g5:evN st.cp+(uX body).1.Events.length>20000
          ·rw [yP (by omega),cond_true,if_neg (fun hg=>by have:=hg.2.2.2.2;omega)]
          ·rw [yM (by omega),cond_false,if_pos ⟨g1,g2,g3,g4,by omega⟩,xZ (by simp only [List.length_singleton];omega),zbs]
           obtain ⟨mm,hmm⟩:=hi.pre
           have:=ih m { st with cp:=st.cp++[(uX body).1],stage:=2,pos:=st.pos+((rest.length:Int) - r.length) } r (more++[(uX body).1]) (by omega) (by omega) ⟨R7 hi.v hz.1,by simp only [BU];omega,hi.cs,⟨mm++[(uX body).1],by simp only;rw [hmm,List.append_assoc]⟩,hi.snaps,by simp⟩ hr' (by omega) (by simp only;omega) (by simp only;rw [hmo,List.append_assoc])
           exact this
        ·rw [yM (show ¬ (uX body).1.Thread∈bA ⟨r2.1.Threads,r2.1.Domains,st.snaps⟩ from g3),Bool.not_false,cond_true,zbs,cond_true,if_neg (fun hg=>g3 hg.2.2.1)]
       ·rw [wE g2,cond_true,zbs,cond_true,if_neg (fun hg=>g2 hg.2.1)]
      ·rw [wE g1,cond_true,zbs,cond_true,if_neg (fun hg=>g1 hg.1)]
     ·rw [if_neg k2,uH k2,cond_false]
      by_cases k3:k=70
      ·rw [if_pos k3,uF k3,Bool.true_and]
       by_cases g1:body=[]∧st.stage≠0
       ·rw [if_pos g1,g1.1,uF (show ((([]:List Int).length:Nat):Int)=0 from rfl),yP (show (st.stage:Int)>0 by have:=g1.2;omega),Bool.and_self,cond_true,xZ (by simp only [List.length_nil];omega),zbs]
        have:=ih m ⟨st.cs,st.cp,st.pos+((rest.length:Int) - r.length),st.cs,st.cp,st.pos+((rest.length:Int) - r.length),0⟩ r [] (by omega) (by omega) ⟨hi.v,hi.ev,hi.cs,⟨[],by simp⟩,hi.cs,by simp⟩ hr' (by omega) (by simp only;omega) (by simp)
        exact this
       ·rw [if_neg g1]
        rw [show ((((body.length:Nat):Int)==(0:Int))&&decide ((st.stage:Int)>(0:Int)))=false by
         by_cases hbn:body=[]
         ·rw [yM (show ¬ (st.stage:Int)>0 from fun h=>g1 ⟨hbn,by omega⟩),Bool.and_false]
         ·rw [uH (show ((body.length:Nat):Int)≠0 by have:=List.length_pos_iff.2 hbn;omega)];rfl,cond_false]
      ·rw [if_neg k3,uH k3,Bool.false_and,cond_false]
theorem zDQ {b:List Int} (hb:vV b):HO 281474976710656 b=some (bO b):=by
 have hbl:=hb.2
 unfold HO bO
 rw [O2 hb,zbs]
 cases hc:p9 b with
 | none =>
  have hn:jW b=none:=by unfold jW;rw [hc]
  rw [MF hc,hn];rfl
 | some v =>
  obtain ⟨k,body,r⟩:=v
  obtain ⟨q1,q2,q3,q4⟩:=B4 hb hc
  rw [MN hc]
  simp only
  by_cases hk:k=72
  ·rw [wF hk,uH (show (b.length:Int) - r.length≠0 by omega),Bool.or_self,cond_false]
   subst hk
   obtain ⟨x,p,e1,e2⟩:=zBq q1
   rw [e1,zbs]
   have hun:jW b=match pI body with | some (h,[])=>if aH h=0 then some (h,r) else none | _=>none:=by
    unfold jW;rw [hc];exact if_pos rfl
   cases hp:pI body with
   | none =>
    rw [hp] at e2 hun
    simp only at e2
    subst e2
    rw [hun];rfl
   | some y =>
    obtain ⟨y,rr⟩:=y
    rw [hp] at e2 hun
    cases rr with
    | cons c cs =>
     simp only at e2 hun
     subst e2
     rw [hun];rfl
    | nil =>
     simp only at e2 hun
     obtain ⟨rfl,rfl⟩:=e2
     obtain ⟨u1,u2⟩:=HF.uniq body x [] q1.1 hp
     have w1:=u2.nt;have w2:=u2.nd;have w3:=u2.ns
     by_cases h0:aH x=0
     ·rw [if_pos h0] at hun
      simp only
      rw [yP h0,Bool.not_true,cond_false,xZ (by simp only [List.length_nil];omega),zbs,hun]
      simp only [List.nil_append]
      have g2:=zCi (r2:=(x,true)) hb (by simp only;omega) (by simp only;omega) r.length 281474976710656 (CJ x ((b.length:Int) - r.length)) r [] (Nat.le_refl _) (by omega) (QO (by omega)) q4 (by omega) rfl rfl
      have g3:rA 281474976710656 b (x,true) 281474976710656 ((b.length:Int) - r.length) ((b.length:Int) - r.length) 0 x.Snaps [] x.Snaps []=_:=g2
      rw [g3];rfl
     ·rw [if_neg h0] at hun
      simp only
      rw [yM h0,Bool.not_false,cond_true,hun]
  ·rw [wE hk,Bool.true_or,cond_true]
   have hn:jW b=none:=by unfold jW;rw [hc];simp [hk]
   rw [hn]
end Go.Ab
