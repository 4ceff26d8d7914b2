/- Lemmas. No conditions but those that they name. -/
import Derived.Test.YtcejcgalbcnjnaaGreatCtJ
namespace Go.Ab
open Go
set_option linter.unusedVariables false
theorem zGv {c:Nat} (h1:2<=c) (h2:c<=20000):QW FF [INF] (c:Int)=some (List.replicate c INF):=by
 unfold QW UG;rw [xN (by omega),cond_false,zbs];rw [show z9 ((([INF]:List Int).length:Nat):Int)=1 by decide,JL (x:=(c:Int)) (by omega) (by omega),zEu (by omega) (by omega) (by omega) (by omega) (by omega),Int.one_mul];simp only [zbs];rw [xN (by omega),xN (by omega),D6,cond_false,zbs,w64 (by omega) (by omega),wB,tB (by omega),zbs,tB (by rw [k8];omega),zbs];have hloop:∀ (n a:Nat) (row:List Int),c - a<n->1<=a->a<=c->row.length=c->(∀ i<a,row.getD i 0=INF)->N2 FF n a row=some (List.replicate c INF):=by
  intro n
  induction n with
  | zero=>intro a row h;omega
  | succ n ih =>
   intro a row hn ha hac hl hr;show X7 _ _ _ _=_;unfold X7;rw [hl];rcases zlg a c with hlt | hge
   ·rw [wE (by omega),cond_true,tB (by omega),zbs,tB (by omega),zbs,wB,tB (by omega),zbs,zbs,zdz,nL,hl,
     DQ hac,w64 (by omega) (by omega),show (a:Int)+((min a (c - a):Nat):Int)=((a+min a (c - a):Nat):Int) by omega]
    have hcl:(cpy row a c (row.take a)).length=c:=by
     unfold cpy;simp only [zla,nL,DU,hl];omega
    refine ih (a+min a (c - a)) _ (by omega) (by omega) (by omega) hcl fun i hi=>?_
    have hcpy:cpy row a c (row.take a)=row.take a++((row.take a).take (c - a)++row.drop (a+min a (c - a))):=by
     unfold cpy;rw [nL,hl,DQ hac,oT]
     congr 2
     rw [List.take_take,List.take_take]
     congr 1
     omega
    rw [hcpy,vQ];have hta:(row.take a).length=a:=by rw [nL];omega
    rcases zlg i a with h9 | h9
    ·rw [uH (by omega),LW h9,<- vQ];exact hr i h9
    ·rw [u4 (by omega),hta,uH (by rw [nL,hta];omega),LW (by omega),LW (by omega),<- vQ];exact hr _ (by omega)
   ·rw [xN (by omega),cond_false]
    congr 1
    apply SA;intro i
    by_cases hi:i<c
    ·rw [jG 0 (by omega),hr i (by omega),iE,if_pos hi]
    ·rw [vH (by omega),vH (by rw [k8];omega)]
 have hm:min ([INF]:List Int).length (c - 0)=1:=by simp;omega
 rw [hm]
 have:=hloop FF 1 (cpy (List.replicate c (0:Int)) 0 c [INF]) (by show _<281474976710656;omega) (by omega) (by omega) (by unfold cpy;simp;omega) (fun i hi=>by
  have hm1:min 1 c=1:=by omega
  rw [show i=0 by omega];unfold cpy;simp [hm1])
 rw [this];rfl
section
variable {T:Int->Int->Int} {d:List yW} {l:List xO} {id a:Int}
theorem zEo {m:qO} {es:List xD} (hg:Gr T m es 6000) {back:Bool} {π:Int->Int} (hP:Pot back π es) (h0:π 0=0) (hm:m≠[]):Ok (JH FF ⟨some m,es⟩ back) fun r=>r.length=m.length+1/\Low (m.length+1) π r/\Bnd (m.length+1) 1000000000000000 r/\∀ v,Rch back es 3 v->gD r v≠INF:=by
 have hsz:=hg.size;have hml:0<m.length:=List.length_pos_iff.mpr hm;unfold JH;simp only [jE];rw [w5,show (m.length:Int)+1=((m.length+1:Nat):Int) by omega,zGv (by omega) (by omega),zbs];refine vK (by omega) (by rw [k8];omega) fun x hx=>?_
 refine yX (zIA (W:=10000000) (g:=⟨some m,es⟩) (len:=m.length+1) hg.ok (by omega) (by omega) (by show es.length<=7000;omega) (by omega) (by omega) hP h0) fun r hr=>?_
 exact wP (by rw [hr.1,k8]) (yB hr)
theorem zK9 (h:Bd d l T id a):Ok (NV FF d l id a) fun r=>r.2=0/\r.1.Lo<=T id a/\T id a<=r.1.Hi /\ -1000000000000000<=r.1.Lo/\r.1.Hi<=1000000000000000:=by
 have hdl:=h.dl;have hll:=h.ll;have ha:=h.at0;unfold NV;rw [show A4 FF d l=_ from zAb (by omega) (by omega),zbs,h.chk,tV rfl,cond_false];refine yX (zNm (by omega) id) fun b hb=>?_
 rw [hb.mpr h.hid,cO,cond_false,xN (by omega),xN (by omega),D6,cond_false];refine yX (zO4 (by omega) h.d0 (by omega) h.chk h.hid (fun s hs=>(h.sn s hs).1) h.lk) ?_;rintro _ rfl;rw [cO,cond_false];refine yX (zH2 h) ?_;rintro ⟨nm,es⟩ ⟨m,rfl,hg,k,hk,hr⟩;simp only at hg hk hr ⊢;have hm:m≠[]:=fun h=>by rw [h] at hk;cases hk
 have hsz:=hg.size;have hpot:Pot false (piG T m) es:=hg.pot;have hpot2:Pot true (fun v => -piG T m v) es:=fun e he=>by
  have:=hg.pot e he
  show -piG T m e.from_ - -piG T m e.to_<=_;omega
 have p0:piG T m 0=0:=if_pos rfl;obtain ⟨k1,k2,k3⟩:=hg.get hk;simp only [jE];refine yX (P:=fun r=>r=true) ?_ ?_
 ·unfold UH;show Ok ((need (0<=zG ((m.length:Int)+1)/\(zG ((m.length:Int)+1)).toNat * 8<=281474976710656)).bind fun _=>(AH FF ⟨some m,es⟩ (List.replicate (zG ((m.length:Int)+1)).toNat 0) false).bind fun r_1=>(need (r_1.2.length=(zG ((m.length:Int)+1)).toNat)).bind fun _=>some r_1.1) _;rw [w5,show ((m.length:Int)+1).toNat=m.length+1 by omega];refine wP (by omega) ?_;refine yX (zOl (W:=10000000) (g:=⟨some m,es⟩) (len:=m.length+1) hg.ok (by omega) (by omega) (by show es.length<=7000;omega) (by omega) hpot) fun r hr=>wP hr.1 (yB hr.2)
 rintro _ rfl;rw [cO,cond_false];have hnum:gK ⟨some m,es⟩ id a=some (k,m):=by
  unfold gK;simp only [jE];rw [hk,U8,cO,cond_false];rfl
 rw [hnum,zbs];simp only;refine yX (zEo hg hpot2 (by show -piG T m 0=0;omega) hm) fun r7 h7=>?_
 obtain ⟨a1,a2,a3,a4⟩:=h7;refine wO fun x1 hx1=>?_
 have hx1:x1=gD r7 k:=(getD_some hx1).symm;refine yX (zEo hg hpot p0 hm) fun r8 h8=>?_
 obtain ⟨b1,b2,b3,b4⟩:=h8;refine wO fun x2 hx2=>?_
 have hx2:x2=gD r8 k:=(getD_some hx2).symm;have f1:=a4 k (hr true);have f2:=b4 k (hr false);have l1:=(a2 k.toNat (by omega)).resolve_left f1;have l2:=(b2 k.toNat (by omega)).resolve_left f2;have l3:=(a3.2 k.toNat (by omega)).resolve_left f1;have l4:=(b3.2 k.toNat (by omega)).resolve_left f2;have ek:((k.toNat:Nat):Int)=k:=by omega
 simp only [ek,k3] at l1 l2;have hw:zG (0 - x1) = -x1:=by rw [w64 (by rw [hx1];unfold gD;omega) (by rw [hx1];unfold gD;omega)];omega
 rw [hw];refine yB ?_;simp only;rw [hx1,hx2];unfold gD;exact ⟨trivial,by omega,by omega,by omega,by omega⟩
end
end Go.Ab
