/- Producers: the five laws. -/
import Derived.Test.YtdpgdpjoemdkjaaC10b
import Derived.Test.YtdpgdpjoemdkjaaR10
namespace Go.Ab
open Go
set_option linter.unusedVariables false
theorem zKP (e:zE):∃ b,zB2 200000 e=some b:=by
 unfold zB2
 by_cases h:(decide (((e.Name.length:Nat):Int)>200)||decide (((e.Stack.length:Nat):Int)>60))=true
 ·rw [h];exact ⟨_,rfl⟩
 rw [show (decide (((e.Name.length:Nat):Int)>200)||decide (((e.Stack.length:Nat):Int)>60))=false by simpa using h,cond_false]
 have hs:e.Stack.length≤60:=by simp at h;omega
 rw [zBy (l:=e.Stack) (j2 200000 e) (fun _ x=>if (x.length:Int)>200 then some false else none) (fun n i hi=>by
  show uR _ _ _ _=_
  unfold uR
  rw [yR (by omega),cond_false]) (fun n i x r hd hlt=>by
  have hb:j2 200000 e (n+1) (i:Nat)=bif decide ((x.length:Int)>200) then some (.inr false) else j2 200000 e n ((i+1:Nat):Int):=by
   show uR _ _ _ _=_
   unfold uR
   rw [y4 (by omega),cond_true,vH hd,Option.bind_some,qM (by omega)]
  rw [hb]
  by_cases h:(x.length:Int)>200
  ·rw [if_pos h,y4 h];exact ⟨fun b h=>(by injection h with h;rw [← h];rfl),fun h=>(by cases h)⟩
  ·rw [if_neg h,yR h];exact ⟨fun b h=>(by cases h),fun _=>rfl⟩) (by omega),Option.bind_some]
 generalize pV (fun _ x=>if ((x:List Int).length:Int)>200 then some false else none) 0 e.Stack=o
 cases o with
 | inl u=>exact ⟨_,rfl⟩
 | inr b=>exact ⟨_,rfl⟩
theorem zM5 {ops:List y3}:zCr 200000 ops=some false∨(zCr 200000 ops=some true∧ops.length≤40):=by
 unfold zCr
 by_cases h:(ops.length:Int)>40
 ·rw [y4 h];exact .inl rfl
 rw [yR h,cond_false]
 have key:∀ (n i:Nat),(ops.drop i).length<n→∃ o,zAk 200000 ops n (i:Nat)=some o∧(o=.inl ()∨o=.inr false):=by
  intro n
  induction n with
  | zero=>intro i h;omega
  | succ n ih =>
   intro i hn
   show ∃ o,kQ _ _ _ _=some o∧_
   unfold kQ
   rcases hd:ops.drop i with _ | ⟨x,r⟩
   ·have:=drop_nil hd
    rw [yR (by omega),cond_false];exact ⟨_,rfl,.inl rfl⟩
   have hlt:=pF hd
   rw [hd] at hn
   simp only [List.length_cons] at hn
   obtain ⟨b,hb⟩:=zKP x.E
   rw [y4 (by omega),cond_true,vH hd,Option.bind_some,hb,Option.bind_some]
   cases b
   ·exact ⟨_,rfl,.inr rfl⟩
   ·rw [Bool.not_true,cond_false,qM (by omega)]
    exact ih (i+1) (by rw [uF hd];omega)
 obtain ⟨o,g1,g2⟩:=key 200000 0 (by simp;omega)
 rw [show zAk 200000 ops 200000 0=_ from g1,Option.bind_some]
 rcases g2 with rfl | rfl
 ·exact .inr ⟨rfl,by omega⟩
 ·exact .inl rfl
theorem zNr (p:zA):(⟨⟨p.Thread.Id,p.Thread.Name,p.Thread.Domain⟩,p.Names,p.Stacks,⟨p.Ring.Policy,p.Ring.Data,p.Ring.Start,p.Ring.End,p.Ring.First,p.Ring.Next⟩,p.Last,p.Sent⟩:zA)=p:=rfl
structure PV (p:zA):Prop where
 b:PB p
 dat:p.Ring.Data.length≤1000
 chk:(vX p).2=0
theorem PV.write {p:zA} {e:zE} (h:PV p) (hz:(zAL p e).2=0):PV (zAL p e).1:=by
 obtain ⟨_,h2,k,w⟩:=zH4 h.b.ring hz
 exact ⟨h2,by rw [w.dat];exact h.dat,by rw [w.chk]⟩
theorem PV.drain {p:zA} (h:PV p):PV (zAZ p).2:=by
 have d:=zGV h.chk
 exact ⟨zOi h.b,by rw [d.dat];exact h.dat,by rw [d.chk]⟩
def thT:zC:=⟨1,[116],0⟩
theorem zN4:kH thT=0:=by decide
structure Acc (stall:Bool) (p:zA) (W:List zE):Prop where
 v:PV p
 nx:p.Ring.Next=(W.length:Int)
 ev:(vX p).1=W.drop p.Ring.First.toNat
 em:(vX p).1=[]→p.Sent=p.Ring.Next
 pol:stall=true→p.Ring.Policy=2∧p.Ring.First=p.Sent
theorem Acc.range {stall:Bool} {p:zA} {W:List zE} (h:Acc stall p W):0≤p.Sent∧p.Sent≤p.Ring.First∧p.Ring.First≤(W.length:Int):=by
 have:=pO h.v.chk
 have:=h.nx
 omega
theorem Acc.write {stall:Bool} {p:zA} {W:List zE} {e:zE} (h:Acc stall p W) (hz:(zAL p e).2=0):Acc stall (zAL p e).1 (W++[e]):=by
 obtain ⟨_,h2,k,w⟩:=zH4 h.v.b.ring hz
 have hr:=h.range
 have hk:=w.kle
 rw [h.ev,List.length_drop] at hk
 refine ⟨h.v.write hz,?_,?_,?_,?_⟩
 ·rw [w.next,h.nx];simp
 ·rw [w.chk,w.first,h.ev,List.drop_drop,show (p.Ring.First+(k:Int)).toNat=p.Ring.First.toNat+k by omega,List.drop_append_of_le_length (by omega)]
 ·rw [w.chk];intro he;simp at he
 ·intro hs
  have:=h.pol hs
  rw [w.pol,w.first,w.sent,w.stall this.1]
  exact ⟨this.1,by simp;exact this.2⟩
theorem Acc.drain {stall:Bool} {p:zA} {W:List zE} (h:Acc stall p W):Acc stall (zAZ p).2 W:=by
 have d:=zGV h.v.chk
 have hr:=h.range
 refine ⟨h.v.drain,by rw [d.next,h.nx],?_,?_,?_⟩
 ·rw [d.chk,d.first,h.nx];simp
 ·intro _;rw [d.sent,d.next]
 ·intro hs;rw [d.pol,d.first,d.sent];exact ⟨(h.pol hs).1,rfl⟩
structure Tw (p:zA) (m:Nat):Prop where
 v:PV p
 nx:p.Ring.Next≤m
 en:p.Ring.End≤60 * (m:Int)
 pol:p.Ring.Policy=1
 dat:p.Ring.Data.length=200
theorem zLh {ops:List y3} (hl:ops.length≤40):∀ (n i:Nat) (p:zA),Tw p i→i≤ops.length→(ops.drop i).length<n →
  ∃ p':zA,uM 200000 ops n (i:Nat) p.Thread.Id p.Thread.Name p.Thread.Domain p.Names p.Stacks p.Ring.Policy p.Ring.Data p.Ring.Start p.Ring.End p.Ring.First p.Ring.Next p.Last p.Sent =
   some (p'.Thread.Id,p'.Thread.Name,p'.Thread.Domain,p'.Names,p'.Stacks,p'.Ring.Policy,p'.Ring.Data,p'.Ring.Start,p'.Ring.End,p'.Ring.First,p'.Ring.Next,p'.Last,p'.Sent)∧Tw p' 40:=by
 intro n
 induction n with
 | zero=>intro i p _ _ h;omega
 | succ n ih =>
  intro i p hT hi hn
  show ∃ p':zA,uA _ _ _ _ _ _ _ _ _ _ _ _ _ _ _ _ _=_∧_
  unfold uA
  rcases hd:ops.drop i with _ | ⟨x,r⟩
  ·have:=drop_nil hd
   rw [yR (by omega),cond_false]
   have h1:=hT.nx
   have h2:=hT.en
   exact ⟨p,rfl,hT.v,by omega,by omega,hT.pol,hT.dat⟩
  have hlt:=pF hd
  rw [hd] at hn
  simp only [List.length_cons] at hn
  rw [y4 (by omega),cond_true,vH hd,Option.bind_some,zNr p,zCb hT.v.b.ring,Option.bind_some]
  have h1:=hT.nx
  have h2:=hT.en
  by_cases hz:(zAL p x.E).2=0
  ·obtain ⟨_,_,k,w⟩:=zH4 hT.v.b.ring hz
   have w1:=w.next
   have w2:=w.endd
   have hT':Tw (zAL p x.E).1 (i+1):=⟨hT.v.write hz,by omega,by omega,by rw [w.pol];exact hT.pol,by rw [w.dat];exact hT.dat⟩
   rw [zKF hz,cond_true,Option.bind_some]
   simp only
   rw [qM (by omega)]
   exact ih (i+1) _ hT' (by omega) (by rw [uF hd];omega)
  ·rw [zNp hz,cond_false,Option.bind_some]
   simp only
   rw [qM (by omega)]
   exact ih (i+1) p ⟨hT.v,by omega,by omega,hT.pol,hT.dat⟩ (by omega) (by rw [uF hd];omega)
def zA4:zE:=⟨1000000000000,2,[],0,0,[]⟩
theorem zKb:evS zA4=0:=by decide
theorem zKD (n:List (List Int)) (s:List zJ):zA5 n s zA4 (vR 0 zA4 0):=⟨zKb,0,0,rfl,fun h=>absurd h (by decide),fun h=>absurd h (by decide)⟩
theorem zLQ {p:zA} {m:Nat} (hT:Tw p m) (hm:m≤40) (hc:(vX p).1=[]) (he:p.Ring.Start=p.Ring.End):(zAL p zA4).2=0:=by
 obtain ⟨c1,c2,c3,c4,c5,c6,c7,c8⟩:=zAb hT.v.chk
 have hf:=pO hT.v.chk
 have hco:=zKD p.Names p.Stacks
 have hE:=zM1 c2 hco
 have hk:=zIE c2 hco
 have hfr:=zBR (xL (vR 0 zA4 0))
 have h1:=hT.nx
 have h2:=hT.en
 have h3:=hT.dat
 have hp:p.Ring.Policy≠2:=by rw [hT.pol];omega
 have hC:tP p.Ring (xL (vR 0 zA4 0))=0:=by
  unfold tP
  rw [if_neg (by omega),if_neg (by omega),if_neg (fun h=>hp h.1),if_neg (by omega)]
 unfold zAL
 rw [if_neg (by rw [hT.v.chk];simp),if_neg (by rw [zKb];simp),if_neg (show ¬ zA4.At<p.Last by show ¬ (1000000000000:Int)<p.Last;omega),hE]
 unfold j8
 rw [if_neg (by simp),if_neg (show ¬ (if tP p.Ring (xL (vR 0 zA4 0))≠0 then (p.Ring,(0:Int),tP p.Ring (xL (vR 0 zA4 0))) else (tK p.Ring (xL (vR 0 zA4 0)),(uJ p.Ring (xL (vR 0 zA4 0)):Int),0)).2.2≠0 by rw [if_neg (by omega)];simp)]
theorem L10_ProducerTwice_plain:∀ (a0:List y3),zDI qW a0→∃ F,uT F a0=some true:=by
 intro ops h2
 refine ⟨200000,?_⟩
 unfold uT
 rw [zNF,Option.bind_some,Bool.not_true,cond_false]
 rcases zM5 (ops:=ops) with h | ⟨h,hl⟩
 ·rw [h,Option.bind_some,Option.bind_some,Bool.not_false,cond_true,Option.bind_some]
 rw [h,Option.bind_some,Option.bind_some,Bool.not_true,cond_false]
 show ((qY 200000 thT 200 1).bind _)=_
 rw [zGd,Option.bind_some]
 obtain ⟨e1,e2,e3⟩:=zOj (t:=thT) (size:=200) (pol:=1) zN4 (by omega) (by omega)
 have hT0:Tw (zDL thT 200 1).1 0:=⟨⟨e2,by rw [e1];show (List.replicate (200:Int).toNat (0:Int)).length≤1000;rw [List.length_replicate];omega,by rw [e3]⟩,by rw [e1];exact Int.le_refl 0,by rw [e1];exact Int.le_refl 0,by rw [e1],by rw [e1];show (List.replicate (200:Int).toNat (0:Int)).length=200;rw [List.length_replicate];omega⟩
 obtain ⟨p,g1,hT⟩:=zLh hl 200000 0 (zDL thT 200 1).1 hT0 (by omega) (by simp;omega)
 rw [show uM 200000 ops 200000 0 _ _ _ _ _ _ _ _ _ _ _ _ _=_ from g1,Option.bind_some]
 simp only
 by_cases hN:(p.Names.length:Int)≥1000
 ·rw [y4 hN,cond_true]
 rw [yR hN,cond_false,zNr,zAv hT.v.b.ring hT.v.dat,Option.bind_some]
 have hV1:=hT.v.drain
 have d:=zGV hT.v.chk
 have hz0:(vX p).2=0:=hT.v.chk
 have hf:=pO hz0
 generalize hq:(zAZ p).2=q at *
 have hTq:Tw q 40:=⟨hV1,by rw [d.next];exact hT.nx,by rw [d.endd];exact hT.en,by rw [d.pol];exact hT.pol,by rw [d.dat];exact hT.dat⟩
 have hfq:=pO hV1.chk
 have hsame:(zAZ q).2=q:=by
  have c3:=(zAb hV1.chk).2.2.1
  unfold zAZ
  rw [if_neg (by rw [hV1.chk];simp),zCh c3]
  have a1:=d.sent;have a2:=d.first;have a3:=d.next;have a4:=d.start;have a5:=d.endd
  obtain ⟨⟨_,_,_⟩,_,_,⟨_,_,_,_,_,_⟩,_,_⟩:=q
  simp_all
 have hpk:(zAZ q).1=[]:=by rw [zIY hV1.chk,d.chk];rfl
 have hlost:zH8 q=0:=by
  unfold zH8
  rw [if_neg (by rw [hV1.chk];simp),d.first,d.sent,Int.sub_self];rfl
 rw [zAv hV1.b.ring hV1.dat,Option.bind_some,hpk,hsame,show ((([]:List yJ).length:Int) != (0:Int))=false from rfl,cond_false,zHE hV1.b,Option.bind_some,Bool.not_true,cond_false,zFn hV1.b.ring,Option.bind_some,hlost,xS rfl,cond_false,zAB hV1.b.ring,Option.bind_some,hV1.chk,xS rfl,Option.bind_some,cond_false]
 have hw:=zLQ hTq (Nat.le_refl _) (by rw [d.chk]) (by rw [d.start,d.endd])
 obtain ⟨_,hPB,k,w⟩:=zH4 hV1.b.ring hw
 have hV2:=hV1.write hw
 have hk:k=0:=by have:=w.kle;rw [d.chk] at this;simpa using this
 show ((vN 200000 q zA4).bind _)=_
 rw [zCb hV1.b.ring,Option.bind_some,zAv hV2.b.ring hV2.dat,Option.bind_some,hw,zKF rfl,cond_true,zIY hV2.chk,w.chk,d.chk,w.first,w.sent,d.first,d.sent,hk]
 simp only [List.drop_nil,List.nil_append]
 unfold zJj
 rw [if_neg (by simp),show (((([(⟨(zAL q zA4).1.Thread.Id,p.Ring.Next+((0:Nat):Int),p.Ring.Next+((0:Nat):Int) - p.Ring.Next,[zA4]⟩:yJ)]:List yJ).length:Nat):Int)==(1:Int))=true from rfl,cond_true]
 simp only [xQ]
 simp
end Go.Ab
