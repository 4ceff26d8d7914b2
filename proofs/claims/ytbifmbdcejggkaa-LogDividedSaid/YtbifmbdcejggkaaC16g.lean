/- Chains of packets: what depends on a thread's packets only; dividing packets. No conditions but those that the theorems name. -/
import Derived.Test.YtbifmbdcejggkaaC16f
namespace Go.Ab
open Go
set_option linter.unusedVariables false

theorem zLM:∀ (x y:List zH) (p:Option Int),t0 p (x++y)=if t0 p x≠0 then t0 p x else t0 (if x=[] then p else some (qK x)) y:=by
  intro x
  induction x with
  | nil=>intro y p;simp [t0]
  | cons e r ih =>
    intro y p
    have hc:∀ z,t0 p (e::z)=if evS e≠0 then evS e else bif p.any (fun a=>decide (e.At<a)) then 11 else t0 (some e.At) z:=fun z=>rfl
    rw [List.cons_append,hc,hc]
    by_cases he:evS e≠0
    · rw [if_pos he,if_pos he,if_pos he]
    rw [if_neg he,if_neg he]
    cases hp:p.any (fun a=>decide (e.At<a))
    · rw [cond_false,cond_false,ih y (some e.At)]
      have hl:(if r=[] then some e.At else some (qK r))=(if e::r=[] then p else some (qK (e::r))):=by
        rw [if_neg (show ¬ e::r=[] by simp)]
        by_cases hr:r=[]
        · rw [if_pos hr,hr];rfl
        · rw [if_neg hr];unfold qK;rw [List.getLast?_cons_of_ne_nil hr]
      rw [hl]
    · rfl
theorem zKi {y:List zH} {a:Int} (hy:0<y.length):t0 (some a) y=0↔t0 none y=0∧a≤kG y:=by
  cases y with
  | nil=>simp at hy
  | cons e r =>
    simp only [t0]
    have hh:kG (e::r)=e.At:=rfl
    rw [hh]
    by_cases he:evS e≠0
    · rw [if_pos he,if_pos he];omega
    rw [if_neg he,if_neg he]
    simp only [Option.any_some,Option.any_none,cond_false]
    by_cases h:e.At<a
    · rw [y1 h];simp;omega
    · rw [y0 h,cond_false];constructor
      · intro h2;exact ⟨h2,by omega⟩
      · intro h2;exact h2.1
theorem zKU {x y:List zH} (hx:0<x.length) (hy:0<y.length):t0 none (x++y)=0↔t0 none x=0∧t0 none y=0∧qK x≤kG y:=by
  have hne:x≠[]:=by intro e;rw [e] at hx;simp at hx
  rw [zLM]
  by_cases h:t0 none x≠0
  · rw [if_pos h];constructor
    · intro g;exact absurd g h
    · intro g;exact absurd g.1 h
  · rw [if_neg h,if_neg hne,zKi hy]
    constructor
    · intro g;exact ⟨by omega,g⟩
    · intro g;exact g.2
theorem zGA {p:zB}:vW p=0↔¬ tR p∧0<p.Events.length∧p.Events.length≤1000∧t0 none p.Events=0:=by
  unfold vW
  by_cases h1:tR p
  · rw [if_pos h1];simp [h1]
  rw [if_neg h1]
  by_cases h2:p.Events.length=0
  · rw [if_pos h2];simp [h2]
  rw [if_neg h2]
  by_cases h3:p.Events.length>1000
  · rw [if_pos h3];simp;omega
  · rw [if_neg h3]
    constructor
    · intro h;exact ⟨h1,by omega,by omega,h⟩
    · intro h;exact h.2.2.2

theorem zJl {x y:List zH} (h:0<x.length):kG (x++y)=kG x:=by
  cases x with
  | nil=>simp at h
  | cons a r=>rfl
theorem zJj {x y:List zH} (h:0<y.length):qK (x++y)=qK y:=by
  unfold qK
  rw [List.getLast?_append]
  cases hy:y.getLast? with
  | none=>rw [List.getLast?_eq_none_iff] at hy;subst hy;simp at h
  | some a=>rfl

theorem tH {l:List zB} {p:zB}:uD (l++[p])↔uD l∧vW p=0∧v9 l p=true:=by
  constructor
  · exact uD.snoc
  · rintro ⟨h1,h2,h3⟩ i q hq
    rcases Nat.lt_or_ge i l.length with hlt | hge
    · rw [List.getElem?_append_left hlt] at hq
      rw [List.take_append_of_le_length (by omega)]
      exact h1 i q hq
    · have hlt:=(List.getElem?_eq_some_iff.1 hq).1
      rw [List.length_append,List.length_singleton] at hlt
      have hil:i=l.length:=by omega
      subst hil
      simp only [List.getElem?_concat_length,Option.some.injEq] at hq
      subst hq
      simp only [List.take_left']
      exact ⟨h2,h3⟩
theorem zFe:uD []:=fun i p h=>by cases h
theorem zAQ {l m:List zB} {p:zB} (h:vU l p.Thread=vU m p.Thread):v9 l p=v9 m p:=by
  unfold v9;rw [h]
theorem zD5 {l:List zB} {p:zB}:v9 l p=true↔p.Serial=(vU l p.Thread).1+p.Lost∧(vU l p.Thread).2≤kG p.Events:=by
  unfold v9
  simp only [Bool.and_eq_true,decide_eq_true_eq,ge_iff_le]
theorem zH2 (k:Int) (l:List zB):vU (ofT k l) k=vU l k:=by
  induction l using t7 with
  | h0=>rfl
  | h1 l p ih =>
    rw [zAg,tK]
    by_cases h:p.Thread=k
    · rw [if_pos h,tK,ih]
    · rw [if_neg h,List.append_nil,ih];unfold zBA;rw [if_neg h]
theorem zGx (k:Int) (l:List zB):wE k (ofT k l)=wE k l:=by
  induction l using t7 with
  | h0=>rfl
  | h1 l p ih =>
    rw [zAg,uR]
    by_cases h:p.Thread=k
    · rw [if_pos h,uR,ih]
    · rw [if_neg h,List.append_nil,ih];unfold zBV;rw [if_neg h]
theorem zEN {l:List zB}:uD l↔∀ k,uD (ofT k l):=by
  induction l using t7 with
  | h0=>exact ⟨fun _ k=>zFe,fun _=>zFe⟩
  | h1 l p ih =>
    rw [tH,ih]
    constructor
    · rintro ⟨h1,h2,h3⟩ k
      rw [zAg]
      by_cases h:p.Thread=k
      · rw [if_pos h,tH]
        exact ⟨h1 k,h2,by rw [← h3];exact zAQ (by rw [h];exact zH2 _ _)⟩
      · rw [if_neg h,List.append_nil];exact h1 k
    · intro h
      have hp:=h p.Thread
      rw [zAg,if_pos rfl,tH] at hp
      refine ⟨fun k=>?_,hp.2.1,by rw [← hp.2.2];exact (zAQ (zH2 _ _)).symm⟩
      have hk:=h k
      rw [zAg] at hk
      by_cases e:p.Thread=k
      · rw [if_pos e,tH] at hk;exact hk.1
      · rw [if_neg e,List.append_nil] at hk;exact hk

/-! Dividing packets. -/
def j3 (c:Option Int) (p:zB):List zB:=match c with
  | none=>[p]
  | some n=>if tF p n then [p] else [⟨p.Thread,p.Serial,p.Lost,p.Events.take n.toNat⟩,⟨p.Thread,p.Serial+n,0,p.Events.drop n.toNat⟩]
def t4 (cuts:List Int) (l:List zB):List zB:=l.zipIdx.flatMap fun q=>j3 cuts[q.2]? q.1
theorem zCA (cuts:List Int) (l:List zB) (p:zB):t4 cuts (l++[p])=t4 cuts l++j3 cuts[l.length]? p:=by
  unfold t4
  rw [List.zipIdx_append,List.flatMap_append]
  simp
theorem zCV (c:Option Int) (p:zB):j3 c p=[p]∨∃ n:Nat,vW p=0∧1≤n∧n<p.Events.length∧j3 c p=[⟨p.Thread,p.Serial,p.Lost,p.Events.take n⟩,⟨p.Thread,p.Serial+n,0,p.Events.drop n⟩]:=by
  unfold j3
  cases c with
  | none=>exact .inl rfl
  | some n =>
    simp only
    by_cases h:tF p n
    · rw [if_pos h];exact .inl rfl
    · rw [if_neg h]
      unfold tF at h
      refine .inr ⟨n.toNat,by omega,by omega,by omega,?_⟩
      rw [show ((n.toNat:Nat):Int)=n by omega]
theorem pK {c:Option Int} {p q:zB} (h:q∈j3 c p):q.Thread=p.Thread:=by
  rcases zCV c p with e | ⟨n,_,_,_,e⟩
  · rw [e,List.mem_singleton] at h;rw [h]
  · rw [e] at h
    simp only [List.mem_cons,List.not_mem_nil,or_false] at h
    rcases h with h | h<;>rw [h]
theorem zHs (c:Option Int) (p:zB):(j3 c p).length≤2∧evN (j3 c p)=p.Events.length:=by
  rcases zCV c p with e | ⟨n,_,_,_,e⟩
  · rw [e];simp [evN]
  · rw [e];simp [evN];omega
theorem zEF (cuts:List Int) (l:List zB):(t4 cuts l).length≤2 * l.length∧evN (t4 cuts l)=evN l:=by
  induction l using t7 with
  | h0=>simp [t4,evN]
  | h1 l p ih =>
    rw [zCA,zFx,zCS]
    have:=zHs cuts[l.length]? p
    simp only [List.length_append,List.length_singleton]
    omega
theorem zJR (cuts:List Int) (l:List zB):∀ q∈t4 cuts l,∃ p∈l,q.Thread=p.Thread:=by
  induction l using t7 with
  | h0=>intro q h;simp [t4] at h
  | h1 l p ih =>
    intro q h
    rw [zCA] at h
    rcases List.mem_append.1 h with h | h
    · obtain ⟨p,h1,h2⟩:=ih q h;exact ⟨p,by simp [h1],h2⟩
    · exact ⟨p,by simp,pK h⟩
theorem zMu (out:List zB) (p:zB) (n:Nat):zAr (zAr out ⟨p.Thread,p.Serial,p.Lost,p.Events.take n⟩) ⟨p.Thread,p.Serial+n,0,p.Events.drop n⟩=zAr out p:=by
  have h1:∀ (xs:List zH) (o:List zB),0<o.length→0<(xs.foldl fE o).length:=by
    intro xs
    induction xs with
    | nil=>intro o h;exact h
    | cons x xs ih=>intro o h;exact ih _ (by unfold fE;split<;>exact zA9 _ _)
  have h2:kL out ⟨p.Thread,p.Serial,p.Lost,p.Events.take n⟩=kL out p:=rfl
  have h3:∀ o:List zB,0<o.length→kL o ⟨p.Thread,p.Serial+n,0,p.Events.drop n⟩=o:=by
    intro o ho
    unfold kL
    rw [if_neg (by simp only;omega)]
  unfold zAr
  rw [h3 _ (h1 _ _ (zFN _ _)),h2]
  simp only
  rw [← List.foldl_append,List.take_append_drop]
theorem zIG {p:zB} {n:Nat} (h:vW p=0) (h1:1≤n) (h2:n<p.Events.length) :
    vW ⟨p.Thread,p.Serial,p.Lost,p.Events.take n⟩=0∧vW ⟨p.Thread,p.Serial+n,0,p.Events.drop n⟩=0∧qK (p.Events.take n)≤kG (p.Events.drop n):=by
  have hz:=tG h
  have ht:(p.Events.take n).length=n:=by rw [List.length_take];omega
  have hd:(p.Events.drop n).length=p.Events.length - n:=List.length_drop
  have ha:=hz.2.2.2.2.2.2.2.2
  rw [← List.take_append_drop n p.Events,zKU (by omega) (by omega)] at ha
  rw [zGA,zGA]
  unfold tR nS
  simp only [ht,hd]
  exact ⟨⟨by omega,by omega,by omega,ha.1⟩,⟨by omega,by omega,by omega,ha.2.1⟩,ha.2.2⟩
theorem zK6 {m:List zB} {p:zB} (c:Option Int) (h:uD (m++[p])):uD (m++j3 c p)∧(∀ k,vU (m++j3 c p) k=vU (m++[p]) k)∧∀ k,wE k (m++j3 c p)=wE k (m++[p]):=by
  rcases zCV c p with e | ⟨n,h0,h1,h2,e⟩
  · rw [e];exact ⟨h,fun _=>rfl,fun _=>rfl⟩
  · rw [e]
    obtain ⟨s1,s2,s3⟩:=zIG h0 h1 h2
    obtain ⟨g1,g2,g3⟩:=tH.1 h
    have ht:(p.Events.take n).length=n:=by rw [List.length_take];omega
    have hd:(p.Events.drop n).length=p.Events.length - n:=List.length_drop
    rw [show ∀ a b:zB,m++[a,b]=(m++[a])++[b] from fun a b=>by simp]
    refine ⟨?_,fun k=>?_,fun k=>?_⟩
    · rw [tH,tH]
      refine ⟨⟨g1,s1,?_⟩,s2,?_⟩
      · rw [zD5] at g3 ⊢
        refine ⟨g3.1,?_⟩
        have hh:kG (p.Events.take n)=kG p.Events:=by
          conv=>rhs;rw [← List.take_append_drop n p.Events,zJl (by omega)]
        simp only
        rw [hh];exact g3.2
      · rw [zD5,tK]
        simp only [zBA,if_true,ht]
        exact ⟨by omega,s3⟩
    · rw [tK,tK,tK]
      simp only [zBA]
      by_cases hk:p.Thread=k
      · simp only [if_pos hk]
        rw [show qK (p.Events.drop n)=qK p.Events by conv=>rhs;rw [← List.take_append_drop n p.Events,zJj (by omega)]]
        rw [hd,show p.Serial+((n:Nat):Int)+((p.Events.length - n:Nat):Int)=p.Serial+(p.Events.length:Int) by omega]
      · simp only [if_neg hk]
    · rw [uR,uR,uR]
      simp only [zBV]
      by_cases hk:p.Thread=k
      · simp only [if_pos hk];exact zMu _ _ _
      · simp only [if_neg hk]
theorem zMA (cuts:List Int) {l:List zB} (h:uD l):uD (t4 cuts l)∧(∀ k,vU (t4 cuts l) k=vU l k)∧∀ k,wE k (t4 cuts l)=wE k l:=by
  induction l using t7 with
  | h0=>exact ⟨h,fun _=>rfl,fun _=>rfl⟩
  | h1 l p ih =>
    obtain ⟨g1,g2,g3⟩:=tH.1 h
    obtain ⟨i1,i2,i3⟩:=ih g1
    rw [zCA]
    obtain ⟨d1,d2,d3⟩:=zK6 (m:=t4 cuts l) cuts[l.length]? (tH.2 ⟨i1,g2,by rw [← g3];exact zAQ (i2 _)⟩)
    refine ⟨d1,fun k=>?_,fun k=>?_⟩
    · rw [d2,tK,tK,i2]
    · rw [d3,uR,uR,i3]
def pX (k:Int) (l:List zB):List zB:=l.filter fun p=>!decide (p.Thread=k)
theorem zGh (k f:Int) (m:List zB):ofT k (ofT f m++pX f m)=ofT k m:=by
  unfold ofT pX
  rw [List.filter_append,List.filter_filter,List.filter_filter]
  by_cases h:k=f
  · subst h
    rw [show (fun a:zB=>decide (a.Thread=k)&&decide (a.Thread=k))=fun a=>decide (a.Thread=k) from by funext a;simp]
    rw [show (fun a:zB=>decide (a.Thread=k)&&!decide (a.Thread=k))=fun a=>false from by funext a;simp]
    simp
  · rw [show (fun a:zB=>decide (a.Thread=k)&&decide (a.Thread=f))=fun a=>false from by
      funext a
      by_cases ha:a.Thread=k
      · rw [y1 ha,y0 (fun e=>h (ha ▸ e))];rfl
      · rw [y0 ha];rfl]
    rw [show (fun a:zB=>decide (a.Thread=k)&&!decide (a.Thread=f))=fun a=>decide (a.Thread=k) from by
      funext a
      by_cases ha:a.Thread=k
      · rw [y1 ha,y0 (fun e=>h (ha ▸ e))];rfl
      · rw [y0 ha];rfl]
    simp
theorem zGj (f:Int) (m:List zB):evN (ofT f m++pX f m)=evN m∧(ofT f m++pX f m).length=m.length:=by
  induction m with
  | nil=>exact ⟨rfl,rfl⟩
  | cons a r ih =>
    obtain ⟨i1,i2⟩:=ih
    rw [zFx] at i1 ⊢
    unfold ofT pX at *
    rw [List.length_append] at *
    rw [List.filter_cons,List.filter_cons]
    by_cases h:a.Thread=f
    · simp only [y1 h,Bool.not_true,if_true,Bool.false_eq_true,if_false]
      simp only [evN,List.map_cons,List.sum_cons,List.length_cons] at *
      omega
    · simp only [y0 h,Bool.not_false,if_true,Bool.false_eq_true,if_false]
      simp only [evN,List.map_cons,List.sum_cons,List.length_cons] at *
      omega
/-- What a log says of packets depends on each thread's packets only. -/
theorem zJI {h:zT} {l:List zB} (cuts:List Int) (f:Int) (hg:zIa h l):zIa h (ofT f (t4 cuts l)++pX f (t4 cuts l))∧qE h (ofT f (t4 cuts l)++pX f (t4 cuts l))=qE h l:=by
  obtain ⟨d1,d2,d3⟩:=zMA cuts hg.passed
  have hlen:=zEF cuts l
  refine ⟨⟨?_,?_,?_⟩,?_⟩
  · rw [zEN]
    intro k
    rw [zGh]
    exact zEN.1 d1 k
  · intro q hq
    have hm:q∈t4 cuts l:=by
      rcases List.mem_append.1 hq with hq | hq
      · exact (List.mem_filter.1 hq).1
      · exact (List.mem_filter.1 hq).1
    obtain ⟨p,h1,h2⟩:=zJR cuts l q hm
    rw [h2];exact hg.known p h1
  · rw [(zGj _ _).1,hlen.2];exact hg.few
  · unfold qE
    congr 1
    funext t
    rw [← zGx,zGh,zGx,d3]

theorem zIh {l:List zB} {cuts:List Int} {f:Int} (hl:l.length≤1000) (hc:cuts.length≤1000) (hN:∀ p∈l,p.Events.length≤100000):∀ (n i:Nat),(l.drop i).length<n →
    u5 281474976710656 l cuts f n (i:Nat) (ofT f (t4 cuts (l.take i))) (pX f (t4 cuts (l.take i)))=some (ofT f (t4 cuts l),pX f (t4 cuts l)):=by
  intro n
  induction n with
  | zero=>intro i h;omega
  | succ n ih =>
    intro i hn
    show uP _ _ _ _ _ _ _ _=_
    unfold uP
    rcases hd:l.drop i with _ | ⟨x,r⟩
    · have:=tC hd
      rw [y0 (by omega),cond_false,List.take_of_length_le this]
    · have hi:=t9 hd
      rw [hd] at hn
      simp only [List.length_cons] at hn
      have hx:=zBi hd
      have hnx:=ih (i+1) (by rw [vD hd];omega)
      rw [t6 hd,zCA] at hnx
      have hti:(l.take i).length=i:=by rw [List.length_take];omega
      rw [hti] at hnx
      have hlen:=(zEF cuts (l.take i)).1
      rw [hti] at hlen
      have h1:(ofT f (t4 cuts (l.take i))).length≤2000:=Nat.le_trans (List.length_filter_le _ _) (by omega)
      have h2:(pX f (t4 cuts (l.take i))).length≤2000:=Nat.le_trans (List.length_filter_le _ _) (by omega)
      have h3:=(zHs cuts[i]? x).1
      have hp:(bif decide ((i:Int)<(((cuts).length:Nat):Int)) then (wD cuts (i:Int)).bind fun x_2=>(jE 281474976710656 x x_2).bind fun r_5 =>
          (bif r_5.2.2 then some ([r_5.1,r_5.2.1]:List zB) else some ([x]:List zB)) else some ([x]:List zB))=some (j3 cuts[i]? x):=by
        rcases Nat.lt_or_ge i cuts.length with hlt | hge
        · rw [y1 (by omega),cond_true,zCD,List.getElem?_eq_getElem hlt,Option.bind_some,zEV (hN x hx),Option.bind_some]
          unfold zHq j3
          simp only
          by_cases hb:tF x cuts[i]
          · rw [if_pos hb,if_pos hb];rfl
          · rw [if_neg hb,if_neg hb];rfl
        · rw [y0 (by omega),cond_false,List.getElem?_eq_none hge];rfl
      rw [y1 (by omega),cond_true,x3 hd,Option.bind_some,hp,Option.bind_some,v5 (by omega)]
      have happ:∀ (a b:List zB),ofT f (a++b)=ofT f a++ofT f b∧pX f (a++b)=pX f a++pX f b:=fun a b=>⟨List.filter_append ..,List.filter_append ..⟩
      rw [(happ _ _).1,(happ _ _).2] at hnx
      by_cases hk:x.Thread=f
      · have e1:ofT f (j3 cuts[i]? x)=j3 cuts[i]? x:=List.filter_eq_self.2 fun q hq=>y1 ((pK hq).trans hk)
        have e2:pX f (j3 cuts[i]? x)=[]:=List.filter_eq_nil_iff.2 fun q hq=>by rw [y1 ((pK hq).trans hk)];simp
        rw [e1,e2,List.append_nil] at hnx
        rw [uF hk,cond_true,tM (by omega),Option.bind_some]
        exact hnx
      · have e1:ofT f (j3 cuts[i]? x)=[]:=List.filter_eq_nil_iff.2 fun q hq=>by rw [y0 (fun e=>hk ((pK hq).symm.trans e))];simp
        have e2:pX f (j3 cuts[i]? x)=j3 cuts[i]? x:=List.filter_eq_self.2 fun q hq=>by rw [y0 (fun e=>hk ((pK hq).symm.trans e))];rfl
        rw [e1,e2,List.append_nil] at hnx
        rw [jW hk,cond_false,tM (by omega),Option.bind_some]
        exact hnx
theorem L16_LogDivided_plain:∀ (h:zT) (l:List zB) (cuts:List Int) (front:Int),kA h→nW qS l→nW uK cuts→uK front→∃ F,tE F h l cuts front=some true:=by
  intro h l cuts front _ ho _ _
  have hl:l.length<9223372036854775000:=by have:=ho.2;omega
  have hE:∀ p∈l,p.Events.length≤140737488355328:=fun p hp=>(ho.1 p hp).2.2.2.2
  have hF:=ho.2
  refine ⟨281474976710656,?_⟩
  unfold tE
  rw [zLV (by omega) hl hE,Option.bind_some]
  by_cases hL:zCp h l
  · obtain ⟨k1,k2,k3,k4,k5⟩:=hL
    rw [y1 (show zCp h l from ⟨k1,k2,k3,k4,k5⟩),Bool.not_true,cond_false,Option.bind_some]
    by_cases hc:cuts.length>30
    · rw [y1 (by omega),cond_true,zCs];rfl
    rw [y0 (by omega),cond_false,zGt (by omega) (by omega) (by omega) (by omega) (by omega),Option.bind_some]
    by_cases h0:(zB1 h l).2=0
    · obtain ⟨m1,m2,m3⟩:=zKK h0
      obtain ⟨g1,g2⟩:=zJI cuts front m2
      have hlo:=zIh (l:=l) (cuts:=cuts) (f:=front) (by omega) (by omega) (fun p hp=>by have:=zDQ hp;omega) 281474976710656 0 (by simp;omega)
      have hev:=zGj front (t4 cuts l)
      have hdl:=zEF cuts l
      rw [q8 h0,cond_false,show u5 281474976710656 l cuts front 281474976710656 (0:Int) [] []=_ from hlo,Option.bind_some]
      simp only
      rw [tM (by rw [List.length_append] at hev;omega),Option.bind_some]
      rw [zGt (by omega) (by omega) (by omega) (by omega) (by omega),Option.bind_some,zMg m1 g1,g2,m3]
      simp only
      rw [uF rfl,cond_true,zIJ (by have:=zMc (h:=h) (l:=l) (by omega) (by omega) (by omega) (by omega);rw [m3] at this;exact this),zCs,y1 rfl]
      rfl
    · rw [qR h0,cond_true,zCs];rfl
  · rw [y0 hL,Bool.not_false,cond_true,Option.bind_some,cond_true,zCs];rfl
end Go.Ab
