/- LogCounts, plain. No conditions. -/
import Derived.Test.YtbifmbdcejggkaaC16h
namespace Go.Ab
open Go
set_option linter.unusedVariables false

/-- Numbers that follow each other. -/
def pB (a:Int) (n:Nat):List Int:=(List.range n).map fun i=>a+(i:Nat)
theorem zG6 (a:Int) (n:Nat):pB a (n+1)=pB a n++[a+n]:=by
  unfold pB
  rw [List.range_succ,List.map_append];rfl
theorem zDR (a j:Int) (n:Nat):(pB a n).count j=if a≤j∧j<a+n then 1 else 0:=by
  induction n with
  | zero=>rw [if_neg (by omega)];rfl
  | succ n ih =>
    rw [zG6,List.count_append,ih,List.count_singleton]
    have hn:((n+1:Nat):Int)=(n:Int)+1:=by omega
    rw [hn]
    by_cases h1:a≤j∧j<a+n
    · rw [if_pos h1,show (a+(n:Int)==j)=false from t9 (by omega),if_pos (show a≤j∧j<a+((n:Int)+1) by omega)];rfl
    · rw [if_neg h1]
      by_cases h2:a+(n:Int)=j
      · rw [show (a+(n:Int)==j)=true from v6 h2,if_pos (show a≤j∧j<a+((n:Int)+1) by omega)];rfl
      · rw [show (a+(n:Int)==j)=false from t9 h2,if_neg (show ¬ (a≤j∧j<a+((n:Int)+1)) by omega)];rfl
def qE (k:Int) (g:List yC):List Int:=(g.filter fun i=>decide (i.Thread=k)).map (·.Serial)
def qG (k:Int) (g:List yE):List Int:=g.flatMap fun x=>if x.Thread=k then pB x.Serial x.Count.toNat else []
theorem zHZ (k:Int) (a b:List yC):qE k (a++b)=qE k a++qE k b:=by simp [qE]
theorem zBQ (k:Int) (a b:List yE):qG k (a++b)=qG k a++qG k b:=by simp [qG]
theorem zJs (k:Int) (p:zB):qE k (zBg p)=if p.Thread=k then pB p.Serial p.Events.length else []:=by
  unfold qE zBg pB
  by_cases h:p.Thread=k
  · rw [if_pos h,List.filter_eq_self.2 fun q hq=>by
      obtain ⟨i,_,rfl⟩:=List.mem_map.1 hq
      exact y5 h]
    rw [List.map_map]
    rfl
  · rw [if_neg h,List.filter_eq_nil_iff.2 fun q hq=>by
      obtain ⟨i,_,rfl⟩:=List.mem_map.1 hq
      rw [yU h];simp]
    rfl
theorem zLn (k:Int) {m:List zB} (h:vM m) (j:Int):(qE k (tS m)).count j+(qG k (tG m)).count j=if 0≤j∧j<(xF m k).1 then 1 else 0:=by
  induction m using qT with
  | h0=>rw [if_neg (by simp [xF])];rfl
  | h1 m p ih =>
    obtain ⟨g1,g2,g3⟩:=tE.1 h
    have ih:=ih g1
    have hz:=vK g2
    rw [zAa] at g3
    have hr:=zDk g1.valids p.Thread
    rw [show tS (m++[p])=tS m++zBg p by simp [tS],zHZ,zEG,zBQ,List.count_append,List.count_append,zJs,u6]
    have hg:qG k (if p.Lost>0 then [zHz p] else [])=if p.Thread=k then pB (p.Serial - p.Lost) p.Lost.toNat else []:=by
      by_cases hL:p.Lost>0
      · rw [if_pos hL];simp [qG,zHz]
      · rw [if_neg hL,show p.Lost.toNat=0 by omega];simp [qG,pB]
    rw [hg]
    unfold pI
    by_cases hk:p.Thread=k
    · subst hk
      simp only [if_true]
      rw [zDR,zDR]
      revert ih
      generalize (xF m p.Thread).1=E at *
      intro ih
      have hto:((p.Lost.toNat:Nat):Int)=p.Lost:=by omega
      rw [hto]
      by_cases c1:0≤j∧j<E
      · rw [if_pos c1] at ih
        rw [if_neg (by omega),if_neg (by omega),if_pos (by omega)];omega
      · rw [if_neg c1] at ih
        by_cases c2:p.Serial≤j∧j<p.Serial+p.Events.length
        · rw [if_pos c2,if_neg (by omega),if_pos (by omega)];omega
        · rw [if_neg c2]
          by_cases c3:p.Serial - p.Lost≤j∧j<p.Serial - p.Lost+p.Lost
          · rw [if_pos c3,if_pos (by omega)];omega
          · rw [if_neg c3,if_neg (by omega)];omega
    · simp only [if_neg hk]
      simpa using ih
theorem zI4 {k s:Int} {m:List zB}:s∈qE k (tS m)↔∃ p∈m,zAD ⟨k,s⟩ p:=by
  unfold qE tS zBg zAD
  simp only [List.mem_map,List.mem_filter,List.mem_flatMap,List.mem_range,decide_eq_true_eq]
  constructor
  · rintro ⟨x,⟨⟨p,hp,i,hi,rfl⟩,hk⟩,rfl⟩
    exact ⟨p,hp,hk,by simp only;omega,by simp only;omega⟩
  · rintro ⟨p,hp,h1,h2,h3⟩
    exact ⟨⟨p.Thread,s⟩,⟨⟨p,hp,(s - p.Serial).toNat,by omega,by rw [show p.Serial+(((s - p.Serial).toNat:Nat):Int)=s by omega]⟩,h1⟩,rfl⟩
theorem zNL {l:List zB} {id:yC}:(zHY l id).2=decide (∃ p∈l,zAD id p):=by
  unfold zHY
  have key:∀ (m:List zB) (i:Nat),(match xV (zDJ id) i m with | .inl _=>(ev0,false) | .inr q=>q).2=decide (∃ p∈m,zAD id p):=by
    intro m
    induction m with
    | nil=>intro i;rw [yU (by simp)];rfl
    | cons a r ih =>
      intro i
      rw [zDz]
      unfold zDJ
      by_cases h:zAD id a
      · rw [if_pos h,y5 (show ∃ p∈a::r,zAD id p from ⟨a,by simp,h⟩)]
      · rw [if_neg h]
        simp only
        have:=ih (i+1)
        unfold zDJ at this
        rw [this]
        congr 1
        simp [h]
  exact key l 0

/-! The row of counts. -/
def qZ (E:Nat) (S:List Int):List Int:=(List.range E).map fun j=>((S.count ((j:Nat):Int):Nat):Int)
theorem zMC (E:Nat):List.replicate E (0:Int)=qZ E []:=by
  unfold qZ
  refine List.ext_getElem (by simp) fun i h1 h2=>by simp
theorem zIJ {E:Nat} {S:List Int} {s:Int} (h0:0≤s) (h1:s<E):xW (qZ E S) s=some ((S.count s:Nat):Int):=by
  rw [zJW h0]
  unfold qZ
  rw [List.getElem?_map,List.getElem?_range (by omega)]
  simp only [Option.map_some]
  rw [show ((s.toNat:Nat):Int)=s by omega]
theorem zI7 {E:Nat} {S:List Int} {s:Int} (h0:0≤s) (h1:s<E):(qZ E S).set s.toNat (((S.count s:Nat):Int)+1)=qZ E (S++[s]):=by
  unfold qZ
  refine List.ext_getElem (by simp) fun i g1 g2=>?_
  rw [List.getElem_set]
  simp only [List.getElem_map,List.getElem_range,List.count_append,List.count_singleton]
  by_cases h:s.toNat=i
  · rw [if_pos h,show (s==((i:Nat):Int))=true from v6 (by omega)]
    rw [show s=((i:Nat):Int) by omega];simp
  · rw [if_neg h,show (s==((i:Nat):Int))=false from t9 (by omega)];simp
theorem zIv {k:Int} {x:zX×Int} {e:Int×Int} {E:Nat} {g:List yC} (hE:e.1=E) (hx:Small x.1.Head x.1.Parts) (hg:g.length≤100000) (ho:∀ i∈g,i.Thread=k→(zC1 x.1 i).2=true∧0≤i.Serial∧i.Serial<E) (hE2:E≤5000):∀ (n i:Nat),(g.drop i).length<n →
    tW 281474976710656 k x e g n (i:Nat) (qZ E (qE k (g.take i)))=some (.inl (qZ E (qE k g))):=by
  intro n
  induction n with
  | zero=>intro i h;omega
  | succ n ih =>
    intro i hn
    show u7 _ _ _ _ _ _ _ _=_
    unfold u7
    rcases hd:g.drop i with _ | ⟨y,r⟩
    · have:=v5 hd
      rw [yU (by omega),cond_false,List.take_of_length_le this]
    · have hi:=uR hd
      rw [hd] at hn
      simp only [List.length_cons] at hn
      have hnx:=ih (i+1) (by rw [wM hd];omega)
      rw [vT hd,zHZ] at hnx
      rw [y5 (by omega),cond_true,xL hd,Option.bind_some,w6 (by omega)]
      by_cases hk:y.Thread=k
      · obtain ⟨o1,o2,o3⟩:=ho y (qH hd) hk
        have hs:qE k [y]=[y.Serial]:=by simp [qE,hk]
        have hlen:(qE k (g.take i)).length≤100000:=by
          unfold qE
          rw [List.length_map]
          have:=List.length_filter_le (fun i:yC=>decide (i.Thread=k)) (g.take i)
          rw [List.length_take] at this
          omega
        have hc:=List.count_le_length (a:=y.Serial) (l:=qE k (g.take i))
        rw [hs] at hnx
        rw [t8 hk,cond_false,zF5 hx (by omega),Option.bind_some,o1,hE,yU (by omega),yU (by omega)]
        simp only [Bool.not_true,Bool.or_self,cond_false]
        rw [zIJ o2 o3,Option.bind_some,Option.bind_some,w64 (by omega) (by omega),zI7 o2 o3]
        exact hnx
      · have hs:qE k [y]=[]:=by simp [qE,hk]
        rw [hs,List.append_nil] at hnx
        rw [qA hk,cond_true]
        exact hnx
theorem zIL {k:Int} {x:zX×Int} {e:Int×Int} {E:Nat} {g:yE} {S:List Int} (hE:e.1=E) (hE2:E≤5000) (hx:Small x.1.Head x.1.Parts) (hS:S.length≤2000000000) (hk:g.Thread=k) (h0:0≤g.Serial) (hc:0≤g.Count) (h1:g.Serial+g.Count≤E) (ho:∀ s,g.Serial≤s→s<g.Serial+g.Count→(zC1 x.1 ⟨k,s⟩).2=false):∀ (n i:Nat),i≤g.Count.toNat→g.Count.toNat - i<n →
    uJ 281474976710656 k x e g n (i:Nat) (qZ E (S++pB g.Serial i))=some (.inl (qZ E (S++pB g.Serial g.Count.toNat))):=by
  intro n
  induction n with
  | zero=>intro i _ h;omega
  | succ n ih =>
    intro i hi hn
    show vW _ _ _ _ _ _ _ _=_
    unfold vW
    rcases Nat.lt_or_ge i g.Count.toNat with hlt | hge
    · have hnx:=ih (i+1) (by omega) (by omega)
      rw [zG6,← List.append_assoc] at hnx
      have hcl:=List.count_le_length (a:=g.Serial+(i:Int)) (l:=S++pB g.Serial i)
      have hrl:(pB g.Serial i).length=i:=by simp [pB]
      rw [List.length_append,hrl] at hcl
      rw [y5 (by omega),v6 hk,Bool.and_self,cond_true,w64 (show -9223372036854775808≤g.Serial+(i:Int) by omega) (by omega),zF5 hx (by simp only;omega),Option.bind_some,ho _ (by omega) (by omega),hE,yU (by omega),yU (by omega)]
      simp only [Bool.or_self,cond_false]
      rw [zIJ (by omega) (by omega),Option.bind_some,Option.bind_some,w6 (by omega),w64 (show -9223372036854775808≤((List.count (g.Serial+(i:Int)) (S++pB g.Serial i):Nat):Int)+1 by omega) (by omega),zI7 (by omega) (by omega)]
      exact hnx
    · have:i=g.Count.toNat:=by omega
      subst this
      rw [yU (by omega),Bool.false_and,cond_false]
theorem zIr {k:Int} {x:zX×Int} {e:Int×Int} {E:Nat} {G:List yE} {S:List Int} (hE:e.1=E) (hE2:E≤5000) (hx:Small x.1.Head x.1.Parts) (hS:S.length≤100000) (hG:G.length≤100000)
    (ho:∀ g∈G,g.Thread=k→0≤g.Serial∧0≤g.Count∧g.Serial+g.Count≤E∧∀ s,g.Serial≤s→s<g.Serial+g.Count→(zC1 x.1 ⟨k,s⟩).2=false):∀ (n i:Nat),(qG k (G.take i)).length≤i * 5000→(G.drop i).length<n →
    tV 281474976710656 k x e G n (i:Nat) (qZ E (S++qG k (G.take i)))=some (.inl (qZ E (S++qG k G))):=by
  intro n
  induction n with
  | zero=>intro i _ h;omega
  | succ n ih =>
    intro i hlen hn
    show u9 _ _ _ _ _ _ _ _=_
    unfold u9
    rcases hd:G.drop i with _ | ⟨y,r⟩
    · have:=v5 hd
      rw [yU (by omega),cond_false,List.take_of_length_le this]
    · have hi:=uR hd
      rw [hd] at hn
      simp only [List.length_cons] at hn
      rw [y5 (by omega),cond_true,xL hd,Option.bind_some,w6 (by omega)]
      by_cases hk:y.Thread=k
      · obtain ⟨o1,o2,o3,o4⟩:=ho y (qH hd) hk
        have hs:qG k [y]=pB y.Serial y.Count.toNat:=by simp [qG,hk]
        have hnx:=ih (i+1) (by rw [vT hd,zBQ,hs,List.length_append];simp only [pB,List.length_map,List.length_range];omega) (by rw [wM hd];omega)
        rw [vT hd,zBQ,hs,← List.append_assoc] at hnx
        have hin:=zIL (S:=S++qG k (G.take i)) hE hE2 hx (by rw [List.length_append];omega) hk o1 o2 o3 o4 281474976710656 0 (by omega) (by omega)
        rw [show pB y.Serial 0=[] from rfl,List.append_nil] at hin
        rw [show uJ 281474976710656 k x e y 281474976710656 (0:Int) (qZ E (S++qG k (G.take i)))=_ from hin,Option.bind_some]
        exact hnx
      · have hs:qG k [y]=[]:=by simp [qG,hk]
        have hnx:=ih (i+1) (by rw [vT hd,zBQ,hs,List.append_nil];exact Nat.le_trans hlen (Nat.mul_le_mul_right _ (Nat.le_succ i))) (by rw [wM hd];omega)
        rw [vT hd,zBQ,hs,List.append_nil] at hnx
        have hin:∀ n,uJ 281474976710656 k x e y (n+1) (0:Int) (qZ E (S++qG k (G.take i)))=some (.inl (qZ E (S++qG k (G.take i)))):=by
          intro n
          show vW _ _ _ _ _ _ _ _=_
          unfold vW
          rw [t9 hk,Bool.and_false,cond_false]
        rw [show uJ 281474976710656 k x e y 281474976710656 (0:Int) (qZ E (S++qG k (G.take i)))=_ from hin 281474976710655,Option.bind_some]
        exact hnx
theorem zIU {q:List Int} (hq:q.length≤100000) (h:∀ x∈q,x=1):∀ (n i:Nat),(q.drop i).length<n→tX 281474976710656 q n (i:Nat)=some (.inl ()):=by
  intro n
  induction n with
  | zero=>intro i h;omega
  | succ n ih =>
    intro i hn
    show tA _ _ _ _=_
    unfold tA
    rcases hd:q.drop i with _ | ⟨y,r⟩
    · have:=v5 hd
      rw [yU (by omega),cond_false]
    · have hi:=uR hd
      rw [hd] at hn
      simp only [List.length_cons] at hn
      rw [y5 (by omega),cond_true,xL hd,Option.bind_some,t8 (h y (qH hd)),cond_false,w6 (by omega)]
      exact ih (i+1) (by rw [wM hd];omega)
theorem L16_LogCounts_plain:∀ (h:zR) (l:List zB) (k:Int),kZ h→zBS jK l→tJ k→∃ F,qF F h l k=some true:=by
  intro h l k _ ho _
  have hl:l.length<9223372036854775000:=by have:=ho.2;omega
  have hE:∀ p∈l,p.Events.length≤140737488355328:=fun p hp=>(ho.1 p hp).2.2.2.2
  have hF:=ho.2
  refine ⟨281474976710656,?_⟩
  unfold qF
  rw [zMw (by omega) hl hE,Option.bind_some]
  by_cases hL:zCD h l
  · obtain ⟨k1,k2,k3,k4,k5⟩:=hL
    rw [y5 (show zCD h l from ⟨k1,k2,k3,k4,k5⟩),Bool.not_true,cond_false,zHm (by omega) (by omega),Option.bind_some,Option.bind_some]
    by_cases hc:evN l>300
    · rw [y5 (by omega),cond_true,zB7];rfl
    rw [yU (by omega),cond_false,zGN (by omega) (by omega) (by omega) (by omega) (by omega),Option.bind_some]
    by_cases h0:(pJ h l).2=0
    · obtain ⟨m1,m2,m3⟩:=zGX h0
      have hnd:=zFo m1
      have hap:=zEC m1 m2.passed.valids (l:=l) (by omega)
      have hga:=zMR hnd m2
      have hea:=zJR hnd m2.known
      have hse:=zMy hnd m2 k
      have hlc:zAQ ⟨h,y0 h l⟩=0:=zNx m1 hga (zNf hnd m2)
      have hsm:Small h (y0 h l):=⟨by omega,by omega,by omega,by omega,by omega⟩
      rw [t8 h0,cond_false,m3,zKK (by omega) (by omega) m2.passed.valids,Option.bind_some]
      have hr:=zDk m2.passed.valids k
      rw [yU (show ¬ (xF l k).1<0 by omega),Bool.false_or]
      by_cases h5:(xF l k).1>5000
      · rw [y5 h5,cond_true,zB7];rfl
      rw [yU h5,cond_false,jN (by omega),Option.bind_some]
      simp only
      rw [zKz (l:=⟨h,y0 h l⟩) hsm,Option.bind_some,show zMb ⟨h,y0 h l⟩=tS (y0 h l) from if_pos hlc]
      have hget:∀ id:yC,(zC1 ⟨h,y0 h l⟩ id).2=decide (∃ p∈y0 h l,zAD id p):=fun id=>by
        rw [show zC1 ⟨h,y0 h l⟩ id=zHY (y0 h l) id from if_pos hlc];exact zNL
      have hcnt:=fun j=>zLn k hga.passed j
      rw [hse] at hcnt
      have hEE:(xF l k).1=(((xF l k).1.toNat:Nat):Int):=by omega
      have hin1:∀ i∈tS (y0 h l),i.Thread=k→(zC1 ⟨h,y0 h l⟩ i).2=true∧0≤i.Serial∧i.Serial<(((xF l k).1.toNat:Nat):Int):=by
        intro i hi hk
        have hm:i.Serial∈qE k (tS (y0 h l)):=List.mem_map.2 ⟨i,List.mem_filter.2 ⟨hi,y5 hk⟩,rfl⟩
        have hp:=List.count_pos_iff.2 hm
        have hc:=hcnt i.Serial
        refine ⟨?_,?_⟩
        · rw [hget,← show (⟨k,i.Serial⟩:yC)=i from by rw [← hk]]
          exact y5 (zI4.1 hm)
        · by_cases hb:0≤i.Serial∧i.Serial<(xF l k).1
          · omega
          · rw [if_neg hb] at hc;omega
      have l1:=zIv (k:=k) (x:=(⟨h,y0 h l⟩,0)) (e:=xF l k) (E:=(xF l k).1.toNat) (g:=tS (y0 h l)) hEE hsm (by rw [zC6];omega) hin1 (by omega) 281474976710656 0 (by rw [List.drop_zero,zC6];omega)
      rw [zMC,show tW 281474976710656 k (⟨h,y0 h l⟩,0) (xF l k) (tS (y0 h l)) 281474976710656 (0:Int) (qZ (xF l k).1.toNat [])=_ from l1,Option.bind_some]
      simp only
      rw [zJi (l:=⟨h,y0 h l⟩) hsm,Option.bind_some,show zKa ⟨h,y0 h l⟩=tG (y0 h l) from if_pos hlc]
      have hgl:(tG (y0 h l)).length≤100000:=by
        unfold tG
        rw [List.length_map]
        have:=List.length_filter_le (fun p:zB=>decide (p.Lost>0)) (y0 h l)
        omega
      have hin2:∀ g∈tG (y0 h l),g.Thread=k→0≤g.Serial∧0≤g.Count∧g.Serial+g.Count≤(((xF l k).1.toNat:Nat):Int)∧∀ s,g.Serial≤s→s<g.Serial+g.Count→(zC1 ⟨h,y0 h l⟩ ⟨k,s⟩).2=false:=by
        intro g hg hk
        obtain ⟨p,hp,hpg⟩:=List.mem_map.1 hg
        obtain ⟨hp1,hp2⟩:=List.mem_filter.1 hp
        have hz:=vK (hga.passed.valids p hp1)
        have hp2:p.Lost>0:=by simpa using hp2
        have e1:g.Serial=p.Serial - p.Lost:=by rw [← hpg];rfl
        have e2:g.Count=p.Lost:=by rw [← hpg];rfl
        have hall:∀ s,g.Serial≤s→s<g.Serial+g.Count→s<(xF l k).1∧s∉qE k (tS (y0 h l)):=by
          intro s s1 s2
          have hm:s∈qG k (tG (y0 h l)):=List.mem_flatMap.2 ⟨g,hg,by rw [if_pos hk];exact List.count_pos_iff.1 (by rw [zDR,if_pos (by omega)];omega)⟩
          have hp:=List.count_pos_iff.2 hm
          have hc:=hcnt s
          refine ⟨?_,fun hm2=>?_⟩
          · by_cases hb:0≤s∧s<(xF l k).1
            · exact hb.2
            · rw [if_neg hb] at hc;omega
          · have:=List.count_pos_iff.2 hm2
            split at hc<;>omega
        refine ⟨by omega,by omega,?_,fun s s1 s2=>?_⟩
        · have:=(hall (g.Serial+g.Count - 1) (by omega) (by omega)).1;omega
        · rw [hget]
          exact yU fun hx=>(hall s s1 s2).2 (zI4.2 hx)
      have l2:=zIr (k:=k) (x:=(⟨h,y0 h l⟩,0)) (e:=xF l k) (E:=(xF l k).1.toNat) (G:=tG (y0 h l)) (S:=qE k (tS (y0 h l))) hEE (by omega) hsm (by
        unfold qE
        rw [List.length_map]
        have:=List.length_filter_le (fun i:yC=>decide (i.Thread=k)) (tS (y0 h l))
        rw [zC6] at this
        omega) hgl hin2 281474976710656 0 (by simp [qG]) (by rw [List.drop_zero];omega)
      rw [show qG k (List.take 0 (tG (y0 h l)))=[] from rfl,List.append_nil] at l2
      rw [show tV 281474976710656 k (⟨h,y0 h l⟩,0) (xF l k) (tG (y0 h l)) 281474976710656 (0:Int) (qZ (xF l k).1.toNat (qE k (tS (y0 h l))))=_ from l2,Option.bind_some]
      simp only
      have l4:=zIU (q:=qZ (xF l k).1.toNat (qE k (tS (y0 h l))++qG k (tG (y0 h l)))) (by simp only [qZ,List.length_map,List.length_range];omega) (by
        intro x hx
        obtain ⟨j,hj,rfl⟩:=List.mem_map.1 hx
        rw [List.mem_range] at hj
        rw [List.count_append,hcnt,if_pos (by omega)];rfl) 281474976710656 0 (by simp only [qZ,List.drop_zero,List.length_map,List.length_range];omega)
      rw [show tX 281474976710656 (qZ (xF l k).1.toNat (qE k (tS (y0 h l))++qG k (tG (y0 h l)))) 281474976710656 (0:Int)=_ from l4,Option.bind_some]
      simp only
      rw [zB7];rfl
    · rw [qA h0,cond_true,zB7];rfl
  · rw [yU hL,Bool.not_false,cond_true,Option.bind_some,cond_true,zB7];rfl
end Go.Ab
