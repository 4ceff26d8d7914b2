/- Maps of the call's own: made, looked up, written, counted. -/
import Derived.Test.YtoeengmnmhhpgaaGreatA17
import Derived.WideMake
namespace Go.Ab
open Go

theorem UG {k:KSh} {a:AV} (h:kc k a=true):a.pure=true∧a.one=true∧a.cells=[a]:=by
  cases a<;>cases k<;>simp_all [kc,AV.pure,AV.one,AV.cells]

/-- The bytes of a text, back. -/
theorem RJ {l m:List Int} (hl:∀ x∈l,0≤x∧x<256) (hm:∀ x∈m,0≤x∧x<256) (h:wO l=wO m):l=m:=by
  have h1:l.map (fun x=>UInt8.ofNat x.toNat)=m.map (fun x=>UInt8.ofNat x.toNat):=by
    unfold wO at h
    have:=congrArg (fun b:ByteArray=>b.data.toList) h
    simpa using this
  clear h
  induction l generalizing m with
  | nil=>cases m with
    | nil=>rfl
    | cons b s=>simp at h1
  | cons a r ih =>
    cases m with
    | nil=>simp at h1
    | cons b s =>
      simp only [List.map_cons,List.cons.injEq] at h1
      have ha:=hl a (List.mem_cons_self ..)
      have hb:=hm b (List.mem_cons_self ..)
      have e1:a=b:=by
        have:=congrArg UInt8.toNat h1.1
        simp only [UInt8.toNat_ofNat'] at this
        omega
      rw [e1,ih (fun x hx=>hl x (List.mem_cons_of_mem _ hx)) (fun x hx=>hm x (List.mem_cons_of_mem _ hx)) h1.2]

theorem LX {w w':World} {I I':Nat→Prop} {T T':Tbl} {v v':Value} {a a':AV} {k:KSh} (h:Rep w I T v a) (h':Rep w' I' T' v' a') (hk:kc k a=true) (hk':kc k a'=true):v=v'↔a=a':=by
  cases k<;>cases a<;>simp [kc] at hk<;>cases a'<;>simp [kc] at hk'
  · subst hk;subst hk'
    cases h;cases h';simp
  · cases h;cases h';simp
  · rename_i l m
    cases h with
    | str h1 h2 =>
      cases h' with
      | str g1 g2 =>
        simp only [Value.string.injEq,AV.str.injEq]
        exact ⟨RJ h1 g1,fun e=>by rw [e]⟩

theorem A6 {ks:List KSh} {cs:List AV} (h:kcs ks cs=true):ks.length=cs.length∧∀ (j:Nat) (k:KSh) (c:AV),ks[j]?=some k→cs[j]?=some c→kc k c=true:=by
  induction ks generalizing cs with
  | nil=>cases cs with
    | nil=>exact ⟨rfl,fun j k c hj=>by simp at hj⟩
    | cons a s=>simp [kcs] at h
  | cons k r ih =>
    cases cs with
    | nil=>simp [kcs] at h
    | cons a s =>
      simp only [kcs,Bool.and_eq_true] at h
      obtain ⟨e1,e2⟩:=ih h.2
      refine ⟨by simp [e1],fun j k' c hj hc=>?_⟩
      cases j with
      | zero=>simp at hj hc;subst hj;subst hc;exact h.1
      | succ j=>exact e2 j k' c (by simpa using hj) (by simpa using hc)

theorem QK {ag:Bool} {ks:List KSh} {a:AV} (h:vQ ag ks a=true):a.pure=true:=by
  have hl:∀ (ks:List KSh) (cs:List AV),kcs ks cs=true→AV.pures cs=true:=by
    intro ks
    induction ks with
    | nil=>intro cs h;cases cs<;>simp_all [kcs,AV.pures]
    | cons k r ih =>
      intro cs h
      cases cs with
      | nil=>rfl
      | cons c s =>
        simp only [kcs,Bool.and_eq_true] at h
        simp [AV.pures,(UG h.1).1,ih s h.2]
  cases a with
  | agg cs=>simp only [vQ,Bool.and_eq_true] at h;exact hl ks cs h.2
  | _ =>
    simp only [vQ,Bool.and_eq_true] at h
    have:=hl _ _ h.2
    simpa [AV.pures] using this

/-- A key says which value it is. -/
theorem b6 {w w':World} {I I':Nat→Prop} {T T':Tbl} {v v':Value} {a a':AV} {ag:Bool} {ks:List KSh} (h:Rep w I T v a) (h':Rep w' I' T' v' a') (hk:vQ ag ks a=true) (hk':vQ ag ks a'=true):v=v'↔a=a':=by
  have one:∀ {x:AV},(∀ cs,x≠.agg cs)→vQ ag ks x=true→ag=false∧∃ k,ks=[k]∧kc k x=true:=by
    intro x hx hm
    have:(!ag&&kcs ks [x])=true:=by
      cases x<;>first | exact hm | exact absurd rfl (hx _)
    simp only [Bool.and_eq_true,Bool.not_eq_true'] at this
    refine ⟨this.1,?_⟩
    have h2:=this.2
    cases ks with
    | nil=>simp [kcs] at h2
    | cons k r=>cases r with
      | nil=>exact ⟨k,rfl,by simpa [kcs] using h2⟩
      | cons k' r'=>simp [kcs] at h2
  by_cases ha:∃ cs,a=.agg cs
  · obtain ⟨cs,rfl⟩:=ha
    simp only [vQ,Bool.and_eq_true] at hk
    by_cases ha':∃ cs,a'=.agg cs
    · obtain ⟨cs',rfl⟩:=ha'
      simp only [vQ,Bool.and_eq_true] at hk'
      obtain ⟨l1,c1⟩:=A6 hk.2
      obtain ⟨l2,c2⟩:=A6 hk'.2
      cases h with
      | agg s1 o1 r1 =>
        cases h' with
        | agg s2 o2 r2 =>
          rename_i vs vs'
          have pt:∀ j (hj:j<ks.length),vs.getD j undef=vs'.getD j undef↔cs[j]'(by omega)=cs'[j]'(by omega):=by
            intro j hj
            exact LX (r1 j _ (List.getElem?_eq_getElem (by omega))) (r2 j _ (List.getElem?_eq_getElem (by omega)))
              (c1 j _ _ (List.getElem?_eq_getElem hj) (List.getElem?_eq_getElem (by omega))) (c2 j _ _ (List.getElem?_eq_getElem hj) (List.getElem?_eq_getElem (by omega)))
          simp only [Value.agg.injEq,AV.agg.injEq]
          constructor
          · intro e
            refine List.ext_getElem (by omega) fun j hj hj'=>?_
            exact (pt j (by omega)).1 (by rw [e])
          · intro e
            refine Array.ext (by omega) fun j hj hj'=>?_
            have:=(pt j (by omega)).2 (by simp [e])
            simpa [Array.getD,hj,hj'] using this
    · have:=one (fun cs hc=>ha' ⟨cs,hc⟩) hk'
      rw [this.1] at hk;simp at hk
  · obtain ⟨g1,k,e1,e2⟩:=one (fun cs hc=>ha ⟨cs,hc⟩) hk
    by_cases ha':∃ cs,a'=.agg cs
    · obtain ⟨cs',rfl⟩:=ha'
      simp only [vQ,Bool.and_eq_true] at hk'
      rw [g1] at hk';simp at hk'
    · obtain ⟨_,k',e1',e2'⟩:=one (fun cs hc=>ha' ⟨cs,hc⟩) hk'
      rw [e1] at e1'
      injection e1' with e1' _
      exact LX h h' e2 (e1' ▸ e2')

/-- What is asked of a key's type. -/
structure v9 (P:Program) (k:TypeId) (ag:Bool) (ks:List KSh):Prop where
  keyed:Maps.Keyed P k
  reads:∀ (w:World) (I:Nat→Prop) (T:Tbl) (v:Value) (a:AV),Rep w I T v a→vQ ag ks a=true→∃ l,keyOf P k v=some l

/-- What a tL-up gives. -/
def pJ (l:List (AV×AV)) (key z av:AV) (g:Bool):Prop:=(∃ (i:Nat) (x:AV×AV),l[i]?=some x∧x.1=key∧av=x.2∧g=true)∨((∀ x∈l,x.1≠key)∧av=z∧g=false)
/-- What a store leaves. -/
def n3 (l:List (AV×AV)) (key val:AV) (l':List (AV×AV)):Prop:=(∃ (i:Nat) (x:AV×AV),l[i]?=some x∧x.1=key∧l'=l.set i (key,val))∨((∀ x∈l,x.1≠key)∧l'=l++[(key,val)])

section
variable {P:Program} {w:World} {I:Nat→Prop} {T:Tbl} {ag:Bool} {ks:List KSh} {l:List (AV×AV)} {E:Array MapEntry} {k:TypeId} {key:AV} {v:Value}

theorem WI (K:v9 P k ag ks) (hE:E.size=l.length) (hk:∀ x∈l,vQ ag ks x.1=true) (hr:∀ (i:Nat) (x:AV×AV),l[i]?=some x→∃ e:MapEntry,E[i]?=some e∧Rep w I Tbl.empty e.key x.1∧Rep w I Tbl.empty e.val x.2) :
    ∀ e∈E.toList,∃ t,keyOf P k e.key=some t:=by
  intro e he
  obtain ⟨i,hi⟩:=List.mem_iff_getElem?.1 he
  have hil:i<l.length:=by
    have:=(List.getElem?_eq_some_iff.1 hi).1
    simp at this;omega
  obtain ⟨e',h1,h2,_⟩:=hr i _ (List.getElem?_eq_getElem hil)
  rw [Array.getElem?_toList] at hi
  rw [hi] at h1;injection h1 with h1;subst h1
  exact K.reads _ _ _ _ _ h2 (hk _ (List.getElem_mem hil))

/-- Where a key lies. -/
theorem AB (K:v9 P k ag ks) (hE:E.size=l.length) (hk:∀ x∈l,vQ ag ks x.1=true) (hr:∀ (i:Nat) (x:AV×AV),l[i]?=some x→∃ e:MapEntry,E[i]?=some e∧Rep w I Tbl.empty e.key x.1∧Rep w I Tbl.empty e.val x.2)
    (hv:Rep w I T v key) (hm:vQ ag ks key=true) :
    ((Instr.findKey k v E.toList).run P w=.ok none w∧(∀ e∈E.toList,e.key≠v)∧∀ x∈l,x.1≠key) ∨
    ∃ j e x,(Instr.findKey k v E.toList).run P w=.ok (some (j,e.val)) w∧E[j]?=some e∧e.key=v∧l[j]?=some x∧x.1=key∧Rep w I Tbl.empty e.val x.2:=by
  obtain ⟨t,ht⟩:=K.reads _ _ _ _ _ hv hm
  rcases K.keyed.find w ht E.toList (WI K hE hk hr) with ⟨h1,h2⟩ | ⟨j,e,h1,h2,h3⟩
  · refine .inl ⟨h1,h2,fun x hx hxk=>?_⟩
    obtain ⟨i,hi⟩:=List.mem_iff_getElem?.1 hx
    obtain ⟨e,e1,e2,_⟩:=hr i x hi
    have:=(b6 e2 hv (hk x hx) hm).2 hxk
    exact h2 e (by rw [← Array.getElem?_toList] at e1;exact List.mem_of_getElem? e1) this
  · rw [Array.getElem?_toList] at h2
    have hjl:j<l.length:=by
      rcases Nat.lt_or_ge j E.size with h' | h'
      · omega
      · rw [Array.getElem?_eq_none h'] at h2;cases h2
    obtain ⟨e',e1,e2,e3⟩:=hr j _ (List.getElem?_eq_getElem hjl)
    rw [h2] at e1;injection e1 with e1;subst e1
    exact .inr ⟨j,e,l[j],h1,h2,h3,List.getElem?_eq_getElem hjl,(b6 e2 hv (hk _ (List.getElem_mem hjl)) hm).1 h3,e3⟩

/-- No two entries have one key. -/
theorem CB {clock:Nat} (hS:MapKept.Stamped E clock) {i j:Nat} {e e':MapEntry} (hi:E[i]?=some e) (hj:E[j]?=some e') (h:e.key=e'.key):i=j:=by
  have hp:=((MapKept.stamped_iff E clock).1 hS).2.2
  rw [List.pairwise_iff_getElem] at hp
  rw [← Array.getElem?_toList] at hi hj
  obtain ⟨hi1,hi2⟩:=List.getElem?_eq_some_iff.1 hi
  obtain ⟨hj1,hj2⟩:=List.getElem?_eq_some_iff.1 hj
  rcases Nat.lt_trichotomy i j with h' | h' | h'
  · exact absurd (by rw [hi2,hj2];exact h) (hp i j hi1 hj1 h')
  · exact h'
  · exact absurd (by rw [hi2,hj2];exact h.symm) (hp j i hj1 hi1 h')

end

def aF (P:Program) (t:TypeId):Option (TypeId×TypeId):=match P.underlying t with | some (.map k e)=>some (k,e) | _=>none
theorem lW {P:Program} {t k e:TypeId} (h:aF P t=some (k,e)):P.underlying t=some (.map k e):=by
  unfold aF at h;split at h<;>simp_all

/-- The value of a key that is not there. -/
def oE (P:Program) (e:TypeId):Option AV :=
  match pF P e with
  | some z=>bif bC z then some (cL z) else none
  | none=>none
theorem G3 {P:Program} {e:TypeId} {z:AV} {w:World} {I:Nat→Prop} {T:Tbl} (h:oE P e=some z):∃ v,(zeroValue e).run P w=.ok v w∧Rep w I T v z:=by
  unfold oE at h
  split at h
  case h_2=>cases h
  rename_i zv hz
  replace h:=y7 h;obtain ⟨hc,h⟩:=h
  injection h with h;subst h
  refine ⟨zv,?_,GV hc⟩
  unfold pF at hz
  split at hz
  · rename_i i hi
    simp [zeroValue,typeInfo,hi,hz]
  · cases hz

/-- 'm[k]'. -/
def GA (P:Program) (t:TypeId) (m key:AV) (ok:Bool) (B:Nat→z9) (h:xC):Option (List Prop×Nat×AV) :=
  match aF P t,m with
  | some (k,e),.mp id =>
    match B id,oE P e with
    | .live (.map ag ks l),some z=>bif vQ ag ks key then some ([v9 P k ag ks,pJ l key z h.av h.g],id,bif ok then .tuple [h.av,.bool h.g] else h.av) else none
    | _,_=>none
  | _,_=>none

theorem W0 {P:Program} {N np:Nat} {o:Oper} {t:TypeId} {x y:Operand} {ok:Bool} {rs:List (Nat×AV)} {hn:xC} {B:Nat→z9} {r:List Prop×Nat×AV}
    (ho:o.op=.lookup t x y ok) (hx:y3 x=true) (hy:y3 y=true)
    (h:GA P t (y1 rs x) (y1 rs y) ok B hn=some r) (hv:∀ p∈r.1,p) (hd:vK N o.dst=true) :
    vR P N np o { rs:=rs,rb:=[(r.2.1,B r.2.1)],dst:=o.dst.map fun d=>(d,r.2.2) }:=by
  intro G st a w hN hnp hE ⟨T,hT⟩
  have hrx:=wY hT hE.1 hx
  have hry:=wY hT hE.1 hy
  unfold GA at h
  split at h
  case h_2=>cases h
  rename_i k e id hmt hX
  have hu:=lW hmt
  rw [hX] at hrx
  split at h
  case h_2=>cases h
  rename_i ag ks l z hB hz
  replace h:=y7 h;obtain ⟨hkm,h⟩:=h
  injection h with h;subst h
  simp only at hE hv
  have K:v9 P k ag ks:=hv _ (by simp)
  have hL:pJ l (y1 rs y) z hn.av hn.g:=hv _ (by simp)
  have hb:st.box id=.live (.map ag ks l):=(hE.2 (id,B id) (by simp)).trans hB
  obtain ⟨b,E,clock,hp,hh,h1,h2,hS,h3,h4⟩:=hT.boxes id _ hb
  generalize he:a.eval x=vx at hrx
  cases hrx with
  | mp hTi =>
  rename_i b'
  rw [hTi] at hp;injection hp with hp;injection hp with hp1 hp2;subst hp1
  obtain ⟨t',ht'⟩:=K.reads _ _ _ _ _ hry hkm
  have key:∃ v,Rep w (imm G st T) T v hn.av∧(Instr.lookup t (.map (some b')) (a.eval y) ok).run P w=.ok (if ok then .tuple #[v,.bool hn.g] else v) w:=by
    rcases AB K h1 h3 h4 hry hkm with ⟨f1,f2,f3⟩ | ⟨j,e',x',f1,f2,f3,f4,f5,f6⟩
    · obtain ⟨zv,hzr,hzrep⟩:=G3 (w:=w) (I:=imm G st T) (T:=T) hz
      rcases hL with ⟨i,x',g1,g2,_⟩ | ⟨_,g1,g2⟩
      · exact absurd g2 (f3 x' (List.mem_of_getElem? g1))
      · refine ⟨zv,g1 ▸ hzrep,?_⟩
        rw [g2]
        simp [Instr.lookup,run_underlying hu,MapKept.run_getObj_map hh,K.keyed.check w _ ht',f1,hzr,Result.andThen]
    · rcases hL with ⟨i,x2,g1,g2,g3,g4⟩ | ⟨g0,_⟩
      · obtain ⟨e2,k1,k2,k3⟩:=h4 i x2 g1
        have hkv:=(b6 k2 hry (h3 x2 (List.mem_of_getElem? g1)) hkm).2 g2
        have:=CB hS f2 k1 (f3.trans hkv.symm)
        subst this
        rw [f2] at k1;injection k1 with k1;subst k1
        refine ⟨e'.val,g3 ▸ (k3.mono (Nat.le_refl _) (fun _ _ _=>rfl) (fun _ h _=>h) (fun _ _ h=>by cases h)),?_⟩
        rw [g4]
        simp [Instr.lookup,run_underlying hu,MapKept.run_getObj_map hh,K.keyed.check w _ ht',f1,Result.andThen]
      · exact absurd f5 (g0 x' (List.mem_of_getElem? f4))
  obtain ⟨v,hrep,hrun⟩:=key
  refine vV (v:=if ok then .tuple #[v,.bool hn.g] else v) (w':=w) ?_ ?_
  · simp only [execOp,ho,he,Sem.run_bind,hrun,Result.andThen_ok]
    rfl
  · refine hT.quiet (tA w) rfl (by simp [Option.map_map,Function.comp_def]) ?_
    intro d av' he'
    obtain ⟨hlt,rfl⟩:=vL hd he'
    refine ⟨by omega,?_⟩
    cases ok
    · exact hrep
    · refine .tuple (by simp) fun j c hj=>?_
      match j with
      | 0=>simp at hj;subst hj;exact hrep
      | 1=>simp at hj;subst hj;exact .bool
      | j+2=>simp at hj

/-- 'm[k]' of a map that nobody writes. -/
def AH (P:Program) (t:TypeId) (m key:AV) (ok:Bool) (h:xC):Option (List Prop×AV) :=
  match aF P t,m with
  | some (k,e),.fm _ l =>
    match oE P e with
    | some z=>bif vQ h.mag h.mks key then some ([v9 P k h.mag h.mks,pJ l key z h.av h.g,∀ x∈l,vQ h.mag h.mks x.1=true],bif ok then .tuple [h.av,.bool h.g] else h.av) else none
    | none=>none
  | _,_=>none

theorem VN {P:Program} {N np:Nat} {o:Oper} {t:TypeId} {x y:Operand} {ok:Bool} {rs:List (Nat×AV)} {hn:xC} {r:List Prop×AV}
    (ho:o.op=.lookup t x y ok) (hx:y3 x=true) (hy:y3 y=true)
    (h:AH P t (y1 rs x) (y1 rs y) ok hn=some r) (hv:∀ p∈r.1,p) (hd:vK N o.dst=true) :
    vR P N np o { rs:=rs,dst:=o.dst.map fun d=>(d,r.2) }:=by
  intro G st a w hN hnp hE ⟨T,hT⟩
  have hrx:=wY hT hE.1 hx
  have hry:=wY hT hE.1 hy
  unfold AH at h
  split at h
  case h_2=>cases h
  rename_i k e n l hmt hX
  have hu:=lW hmt
  rw [hX] at hrx
  split at h
  case h_2=>cases h
  rename_i z hz
  replace h:=y7 h;obtain ⟨hkm,h⟩:=h
  injection h with h;subst h
  simp only at hE hv
  have K:v9 P k hn.mag hn.mks:=hv _ (by simp)
  have hL:pJ l (y1 rs y) z hn.av hn.g:=hv _ (by simp)
  have h3:∀ x∈l,vQ hn.mag hn.mks x.1=true:=hv _ (by simp)
  obtain ⟨t',ht'⟩:=K.reads _ _ _ _ _ hry hkm
  obtain ⟨zv,hzr,hzrep⟩:=G3 (w:=w) (I:=imm G st T) (T:=T) hz
  generalize he:a.eval x=vx at hrx
  have key:∃ v,Rep w (imm G st T) T v hn.av∧(Instr.lookup t vx (a.eval y) ok).run P w=.ok (if ok then .tuple #[v,.bool hn.g] else v) w:=by
    cases hrx with
    | fm0 =>
      rcases hL with ⟨i,x',g1,g2,_⟩ | ⟨_,g1,g2⟩
      · simp at g1
      · refine ⟨zv,g1 ▸ hzrep,?_⟩
        rw [g2]
        rcases AB (E:=#[]) (l:=[]) K rfl h3 (fun i x hx=>by simp at hx) hry hkm with ⟨f1,_,_⟩ | ⟨j,_,_,_,f2,_⟩
        · simp [Instr.lookup,run_underlying hu,K.keyed.check w _ ht',f1,hzr,Result.andThen]
        · simp at f2
    | fm gk gv h1 h2 hS hI hlt hh hent hk hvv =>
      rename_i b E clock
      have h4:∀ (i:Nat) (x:AV×AV),l[i]?=some x→∃ e:MapEntry,E[i]?=some e∧Rep w (imm G st T) Tbl.empty e.key x.1∧Rep w (imm G st T) Tbl.empty e.val x.2:=by
        intro i x hx
        obtain ⟨s,hs⟩:=hent i x hx
        exact ⟨_,hs,hk i x hx,hvv i x hx⟩
      rcases AB K h1 h3 h4 hry hkm with ⟨f1,f2,f3⟩ | ⟨j,e',x',f1,f2,f3,f4,f5,f6⟩
      · rcases hL with ⟨i,x',g1,g2,_⟩ | ⟨_,g1,g2⟩
        · exact absurd g2 (f3 x' (List.mem_of_getElem? g1))
        · refine ⟨zv,g1 ▸ hzrep,?_⟩
          rw [g2]
          simp [Instr.lookup,run_underlying hu,MapKept.run_getObj_map hh,K.keyed.check w _ ht',f1,hzr,Result.andThen]
      · rcases hL with ⟨i,x2,g1,g2,g3,g4⟩ | ⟨g0,_⟩
        · obtain ⟨e2,k1,k2,k3⟩:=h4 i x2 g1
          have hkv:=(b6 k2 hry (h3 x2 (List.mem_of_getElem? g1)) hkm).2 g2
          have:=CB hS f2 k1 (f3.trans hkv.symm)
          subst this
          rw [f2] at k1;injection k1 with k1;subst k1
          refine ⟨e'.val,g3 ▸ (k3.mono (Nat.le_refl _) (fun _ _ _=>rfl) (fun _ h _=>h) (fun _ _ h=>by cases h)),?_⟩
          rw [g4]
          simp [Instr.lookup,run_underlying hu,MapKept.run_getObj_map hh,K.keyed.check w _ ht',f1,Result.andThen]
        · exact absurd f5 (g0 x' (List.mem_of_getElem? f4))
  obtain ⟨v,hrep,hrun⟩:=key
  refine vV (v:=if ok then .tuple #[v,.bool hn.g] else v) (w':=w) ?_ ?_
  · simp only [execOp,ho,he,Sem.run_bind,hrun,Result.andThen_ok]
    rfl
  · refine hT.quiet (tA w) rfl (by simp [Option.map_map,Function.comp_def]) ?_
    intro d av' he'
    obtain ⟨hlt,rfl⟩:=vL hd he'
    refine ⟨by omega,?_⟩
    cases ok
    · exact hrep
    · refine .tuple (by simp) fun j c hj=>?_
      match j with
      | 0=>simp at hj;subst hj;exact hrep
      | 1=>simp at hj;subst hj;exact .bool
      | j+2=>simp at hj

/-- 'make' of a map. -/
theorem RI {P:Program} {N np:Nat} {o:Oper} {t:TypeId} {rs:List (Nat×AV)} {hn:xC} (ho:o.op=.makeMap t none) (hd:vK N o.dst=true) :
    vR P N np o { rs:=rs,rb:=[(hn.id,.unused)],dst:=o.dst.map fun d=>(d,.mp hn.id),wb:=[(hn.id,.live (.map hn.mag hn.mks []))] }:=by
  intro G st a w hN hnp hE ⟨T,hT⟩
  have hu:st.box hn.id=.unused:=hE.2 (hn.id,.unused) (by simp)
  refine vV (v:=.map (some w.heap.size)) (w':=w.alloc (.map #[] 0)) ?_ ?_
  · simp [execOp,ho,run_makeMap_plain,Result.andThen]
  · refine hT.new (p:=.at w.heap.size 0) (gC _ _) rfl hu (by simp [Option.map_map,Function.comp_def]) (fun b c hp=>by injection hp with hp;omega) ?_ ?_
    · exact ⟨w.heap.size,#[],0,rfl,heap_alloc_new w _,rfl,by simp,MapKept.stamped_empty 0,by simp,fun i x hx=>by simp at hx⟩
    · intro d av he
      obtain ⟨hlt,rfl⟩:=vL hd he
      exact ⟨by omega,.mp (Tbl.put_same _ _ _)⟩

/-- 'm[k] = v'. -/
def ER (P:Program) (t:TypeId) (m key v:AV) (B:Nat→z9) (h:xC):Option (List Prop×Nat×Box) :=
  match aF P t,m with
  | some (k,_),.mp id =>
    match B id with
    | .live (.map ag ks l)=>bif vQ ag ks key&&v.pure then some ([v9 P k ag ks,n3 l key v h.es,l.length<maxLen],id,.map ag ks h.es) else none
    | _=>none
  | _,_=>none

theorem O6 {P:Program} {N np:Nat} {o:Oper} {t:TypeId} {x y z:Operand} {rs:List (Nat×AV)} {hn:xC} {B:Nat→z9} {r:List Prop×Nat×Box}
    (ho:o.op=.mapUpdate t x y z) (hx:y3 x=true) (hy:y3 y=true) (hz:y3 z=true)
    (h:ER P t (y1 rs x) (y1 rs y) (y1 rs z) B hn=some r) (hv:∀ p∈r.1,p) (hd:o.dst=none) :
    vR P N np o { rs:=rs,rb:=[(r.2.1,B r.2.1)],wb:=[(r.2.1,.live r.2.2)] }:=by
  intro G st a w hN hnp hE ⟨T,hT⟩
  have hrx:=wY hT hE.1 hx
  have hry:=wY hT hE.1 hy
  have hrz:=wY hT hE.1 hz
  unfold ER at h
  split at h
  case h_2=>cases h
  rename_i k e id hmt hX
  have hu:=lW hmt
  rw [hX] at hrx
  split at h
  case h_2=>cases h
  rename_i ag ks l hB
  replace h:=y7 h;obtain ⟨hc,h⟩:=h
  simp only [Bool.and_eq_true] at hc
  obtain ⟨hkm,hpure⟩:=hc
  injection h with h;subst h
  simp only at hE hv
  have K:v9 P k ag ks:=hv _ (by simp)
  have hL:n3 l (y1 rs y) (y1 rs z) hn.es:=hv _ (by simp)
  have hmax:l.length<maxLen:=hv _ (by simp)
  have hb:st.box id=.live (.map ag ks l):=(hE.2 (id,B id) (by simp)).trans hB
  obtain ⟨b,E,clock,hp,hh,h1,h2,hS,h3,h4⟩:=hT.boxes id _ hb
  generalize he:a.eval x=vx at hrx
  cases hrx with
  | mp hTi =>
  rename_i b'
  have hp0:=hp
  rw [hTi] at hp;injection hp with hp;injection hp with hp1 hp2;subst hp1
  obtain ⟨t',ht'⟩:=K.reads _ _ _ _ _ hry hkm
  have hrk:Rep w (imm G st T) Tbl.empty (a.eval y) (y1 rs y):=hry.bare (QK hkm)
  have hrv:Rep w (imm G st T) Tbl.empty (a.eval z) (y1 rs z):=hrz.bare hpure
  have fin:∀ (E':Array MapEntry) (clock':Nat),(Instr.mapUpdate t (.map (some b')) (a.eval y) (a.eval z)).run P w=.ok () (ChangeMaps.setBlock w b' (.map E' clock'))→E'.size=hn.es.length→hn.es.length≤maxLen→MapKept.Stamped E' clock' →
      (∀ x∈hn.es,vQ ag ks x.1=true)→(∀ (i:Nat) (x:AV×AV),hn.es[i]?=some x→∃ e:MapEntry,E'[i]?=some e∧Rep w (imm G st T) Tbl.empty e.key x.1∧Rep w (imm G st T) Tbl.empty e.val x.2) →
      o.wp P a w (fun a' w'=>Rel G (st.upd { rs:=rs,rb:=[(id,B id)],wb:=[(id,.live (.map ag ks hn.es))] }) a' w') (fun _ _ _=>False):=by
    intro E' clock' hrun k1 k2 k3 k4 k5
    have hex:(execOp a.eval o).run P w=.ok .skip (ChangeMaps.setBlock w b' (.map E' clock')):=by
      simp only [execOp,ho,he,Sem.run_bind,hrun,Result.andThen_ok]
      rfl
    unfold Oper.wp
    rw [hex]
    show Rel G _ (a.put o.dst undef) _
    · refine hT.write hb hTi ⟨rfl,rfl,rfl,by simp [ChangeMaps.setBlock],fun i _ hi=>ChangeMaps.heap_setBlock_other hh _ (fun e=>hi (by rw [e]))⟩ rfl (by rw [hd];rfl) ?_ (fun d av he=>by cases he)
      rw [hp0]
      refine ⟨b',E',clock',by rw [← hp0,hTi],ChangeMaps.heap_setBlock_same hh _,k1,k2,k3,k4,fun i x hx=>?_⟩
      obtain ⟨e',q1,q2,q3⟩:=k5 i x hx
      have hmono:∀ {v av},Rep w (imm G st T) Tbl.empty v av→Rep (ChangeMaps.setBlock w b' (.map E' clock')) (imm G st T) Tbl.empty v av:=fun h =>
        h.mono (by simp [ChangeMaps.setBlock]) (fun c hc _=>ChangeMaps.heap_setBlock_other hh _ (fun e=>hc.2 id _ 0 hb (by rw [e];exact hTi))) (fun _ h _=>h) (fun _ _ h=>h)
      exact ⟨e',q1,hmono q2,hmono q3⟩
  rcases AB K h1 h3 h4 hry hkm with ⟨f1,f2,f3⟩ | ⟨j,e',x',f1,f2,f3,f4,f5,f6⟩
  · rcases hL with ⟨i,x',g1,g2,_⟩ | ⟨_,g1⟩
    · exact absurd g2 (f3 x' (List.mem_of_getElem? g1))
    · refine fin (E.push ⟨a.eval y,a.eval z,clock⟩) (clock+1) ?_ (by rw [g1];simp [h1]) (by rw [g1];simp;omega) (MapKept.stamped_push hS f2) ?_ ?_
      · simp [Instr.mapUpdate,run_underlying hu,MapKept.run_getObj_map hh,K.keyed.check w _ ht',f1,MapKept.run_setObj_map _ hh,Result.andThen,ChangeMaps.setBlock]
      · intro x hx
        rw [g1] at hx
        rcases List.mem_append.1 hx with hx | hx
        · exact h3 x hx
        · rw [List.mem_singleton.1 hx];exact hkm
      · intro i x hx
        rw [g1] at hx
        rcases Nat.lt_or_ge i l.length with hlt | hge
        · rw [List.getElem?_append_left hlt] at hx
          obtain ⟨e2,q1,q2,q3⟩:=h4 i x hx
          exact ⟨e2,by rw [Array.getElem?_push,if_neg (by omega)];exact q1,q2,q3⟩
        · rw [List.getElem?_append_right hge] at hx
          have hi:i=l.length:=by
            rcases Nat.lt_or_ge (i - l.length) 1 with h' | h'
            · omega
            · rw [List.getElem?_eq_none (by simpa using h')] at hx;cases hx
          subst hi
          simp at hx;subst hx
          exact ⟨⟨a.eval y,a.eval z,clock⟩,by rw [Array.getElem?_push,if_pos h1.symm],hrk,hrv⟩
  · rcases hL with ⟨i,x2,g1,g2,g3⟩ | ⟨g0,_⟩
    · obtain ⟨e2,k1,k2,k3⟩:=h4 i x2 g1
      have hkv:=(b6 k2 hry (h3 x2 (List.mem_of_getElem? g1)) hkm).2 g2
      have:=CB hS f2 k1 (f3.trans hkv.symm)
      subst this
      have hil:j<l.length:=(List.getElem?_eq_some_iff.1 f4).1
      refine fin (E.modify j fun e=>{ e with key:=a.eval y,val:=a.eval z }) clock ?_ (by rw [g3];simp [h1]) (by rw [g3];simp;omega) (MapKept.stamped_modify hS _ _ (fun _ _=>rfl) (fun e3 _ he3=>by rw [f2] at he3;injection he3 with he3;subst he3;exact f3.symm)) ?_ ?_
      · simp [Instr.mapUpdate,run_underlying hu,MapKept.run_getObj_map hh,K.keyed.check w _ ht',f1,f2,f3,K.keyed.stays w ht',MapKept.run_setObj_map _ hh,Result.andThen,ChangeMaps.setBlock]
      · intro x hx
        rw [g3] at hx
        rcases List.mem_or_eq_of_mem_set hx with hx | hx
        · exact h3 x hx
        · rw [hx];exact hkm
      · intro i x hx
        rw [g3,List.getElem?_set] at hx
        by_cases hij:j=i
        · subst hij
          rw [if_pos rfl,if_pos hil] at hx
          injection hx with hx;subst hx
          exact ⟨{ e' with key:=a.eval y,val:=a.eval z },by rw [Array.getElem?_modify,if_pos rfl,f2];rfl,hrk,hrv⟩
        · rw [if_neg hij] at hx
          obtain ⟨e2,q1,q2,q3⟩:=h4 i x hx
          exact ⟨e2,by rw [Array.getElem?_modify,if_neg hij];exact q1,q2,q3⟩
    · exact absurd f5 (g0 x' (List.mem_of_getElem? f4))

/-- 'len' of a map. -/
def K9 (P:Program) (t:TypeId) (m:AV) (B:Nat→z9):Option (Nat×Nat) :=
  match aF P t,m with
  | some _,.mp id=>match B id with
    | .live (.map _ _ l)=>some (l.length,id)
    | _=>none
  | _,_=>none
def BH (P:Program) (t:TypeId) (m:AV) (B:Nat→z9) (h:xC):Option (List Prop×Nat×AV) :=
  match K9 P t m B with
  | some (n,id)=>some ([(n:Int)=(h.n:Int)],id,.int .i64 (h.n:Int))
  | none=>none

def o8 (P:Program) (t:TypeId) (m:AV) (B:Nat→z9):Option (Nat×AV) :=
  match aF P t,m with
  | some _,.mp id=>match B id with
    | .live (.map _ _ l)=>some (id,.int .i64 (l.length:Int))
    | _=>none
  | _,_=>none

theorem US {P:Program} {N np:Nat} {o:Oper} {t:TypeId} {x:Operand} {rs:List (Nat×AV)} {B:Nat→z9} {r:Nat×AV}
    (ho:o.op=.call { callee:=.builtin .len,args:=#[x],argTypes:=#[t] }) (hx:y3 x=true)
    (h:o8 P t (y1 rs x) B=some r) (hd:vK N o.dst=true) :
    vR P N np o { rs:=rs,rb:=[(r.1,B r.1)],dst:=o.dst.map fun d=>(d,r.2) }:=by
  intro G st a w hN hnp hE ⟨T,hT⟩
  have hrx:=wY hT hE.1 hx
  unfold o8 at h
  split at h
  case h_2=>cases h
  rename_i kk id hmt hX
  obtain ⟨k,e⟩:=kk
  have hu:=lW hmt
  rw [hX] at hrx
  split at h
  case h_2=>cases h
  rename_i ag ks l hB
  injection h with h;subst h
  simp only at hE
  have hb:st.box id=.live (.map ag ks l):=(hE.2 (id,B id) (by simp)).trans hB
  obtain ⟨b,E,clock,hp,hh,h1,h2,hS,h3,h4⟩:=hT.boxes id _ hb
  generalize he:a.eval x=vx at hrx
  cases hrx with
  | mp hTi =>
  rename_i b'
  rw [hTi] at hp;injection hp with hp;injection hp with hp1 hp2;subst hp1
  refine vV (v:=.int .i64 (l.length:Int)) (w':=w) ?_ ?_
  · simp [execOp,ho,he,resolve,invoke,builtin,Builtin.len_,run_underlying hu,MapKept.run_getObj_map hh,Result.andThen,h1,goInt]
  · refine hT.quiet (tA w) rfl (by simp [Option.map_map,Function.comp_def]) ?_
    intro d av' he'
    obtain ⟨hlt,rfl⟩:=vL hd he'
    refine ⟨by omega,.int ?_⟩
    rw [uM] at h2
    refine n9 _ _ ?_
    simp only [IntKind.signed,IntKind.bits]
    simp
    omega

theorem SX {P:Program} {N np:Nat} {o:Oper} {t:TypeId} {x:Operand} {rs:List (Nat×AV)} {B:Nat→z9} {hn:xC} {r:List Prop×Nat×AV}
    (ho:o.op=.call { callee:=.builtin .len,args:=#[x],argTypes:=#[t] }) (hx:y3 x=true)
    (h:BH P t (y1 rs x) B hn=some r) (hv:∀ p∈r.1,p) (hd:vK N o.dst=true) :
    vR P N np o { rs:=rs,rb:=[(r.2.1,B r.2.1)],dst:=o.dst.map fun d=>(d,r.2.2) }:=by
  unfold BH at h
  split at h
  case h_2=>cases h
  rename_i n id h0
  injection h with h;subst h
  have e:(n:Int)=(hn.n:Int):=hv _ (by simp)
  unfold K9 at h0
  split at h0
  case h_2=>cases h0
  rename_i kk id' hmt hX
  split at h0
  case h_2=>cases h0
  rename_i ag ks l hB
  simp only [Option.some.injEq,Prod.mk.injEq] at h0
  obtain ⟨rfl,rfl⟩:=h0
  have hold:o8 P t (y1 rs x) B=some (id',.int .i64 (l.length:Int)):=by
    unfold o8;rw [hmt,hX];simp only [hB]
  have:=US (N:=N) (np:=np) ho hx hold hd
  simp only [e] at this
  exact this
end Go.Ab
