/- A layer over the model: abstract values and states, and the rules by which the printed proofs go. No conditions. -/
import Derived.Test.YtoeengmnmhhpgaaA17
import Derived.WideMake
import Derived.DeepKeys4
/- Maps of the call's own: made, looked up, written, counted. -/
namespace Go.Ab
open Go
theorem XV {k:KSh} {a:AV} (h:kc k a=true):a.pure=true∧a.one=true∧a.cells=[a]:=by
 cases a<;>cases k<;>simp_all [kc,AV.pure,AV.one,AV.cells]
theorem VL {l m:List Int} (hl:∀ x∈l,0≤x∧x<256) (hm:∀ x∈m,0≤x∧x<256) (h:w8 l=w8 m):l=m:=by
 have h1:l.map (fun x=>UInt8.ofNat x.toNat)=m.map (fun x=>UInt8.ofNat x.toNat):=by
  unfold w8 at h
  have:=congrArg (fun b:ByteArray=>b.data.toList) h
  simpa using this
 clear h
 induction l generalizing m with
 | nil=>cases m with
  | nil=>rfl
  | cons b s=>simp at h1
 | cons a r ih =>
  cases m with
  | nil=>simp at h1
  | cons b s =>
   simp only [List.map_cons,List.cons.injEq] at h1
   have ha:=hl a (List.mem_cons_self ..)
   have hb:=hm b (List.mem_cons_self ..)
   have e1:a=b:=by
    have:=congrArg UInt8.toNat h1.1
    simp only [UInt8.toNat_ofNat'] at this
    omega
   rw [e1,ih (fun x hx=>hl x (List.mem_cons_of_mem _ hx)) (fun x hx=>hm x (List.mem_cons_of_mem _ hx)) h1.2]
theorem OZ {w w':World} {I I':Nat→Prop} {T T':Tbl} {v v':Value} {a a':AV} {k:KSh} (h:Rep w I T v a) (h':Rep w' I' T' v' a') (hk:kc k a=true) (hk':kc k a'=true):v=v'↔a=a':=by
 cases k<;>cases a<;>simp [kc] at hk<;>cases a'<;>simp [kc] at hk'
 ·subst hk;subst hk'
  cases h;cases h';simp
 ·cases h;cases h';simp
 ·rename_i l m
  cases h with
  | str h1 h2 =>
   cases h' with
   | str g1 g2 =>
    simp only [Value.string.injEq,AV.str.injEq]
    exact ⟨VL h1 g1,fun e=>by rw [e]⟩
theorem KO {ks:List KSh} {cs:List AV} (h:kcs ks cs=true):ks.length=cs.length∧∀ (j:Nat) (k:KSh) (c:AV),ks[j]?=some k→cs[j]?=some c→kc k c=true:=by
 induction ks generalizing cs with
 | nil=>cases cs with
  | nil=>exact ⟨rfl,fun j k c hj=>by simp at hj⟩
  | cons a s=>simp [kcs] at h
 | cons k r ih =>
  cases cs with
  | nil=>simp [kcs] at h
  | cons a s =>
   simp only [kcs,zba] at h
   obtain ⟨e1,e2⟩:=ih h.2
   refine ⟨by simp [e1],fun j k' c hj hc=>?_⟩
   cases j with
   | zero=>simp at hj hc;subst hj;subst hc;exact h.1
   | succ j=>exact e2 j k' c (by simpa using hj) (by simpa using hc)
theorem XZ {ag:Bool} {ks:List KSh} {a:AV} (h:uM ag ks a=true):a.pure=true:=by
 have hl:∀ (ks:List KSh) (cs:List AV),kcs ks cs=true→AV.pures cs=true:=by
  intro ks
  induction ks with
  | nil=>intro cs h;cases cs<;>simp_all [kcs,AV.pures]
  | cons k r ih =>
   intro cs h
   cases cs with
   | nil=>rfl
   | cons c s =>
    simp only [kcs,zba] at h
    simp [AV.pures,(XV h.1).1,ih s h.2]
 cases a with
 | agg cs=>simp only [uM,zba] at h;exact hl ks cs h.2
 | _ =>
  simp only [uM,zba] at h
  have:=hl _ _ h.2
  simpa [AV.pures] using this
theorem rN {w w':World} {I I':Nat→Prop} {T T':Tbl} {v v':Value} {a a':AV} {ag:Bool} {ks:List KSh} (h:Rep w I T v a) (h':Rep w' I' T' v' a') (hk:uM ag ks a=true) (hk':uM ag ks a'=true):v=v'↔a=a':=by
 have one:∀ {x:AV},(∀ cs,x≠.agg cs)→uM ag ks x=true→ag=false∧∃ k,ks=[k]∧kc k x=true:=by
  intro x hx hm
  have:(!ag&&kcs ks [x])=true:=by
   cases x<;>first | exact hm | exact absurd rfl (hx _)
  simp only [zba,Bool.not_eq_true'] at this
  refine ⟨this.1,?_⟩
  have h2:=this.2
  cases ks with
  | nil=>simp [kcs] at h2
  | cons k r=>cases r with
   | nil=>exact ⟨k,rfl,by simpa [kcs] using h2⟩
   | cons k' r'=>simp [kcs] at h2
 by_cases ha:∃ cs,a=.agg cs
 ·obtain ⟨cs,rfl⟩:=ha
  simp only [uM,zba] at hk
  by_cases ha':∃ cs,a'=.agg cs
  ·obtain ⟨cs',rfl⟩:=ha'
   simp only [uM,zba] at hk'
   obtain ⟨l1,c1⟩:=KO hk.2
   obtain ⟨l2,c2⟩:=KO hk'.2
   cases h with
   | agg s1 o1 r1 =>
    cases h' with
    | agg s2 o2 r2 =>
     rename_i vs vs'
     have pt:∀ j (hj:j<ks.length),vs.getD j undef=vs'.getD j undef↔cs[j]'(by omega)=cs'[j]'(by omega):=by
      intro j hj
      exact OZ (r1 j _ (List.getElem?_eq_getElem (by omega))) (r2 j _ (List.getElem?_eq_getElem (by omega)))
       (c1 j _ _ (List.getElem?_eq_getElem hj) (List.getElem?_eq_getElem (by omega))) (c2 j _ _ (List.getElem?_eq_getElem hj) (List.getElem?_eq_getElem (by omega)))
     simp only [Value.agg.injEq,AV.agg.injEq]
     constructor
     ·intro e
      refine List.ext_getElem (by omega) fun j hj hj'=>?_
      exact (pt j (by omega)).1 (by rw [e])
     ·intro e
      refine Array.ext (by omega) fun j hj hj'=>?_
      have:=(pt j (by omega)).2 (by simp [e])
      simpa [Array.getD,hj,hj'] using this
  ·have:=one (fun cs hc=>ha' ⟨cs,hc⟩) hk'
   rw [this.1] at hk;simp at hk
 ·obtain ⟨g1,k,e1,e2⟩:=one (fun cs hc=>ha ⟨cs,hc⟩) hk
  by_cases ha':∃ cs,a'=.agg cs
  ·obtain ⟨cs',rfl⟩:=ha'
   simp only [uM,zba] at hk'
   rw [g1] at hk';simp at hk'
  ·obtain ⟨_,k',e1',e2'⟩:=one (fun cs hc=>ha' ⟨cs,hc⟩) hk'
   rw [e1] at e1'
   injection e1' with e1' _
   exact OZ h h' e2 (e1' ▸ e2')
structure tA (P:Program) (k:TypeId) (ag:Bool) (ks:List KSh):Prop where
 keyed:Maps.Keyed P k
 reads:∀ (w:World) (I:Nat→Prop) (T:Tbl) (v:Value) (a:AV),Rep w I T v a→uM ag ks a=true→∃ l,keyOf P k v=some l
def cY (l:List (AV×AV)) (key z av:AV) (g:Bool):Prop:=(∃ (i:Nat) (x:AV×AV),l[i]?=some x∧x.1=key∧av=x.2∧g=true)∨((∀ x∈l,x.1≠key)∧av=z∧g=false)
def lV (l:List (AV×AV)) (key val:AV) (l':List (AV×AV)):Prop:=(∃ (i:Nat) (x:AV×AV),l[i]?=some x∧x.1=key∧l'=l.set i (key,val))∨((∀ x∈l,x.1≠key)∧l'=l++[(key,val)])
section
variable {P:Program} {w:World} {I:Nat→Prop} {T:Tbl} {ag:Bool} {ks:List KSh} {l:List (AV×AV)} {E:Array MapEntry} {k:TypeId} {key:AV} {v:Value}
theorem VU (K:tA P k ag ks) (hE:E.size=l.length) (hk:∀ x∈l,uM ag ks x.1=true) (hr:∀ (i:Nat) (x:AV×AV),l[i]?=some x→∃ e:MapEntry,E[i]?=some e∧Rep w I Tbl.empty e.key x.1∧Rep w I Tbl.empty e.val x.2) :
  ∀ e∈E.toList,∃ t,keyOf P k e.key=some t:=by
 intro e he
 obtain ⟨i,hi⟩:=List.mem_iff_getElem?.1 he
 have hil:i<l.length:=by
  have:=(List.getElem?_eq_some_iff.1 hi).1
  simp at this;omega
 obtain ⟨e',h1,h2,_⟩:=hr i _ (List.getElem?_eq_getElem hil)
 rw [Array.getElem?_toList] at hi
 rw [hi] at h1;injection h1 with h1;subst h1
 exact K.reads _ _ _ _ _ h2 (hk _ (List.getElem_mem hil))
theorem GG (K:tA P k ag ks) (hE:E.size=l.length) (hk:∀ x∈l,uM ag ks x.1=true) (hr:∀ (i:Nat) (x:AV×AV),l[i]?=some x→∃ e:MapEntry,E[i]?=some e∧Rep w I Tbl.empty e.key x.1∧Rep w I Tbl.empty e.val x.2)
  (hv:Rep w I T v key) (hm:uM ag ks key=true) :
  ((Instr.findKey k v E.toList).run P w=.ok none w∧(∀ e∈E.toList,e.key≠v)∧∀ x∈l,x.1≠key) ∨
  ∃ j e x,(Instr.findKey k v E.toList).run P w=.ok (some (j,e.val)) w∧E[j]?=some e∧e.key=v∧l[j]?=some x∧x.1=key∧Rep w I Tbl.empty e.val x.2:=by
 obtain ⟨t,ht⟩:=K.reads _ _ _ _ _ hv hm
 rcases K.keyed.find w ht E.toList (VU K hE hk hr) with ⟨h1,h2⟩ | ⟨j,e,h1,h2,h3⟩
 ·refine .inl ⟨h1,h2,fun x hx hxk=>?_⟩
  obtain ⟨i,hi⟩:=List.mem_iff_getElem?.1 hx
  obtain ⟨e,e1,e2,_⟩:=hr i x hi
  have:=(rN e2 hv (hk x hx) hm).2 hxk
  exact h2 e (by rw [← Array.getElem?_toList] at e1;exact List.mem_of_getElem? e1) this
 ·rw [Array.getElem?_toList] at h2
  have hjl:j<l.length:=by
   rcases zlg j E.size with h' | h'
   ·omega
   ·rw [Array.getElem?_eq_none h'] at h2;cases h2
  obtain ⟨e',e1,e2,e3⟩:=hr j _ (List.getElem?_eq_getElem hjl)
  rw [h2] at e1;injection e1 with e1;subst e1
  exact .inr ⟨j,e,l[j],h1,h2,h3,List.getElem?_eq_getElem hjl,(rN e2 hv (hk _ (List.getElem_mem hjl)) hm).1 h3,e3⟩
theorem KN {clock:Nat} (hS:MapKept.Stamped E clock) {i j:Nat} {e e':MapEntry} (hi:E[i]?=some e) (hj:E[j]?=some e') (h:e.key=e'.key):i=j:=by
 have hp:=((MapKept.stamped_iff E clock).1 hS).2.2
 rw [List.pairwise_iff_getElem] at hp
 rw [← Array.getElem?_toList] at hi hj
 obtain ⟨hi1,hi2⟩:=List.getElem?_eq_some_iff.1 hi
 obtain ⟨hj1,hj2⟩:=List.getElem?_eq_some_iff.1 hj
 rcases Nat.lt_trichotomy i j with h' | h' | h'
 ·exact absurd (by rw [hi2,hj2];exact h) (hp i j hi1 hj1 h')
 ·exact h'
 ·exact absurd (by rw [hi2,hj2];exact h.symm) (hp j i hj1 hi1 h')
end
def iD (P:Program) (t:TypeId):Option (TypeId×TypeId):=match P.underlying t with | some (.map k e)=>some (k,e) | _=>none
theorem GX {P:Program} {t k e:TypeId} (h:iD P t=some (k,e)):P.underlying t=some (.map k e):=by
 unfold iD at h;split at h<;>simp_all
def EC (P:Program) (e:TypeId):Option AV :=
 match dC P e with
 | some z=>bif iU z then some (mP z) else none
 | none=>none
theorem S7 {P:Program} {e:TypeId} {z:AV} {w:World} {I:Nat→Prop} {T:Tbl} (h:EC P e=some z):∃ v,(zeroValue e).run P w=.ok v w∧Rep w I T v z:=by
 unfold EC at h
 split at h
 case h_2=>cases h
 rename_i zv hz
 replace h:=xK h;obtain ⟨hc,h⟩:=h
 injection h with h;subst h
 refine ⟨zv,?_,KE hc⟩
 unfold dC at hz
 split at hz
 ·rename_i i hi
  simp [zeroValue,typeInfo,hi,hz]
 ·cases hz
def KR (P:Program) (t:TypeId) (m key:AV) (ok:Bool) (B:Nat→yB) (h:xN):Option (List Prop×Nat×AV) :=
 match iD P t,m with
 | some (k,e),.mp id =>
  match B id,EC P e with
  | .live (.map ag ks l),some z=>bif uM ag ks key then some ([tA P k ag ks,cY l key z h.av h.g],id,bif ok then .tuple [h.av,.bool h.g] else h.av) else none
  | _,_=>none
 | _,_=>none
theorem zD6 {P:Program} {N np:Nat} {o:Oper} {t:TypeId} {x y:Operand} {ok:Bool} {rs:List (Nat×AV)} {hn:xN} {B:Nat→yB} {r:List Prop×Nat×AV}
  (ho:o.op=.lookup t x y ok) (hx:xD x=true) (hy:xD y=true)
  (h:KR P t (xC rs x) (xC rs y) ok B hn=some r) (hv:∀ p∈r.1,p) (hd:uH N o.dst=true) :
  uN P N np o { rs:=rs,rb:=[(r.2.1,B r.2.1)],dst:=o.dst.map fun d=>(d,r.2.2) }:=by
 intro G st a w hN hnp hE ⟨T,hT⟩
 have hrx:=vP hT hE.1 hx
 have hry:=vP hT hE.1 hy
 unfold KR at h
 split at h
 case h_2=>cases h
 rename_i k e id hmt hX
 have hu:=GX hmt
 rw [hX] at hrx
 split at h
 case h_2=>cases h
 rename_i ag ks l z hB hz
 replace h:=xK h;obtain ⟨hkm,h⟩:=h
 injection h with h;subst h
 simp only at hE hv
 have K:tA P k ag ks:=hv _ (by simp)
 have hL:cY l (xC rs y) z hn.av hn.g:=hv _ (by simp)
 have hb:st.box id=.live (.map ag ks l):=(hE.2 (id,B id) (by simp)).trans hB
 obtain ⟨b,E,clock,hp,hh,h1,h2,hS,h3,h4⟩:=hT.boxes id _ hb
 generalize he:a.eval x=vx at hrx
 cases hrx with
 | mp hTi =>
 rename_i b'
 rw [hTi] at hp;injection hp with hp;injection hp with hp1 hp2;subst hp1
 obtain ⟨t',ht'⟩:=K.reads _ _ _ _ _ hry hkm
 have key:∃ v,Rep w (imm G st T) T v hn.av∧(Instr.lookup t (.map (some b')) (a.eval y) ok).run P w=.ok (if ok then .tuple #[v,.bool hn.g] else v) w:=by
  rcases GG K h1 h3 h4 hry hkm with ⟨f1,f2,f3⟩ | ⟨j,e',x',f1,f2,f3,f4,f5,f6⟩
  ·obtain ⟨zv,hzr,hzrep⟩:=S7 (w:=w) (I:=imm G st T) (T:=T) hz
   rcases hL with ⟨i,x',g1,g2,_⟩ | ⟨_,g1,g2⟩
   ·exact absurd g2 (f3 x' (List.mem_of_getElem? g1))
   ·refine ⟨zv,g1 ▸ hzrep,?_⟩
    rw [g2]
    simp [Instr.lookup,run_underlying hu,MapKept.run_getObj_map hh,K.keyed.check w _ ht',f1,hzr,Result.andThen]
  ·rcases hL with ⟨i,x2,g1,g2,g3,g4⟩ | ⟨g0,_⟩
   ·obtain ⟨e2,k1,k2,k3⟩:=h4 i x2 g1
    have hkv:=(rN k2 hry (h3 x2 (List.mem_of_getElem? g1)) hkm).2 g2
    have:=KN hS f2 k1 (f3.trans hkv.symm)
    subst this
    rw [f2] at k1;injection k1 with k1;subst k1
    refine ⟨e'.val,g3 ▸ (k3.mono (Nat.le_refl _) (fun _ _ _=>rfl) (fun _ h _=>h) (fun _ _ h=>by cases h)),?_⟩
    rw [g4]
    simp [Instr.lookup,run_underlying hu,MapKept.run_getObj_map hh,K.keyed.check w _ ht',f1,Result.andThen]
   ·exact absurd f5 (g0 x' (List.mem_of_getElem? f4))
 obtain ⟨v,hrep,hrun⟩:=key
 refine uV (v:=if ok then .tuple #[v,.bool hn.g] else v) (w':=w) ?_ ?_
 ·simp only [execOp,ho,he,Sem.run_bind,hrun,Result.andThen_ok]
  rfl
 ·refine hT.quiet (jQ w) rfl (by simp [Option.map_map,Function.comp_def]) ?_
  intro d av' he'
  obtain ⟨hlt,rfl⟩:=uE hd he'
  refine ⟨by omega,?_⟩
  cases ok
  ·exact hrep
  ·refine .tuple (by simp) fun j c hj=>?_
   match j with
   | 0=>simp at hj;subst hj;exact hrep
   | 1=>simp at hj;subst hj;exact .bool
   | j+2=>simp at hj
def L3 (P:Program) (t:TypeId) (m key:AV) (ok:Bool) (h:xN):Option (List Prop×AV) :=
 match iD P t,m with
 | some (k,e),.fm _ l =>
  match EC P e with
  | some z=>bif uM h.mag h.mks key then some ([tA P k h.mag h.mks,cY l key z h.av h.g,∀ x∈l,uM h.mag h.mks x.1=true],bif ok then .tuple [h.av,.bool h.g] else h.av) else none
  | none=>none
 | _,_=>none
theorem W9 {P:Program} {N np:Nat} {o:Oper} {t:TypeId} {x y:Operand} {ok:Bool} {rs:List (Nat×AV)} {hn:xN} {r:List Prop×AV}
  (ho:o.op=.lookup t x y ok) (hx:xD x=true) (hy:xD y=true)
  (h:L3 P t (xC rs x) (xC rs y) ok hn=some r) (hv:∀ p∈r.1,p) (hd:uH N o.dst=true) :
  uN P N np o { rs:=rs,dst:=o.dst.map fun d=>(d,r.2) }:=by
 intro G st a w hN hnp hE ⟨T,hT⟩
 have hrx:=vP hT hE.1 hx
 have hry:=vP hT hE.1 hy
 unfold L3 at h
 split at h
 case h_2=>cases h
 rename_i k e n l hmt hX
 have hu:=GX hmt
 rw [hX] at hrx
 split at h
 case h_2=>cases h
 rename_i z hz
 replace h:=xK h;obtain ⟨hkm,h⟩:=h
 injection h with h;subst h
 simp only at hE hv
 have K:tA P k hn.mag hn.mks:=hv _ (by simp)
 have hL:cY l (xC rs y) z hn.av hn.g:=hv _ (by simp)
 have h3:∀ x∈l,uM hn.mag hn.mks x.1=true:=hv _ (by simp)
 obtain ⟨t',ht'⟩:=K.reads _ _ _ _ _ hry hkm
 obtain ⟨zv,hzr,hzrep⟩:=S7 (w:=w) (I:=imm G st T) (T:=T) hz
 generalize he:a.eval x=vx at hrx
 have key:∃ v,Rep w (imm G st T) T v hn.av∧(Instr.lookup t vx (a.eval y) ok).run P w=.ok (if ok then .tuple #[v,.bool hn.g] else v) w:=by
  cases hrx with
  | fm0 =>
   rcases hL with ⟨i,x',g1,g2,_⟩ | ⟨_,g1,g2⟩
   ·simp at g1
   ·refine ⟨zv,g1 ▸ hzrep,?_⟩
    rw [g2]
    rcases GG (E:=#[]) (l:=[]) K rfl h3 (fun i x hx=>by simp at hx) hry hkm with ⟨f1,_,_⟩ | ⟨j,_,_,_,f2,_⟩
    ·simp [Instr.lookup,run_underlying hu,K.keyed.check w _ ht',f1,hzr,Result.andThen]
    ·simp at f2
  | fm gk gv h1 h2 hS hI hlt hh hent hk hvv =>
   rename_i b E clock
   have h4:∀ (i:Nat) (x:AV×AV),l[i]?=some x→∃ e:MapEntry,E[i]?=some e∧Rep w (imm G st T) Tbl.empty e.key x.1∧Rep w (imm G st T) Tbl.empty e.val x.2:=by
    intro i x hx
    obtain ⟨s,hs⟩:=hent i x hx
    exact ⟨_,hs,hk i x hx,hvv i x hx⟩
   rcases GG K h1 h3 h4 hry hkm with ⟨f1,f2,f3⟩ | ⟨j,e',x',f1,f2,f3,f4,f5,f6⟩
   ·rcases hL with ⟨i,x',g1,g2,_⟩ | ⟨_,g1,g2⟩
    ·exact absurd g2 (f3 x' (List.mem_of_getElem? g1))
    ·refine ⟨zv,g1 ▸ hzrep,?_⟩
     rw [g2]
     simp [Instr.lookup,run_underlying hu,MapKept.run_getObj_map hh,K.keyed.check w _ ht',f1,hzr,Result.andThen]
   ·rcases hL with ⟨i,x2,g1,g2,g3,g4⟩ | ⟨g0,_⟩
    ·obtain ⟨e2,k1,k2,k3⟩:=h4 i x2 g1
     have hkv:=(rN k2 hry (h3 x2 (List.mem_of_getElem? g1)) hkm).2 g2
     have:=KN hS f2 k1 (f3.trans hkv.symm)
     subst this
     rw [f2] at k1;injection k1 with k1;subst k1
     refine ⟨e'.val,g3 ▸ (k3.mono (Nat.le_refl _) (fun _ _ _=>rfl) (fun _ h _=>h) (fun _ _ h=>by cases h)),?_⟩
     rw [g4]
     simp [Instr.lookup,run_underlying hu,MapKept.run_getObj_map hh,K.keyed.check w _ ht',f1,Result.andThen]
    ·exact absurd f5 (g0 x' (List.mem_of_getElem? f4))
 obtain ⟨v,hrep,hrun⟩:=key
 refine uV (v:=if ok then .tuple #[v,.bool hn.g] else v) (w':=w) ?_ ?_
 ·simp only [execOp,ho,he,Sem.run_bind,hrun,Result.andThen_ok]
  rfl
 ·refine hT.quiet (jQ w) rfl (by simp [Option.map_map,Function.comp_def]) ?_
  intro d av' he'
  obtain ⟨hlt,rfl⟩:=uE hd he'
  refine ⟨by omega,?_⟩
  cases ok
  ·exact hrep
  ·refine .tuple (by simp) fun j c hj=>?_
   match j with
   | 0=>simp at hj;subst hj;exact hrep
   | 1=>simp at hj;subst hj;exact .bool
   | j+2=>simp at hj
theorem zAq {P:Program} {N np:Nat} {o:Oper} {t:TypeId} {rs:List (Nat×AV)} {hn:xN} (ho:o.op=.makeMap t none) (hd:uH N o.dst=true) :
  uN P N np o { rs:=rs,rb:=[(hn.id,.unused)],dst:=o.dst.map fun d=>(d,.mp hn.id),wb:=[(hn.id,.live (.map hn.mag hn.mks []))] }:=by
 intro G st a w hN hnp hE ⟨T,hT⟩
 have hu:st.box hn.id=.unused:=hE.2 (hn.id,.unused) (by simp)
 refine uV (v:=.map (some w.heap.size)) (w':=w.alloc (.map #[] 0)) ?_ ?_
 ·simp [execOp,ho,run_makeMap_plain,Result.andThen]
 ·refine hT.new (p:=.at w.heap.size 0) (AZ _ _) rfl hu (by simp [Option.map_map,Function.comp_def]) (fun b c hp=>by injection hp with hp;omega) ?_ ?_
  ·exact ⟨w.heap.size,#[],0,rfl,heap_alloc_new w _,rfl,by simp,MapKept.stamped_empty 0,by simp,fun i x hx=>by simp at hx⟩
  ·intro d av he
   obtain ⟨hlt,rfl⟩:=uE hd he
   exact ⟨by omega,.mp (Tbl.put_same _ _ _)⟩
def KH (P:Program) (t:TypeId) (m key v:AV) (B:Nat→yB) (h:xN):Option (List Prop×Nat×Box) :=
 match iD P t,m with
 | some (k,_),.mp id =>
  match B id with
  | .live (.map ag ks l)=>bif uM ag ks key&&v.pure then some ([tA P k ag ks,lV l key v h.es,l.length<maxLen],id,.map ag ks h.es) else none
  | _=>none
 | _,_=>none
theorem V0 {P:Program} {N np:Nat} {o:Oper} {t:TypeId} {x y z:Operand} {rs:List (Nat×AV)} {hn:xN} {B:Nat→yB} {r:List Prop×Nat×Box}
  (ho:o.op=.mapUpdate t x y z) (hx:xD x=true) (hy:xD y=true) (hz:xD z=true)
  (h:KH P t (xC rs x) (xC rs y) (xC rs z) B hn=some r) (hv:∀ p∈r.1,p) (hd:o.dst=none) :
  uN P N np o { rs:=rs,rb:=[(r.2.1,B r.2.1)],wb:=[(r.2.1,.live r.2.2)] }:=by
 intro G st a w hN hnp hE ⟨T,hT⟩
 have hrx:=vP hT hE.1 hx
 have hry:=vP hT hE.1 hy
 have hrz:=vP hT hE.1 hz
 unfold KH at h
 split at h
 case h_2=>cases h
 rename_i k e id hmt hX
 have hu:=GX hmt
 rw [hX] at hrx
 split at h
 case h_2=>cases h
 rename_i ag ks l hB
 replace h:=xK h;obtain ⟨hc,h⟩:=h
 simp only [zba] at hc
 obtain ⟨hkm,hpure⟩:=hc
 injection h with h;subst h
 simp only at hE hv
 have K:tA P k ag ks:=hv _ (by simp)
 have hL:lV l (xC rs y) (xC rs z) hn.es:=hv _ (by simp)
 have hmax:l.length<maxLen:=hv _ (by simp)
 have hb:st.box id=.live (.map ag ks l):=(hE.2 (id,B id) (by simp)).trans hB
 obtain ⟨b,E,clock,hp,hh,h1,h2,hS,h3,h4⟩:=hT.boxes id _ hb
 generalize he:a.eval x=vx at hrx
 cases hrx with
 | mp hTi =>
 rename_i b'
 have hp0:=hp
 rw [hTi] at hp;injection hp with hp;injection hp with hp1 hp2;subst hp1
 obtain ⟨t',ht'⟩:=K.reads _ _ _ _ _ hry hkm
 have hrk:Rep w (imm G st T) Tbl.empty (a.eval y) (xC rs y):=hry.bare (XZ hkm)
 have hrv:Rep w (imm G st T) Tbl.empty (a.eval z) (xC rs z):=hrz.bare hpure
 have fin:∀ (E':Array MapEntry) (clock':Nat),(Instr.mapUpdate t (.map (some b')) (a.eval y) (a.eval z)).run P w=.ok () (ChangeMaps.setBlock w b' (.map E' clock'))→E'.size=hn.es.length→hn.es.length≤maxLen→MapKept.Stamped E' clock' →
   (∀ x∈hn.es,uM ag ks x.1=true)→(∀ (i:Nat) (x:AV×AV),hn.es[i]?=some x→∃ e:MapEntry,E'[i]?=some e∧Rep w (imm G st T) Tbl.empty e.key x.1∧Rep w (imm G st T) Tbl.empty e.val x.2) →
   o.wp P a w (fun a' w'=>Rel G (st.upd { rs:=rs,rb:=[(id,B id)],wb:=[(id,.live (.map ag ks hn.es))] }) a' w') (fun _ _ _=>False):=by
  intro E' clock' hrun k1 k2 k3 k4 k5
  have hex:(execOp a.eval o).run P w=.ok .skip (ChangeMaps.setBlock w b' (.map E' clock')):=by
   simp only [execOp,ho,he,Sem.run_bind,hrun,Result.andThen_ok]
   rfl
  unfold Oper.wp
  rw [hex]
  show Rel G _ (a.put o.dst undef) _
  ·refine hT.write hb hTi ⟨rfl,rfl,rfl,by simp [ChangeMaps.setBlock],fun i _ hi=>ChangeMaps.heap_setBlock_other hh _ (fun e=>hi (by rw [e]))⟩ rfl (by rw [hd];rfl) ?_ (fun d av he=>by cases he)
   rw [hp0]
   refine ⟨b',E',clock',by rw [← hp0,hTi],ChangeMaps.heap_setBlock_same hh _,k1,k2,k3,k4,fun i x hx=>?_⟩
   obtain ⟨e',q1,q2,q3⟩:=k5 i x hx
   have hmono:∀ {v av},Rep w (imm G st T) Tbl.empty v av→Rep (ChangeMaps.setBlock w b' (.map E' clock')) (imm G st T) Tbl.empty v av:=fun h =>
    h.mono (by simp [ChangeMaps.setBlock]) (fun c hc _=>ChangeMaps.heap_setBlock_other hh _ (fun e=>hc.2 id _ 0 hb (by rw [e];exact hTi))) (fun _ h _=>h) (fun _ _ h=>h)
   exact ⟨e',q1,hmono q2,hmono q3⟩
 rcases GG K h1 h3 h4 hry hkm with ⟨f1,f2,f3⟩ | ⟨j,e',x',f1,f2,f3,f4,f5,f6⟩
 ·rcases hL with ⟨i,x',g1,g2,_⟩ | ⟨_,g1⟩
  ·exact absurd g2 (f3 x' (List.mem_of_getElem? g1))
  ·refine fin (E.push ⟨a.eval y,a.eval z,clock⟩) (clock+1) ?_ (by rw [g1];simp [h1]) (by rw [g1];simp;omega) (MapKept.stamped_push hS f2) ?_ ?_
   ·simp [Instr.mapUpdate,run_underlying hu,MapKept.run_getObj_map hh,K.keyed.check w _ ht',f1,MapKept.run_setObj_map _ hh,Result.andThen,ChangeMaps.setBlock]
   ·intro x hx
    rw [g1] at hx
    rcases List.mem_append.1 hx with hx | hx
    ·exact h3 x hx
    ·rw [List.mem_singleton.1 hx];exact hkm
   ·intro i x hx
    rw [g1] at hx
    rcases zlg i l.length with hlt | hge
    ·rw [List.getElem?_append_left hlt] at hx
     obtain ⟨e2,q1,q2,q3⟩:=h4 i x hx
     exact ⟨e2,by rw [Array.getElem?_push,if_neg (by omega)];exact q1,q2,q3⟩
    ·rw [List.getElem?_append_right hge] at hx
     have hi:i=l.length:=by
      rcases zlg (i - l.length) 1 with h' | h'
      ·omega
      ·rw [List.getElem?_eq_none (by simpa using h')] at hx;cases hx
     subst hi
     simp at hx;subst hx
     exact ⟨⟨a.eval y,a.eval z,clock⟩,by rw [Array.getElem?_push,if_pos h1.symm],hrk,hrv⟩
 ·rcases hL with ⟨i,x2,g1,g2,g3⟩ | ⟨g0,_⟩
  ·obtain ⟨e2,k1,k2,k3⟩:=h4 i x2 g1
   have hkv:=(rN k2 hry (h3 x2 (List.mem_of_getElem? g1)) hkm).2 g2
   have:=KN hS f2 k1 (f3.trans hkv.symm)
   subst this
   have hil:j<l.length:=(List.getElem?_eq_some_iff.1 f4).1
   refine fin (E.modify j fun e=>{ e with key:=a.eval y,val:=a.eval z }) clock ?_ (by rw [g3];simp [h1]) (by rw [g3];simp;omega) (MapKept.stamped_modify hS _ _ (fun _ _=>rfl) (fun e3 _ he3=>by rw [f2] at he3;injection he3 with he3;subst he3;exact f3.symm)) ?_ ?_
   ·simp [Instr.mapUpdate,run_underlying hu,MapKept.run_getObj_map hh,K.keyed.check w _ ht',f1,f2,f3,K.keyed.stays w ht',MapKept.run_setObj_map _ hh,Result.andThen,ChangeMaps.setBlock]
   ·intro x hx
    rw [g3] at hx
    rcases List.mem_or_eq_of_mem_set hx with hx | hx
    ·exact h3 x hx
    ·rw [hx];exact hkm
   ·intro i x hx
    rw [g3,List.getElem?_set] at hx
    by_cases hij:j=i
    ·subst hij
     rw [if_pos rfl,if_pos hil] at hx
     injection hx with hx;subst hx
     exact ⟨{ e' with key:=a.eval y,val:=a.eval z },by rw [Array.getElem?_modify,if_pos rfl,f2];rfl,hrk,hrv⟩
    ·rw [if_neg hij] at hx
     obtain ⟨e2,q1,q2,q3⟩:=h4 i x hx
     exact ⟨e2,by rw [Array.getElem?_modify,if_neg hij];exact q1,q2,q3⟩
  ·exact absurd f5 (g0 x' (List.mem_of_getElem? f4))
def S1 (P:Program) (t:TypeId) (m:AV) (B:Nat→yB):Option (Nat×Nat) :=
 match iD P t,m with
 | some _,.mp id=>match B id with
  | .live (.map _ _ l)=>some (l.length,id)
  | _=>none
 | _,_=>none
def M7 (P:Program) (t:TypeId) (m:AV) (B:Nat→yB) (h:xN):Option (List Prop×Nat×AV) :=
 match S1 P t m B with
 | some (n,id)=>some ([(n:Int)=(h.n:Int)],id,.int .i64 (h.n:Int))
 | none=>none
def GT (P:Program) (t:TypeId) (m:AV) (B:Nat→yB):Option (Nat×AV) :=
 match iD P t,m with
 | some _,.mp id=>match B id with
  | .live (.map _ _ l)=>some (id,.int .i64 (l.length:Int))
  | _=>none
 | _,_=>none
theorem YO {P:Program} {N np:Nat} {o:Oper} {t:TypeId} {x:Operand} {rs:List (Nat×AV)} {B:Nat→yB} {r:Nat×AV}
  (ho:o.op=.call { callee:=.builtin .len,args:=#[x],argTypes:=#[t] }) (hx:xD x=true)
  (h:GT P t (xC rs x) B=some r) (hd:uH N o.dst=true) :
  uN P N np o { rs:=rs,rb:=[(r.1,B r.1)],dst:=o.dst.map fun d=>(d,r.2) }:=by
 intro G st a w hN hnp hE ⟨T,hT⟩
 have hrx:=vP hT hE.1 hx
 unfold GT at h
 split at h
 case h_2=>cases h
 rename_i kk id hmt hX
 obtain ⟨k,e⟩:=kk
 have hu:=GX hmt
 rw [hX] at hrx
 split at h
 case h_2=>cases h
 rename_i ag ks l hB
 injection h with h;subst h
 simp only at hE
 have hb:st.box id=.live (.map ag ks l):=(hE.2 (id,B id) (by simp)).trans hB
 obtain ⟨b,E,clock,hp,hh,h1,h2,hS,h3,h4⟩:=hT.boxes id _ hb
 generalize he:a.eval x=vx at hrx
 cases hrx with
 | mp hTi =>
 rename_i b'
 rw [hTi] at hp;injection hp with hp;injection hp with hp1 hp2;subst hp1
 refine uV (v:=.int .i64 (l.length:Int)) (w':=w) ?_ ?_
 ·simp [execOp,ho,he,resolve,invoke,builtin,Builtin.len_,run_underlying hu,MapKept.run_getObj_map hh,Result.andThen,h1,goInt]
 ·refine hT.quiet (jQ w) rfl (by simp [Option.map_map,Function.comp_def]) ?_
  intro d av' he'
  obtain ⟨hlt,rfl⟩:=uE hd he'
  refine ⟨by omega,.int ?_⟩
  rw [qC] at h2
  refine iI _ _ ?_
  simp only [IntKind.signed,IntKind.bits]
  simp
  omega
theorem Y6 {P:Program} {N np:Nat} {o:Oper} {t:TypeId} {x:Operand} {rs:List (Nat×AV)} {B:Nat→yB} {hn:xN} {r:List Prop×Nat×AV}
  (ho:o.op=.call { callee:=.builtin .len,args:=#[x],argTypes:=#[t] }) (hx:xD x=true)
  (h:M7 P t (xC rs x) B hn=some r) (hv:∀ p∈r.1,p) (hd:uH N o.dst=true) :
  uN P N np o { rs:=rs,rb:=[(r.2.1,B r.2.1)],dst:=o.dst.map fun d=>(d,r.2.2) }:=by
 unfold M7 at h
 split at h
 case h_2=>cases h
 rename_i n id h0
 injection h with h;subst h
 have e:(n:Int)=(hn.n:Int):=hv _ (by simp)
 unfold S1 at h0
 split at h0
 case h_2=>cases h0
 rename_i kk id' hmt hX
 split at h0
 case h_2=>cases h0
 rename_i ag ks l hB
 simp only [Option.some.injEq,Prod.mk.injEq] at h0
 obtain ⟨rfl,rfl⟩:=h0
 have hold:GT P t (xC rs x) B=some (id',.int .i64 (l.length:Int)):=by
  unfold GT;rw [hmt,hX];simp only [hB]
 have:=YO (N:=N) (np:=np) ho hx hold hd
 simp only [e] at this
 exact this
end Go.Ab

/- Structs and arrays compared. -/
namespace Go.Ab
open Go
structure pM (P:Program) (t:TypeId) (ks:List KSh):Prop where
 key:tA P t true ks
 guard:P.eqGuardType P.depth t=false
 eq:∀ (w:World) (x y:Value) (lx ly:Lit),keyOf P t x=some lx→keyOf P t y=some ly→∃ r:Bool,(Op.equal t x y).run P w=.ok r w∧(r=true↔lx=ly)
theorem EW {P:Program} {t:TypeId} {ks:List KSh} (K:tA P t true ks) (hk:(P.keyTypeAt 100 t&&!(P.eqGuardType P.depth t))=true)
  (hw:(match P.underlying t with | some (.array _ _) | some (.struct _)=>true | _=>false)=true):pM P t ks:=by
 simp only [zba,Bool.not_eq_true'] at hk
 exact ⟨K,hk.2,fun w x y lx ly hx hy=>run_equal_deep w (m:=100) (by omega) hk.1 hw hx hy⟩
def KG (P:Program) (op:BinOp) (t:TypeId) (x y:AV) (h:xN):Option (List Prop×AV) :=
 match x,y with
 | .agg cs,.agg ds =>
  bif kcs h.mks cs&&kcs h.mks ds then
   match op with
   | .eql=>some ([pM P t h.mks,(h.b=true↔AV.agg cs=AV.agg ds)],.bool h.b)
   | .neq=>some ([pM P t h.mks,(h.b=true↔AV.agg cs=AV.agg ds)],.bool !h.b)
   | _=>none
  else none
 | _,_=>none
theorem SX {P:Program} {op:BinOp} {t:TypeId} {x y:Operand} {w:World} {X Y:Array Value} (h:P.eqGuardType P.depth t=false) :
  (eqGuard op t x y (.agg X) (.agg Y)).run P w=.ok () w:=by
 unfold eqGuard
 cases op<;>simp [h]
theorem zCm {P:Program} {N np:Nat} {o:Oper} {op:BinOp} {t yT:TypeId} {x y:Operand} {rs:List (Nat×AV)} {hn:xN} {r:List Prop×AV}
  (ho:o.op=.binOp op t x y yT) (hx:xD x=true) (hy:xD y=true)
  (h:KG P op t (xC rs x) (xC rs y) hn=some r) (hv:∀ p∈r.1,p) (hd:uH N o.dst=true) :
  uN P N np o { rs:=rs,dst:=o.dst.map fun d=>(d,r.2) }:=by
 intro G st a w hN hnp hE ⟨T,hT⟩
 have hrx:=vP hT hE.1 hx
 have hry:=vP hT hE.1 hy
 unfold KG at h
 split at h
 case h_2=>cases h
 rename_i cs ds hX hY
 rw [hX] at hrx
 rw [hY] at hry
 replace h:=xK h;obtain ⟨hc,h⟩:=h
 simp only [zba] at hc
 have m1:uM true hn.mks (.agg cs)=true:=by simp [uM,hc.1]
 have m2:uM true hn.mks (.agg ds)=true:=by simp [uM,hc.2]
 have key:∀ (K:pM P t hn.mks),(hn.b=true↔AV.agg cs=AV.agg ds)→∃ X Y,a.eval x=.agg X∧a.eval y=.agg Y∧(Op.equal t (a.eval x) (a.eval y)).run P w=.ok hn.b w:=by
  intro K hb
  obtain ⟨lx,hlx⟩:=K.key.reads _ _ _ _ _ hrx m1
  obtain ⟨ly,hly⟩:=K.key.reads _ _ _ _ _ hry m2
  obtain ⟨q,hq,hiff⟩:=K.eq w _ _ lx ly hlx hly
  have e:q=hn.b:=by
   rw [Bool.eq_iff_iff,hiff,hb,← rN hrx hry m1 m2]
   constructor
   ·intro h;subst h;exact K.key.keyed.inj hlx hly
   ·intro h;rw [h,hly] at hlx;injection hlx with hlx;exact hlx.symm
  generalize hvx:a.eval x=vx at *
  generalize hvy:a.eval y=vy at *
  cases hrx with
  | agg _ _ _ =>
   cases hry with
   | agg _ _ _=>exact ⟨_,_,rfl,rfl,e ▸ hq⟩
 split at h
 ·injection h with h;subst h
  have K:pM P t hn.mks:=hv _ (by simp)
  obtain ⟨X,Y,e1,e2,hrun⟩:=key K (hv _ (by simp))
  rw [e1,e2] at hrun
  refine uV (pN (v:=.bool hn.b) ho e1 e2 (SX K.guard) (by simp [binOp,hrun,Result.andThen])) (hT.quiet (jQ w) rfl (by simp [Option.map_map,Function.comp_def]) ?_)
  intro d av' he'
  obtain ⟨hlt,rfl⟩:=uE hd he'
  exact ⟨by omega,.bool⟩
 ·injection h with h;subst h
  have K:pM P t hn.mks:=hv _ (by simp)
  obtain ⟨X,Y,e1,e2,hrun⟩:=key K (hv _ (by simp))
  rw [e1,e2] at hrun
  refine uV (pN (v:=.bool !hn.b) ho e1 e2 (SX K.guard) (by simp [binOp,hrun,Result.andThen])) (hT.quiet (jQ w) rfl (by simp [Option.map_map,Function.comp_def]) ?_)
  intro d av' he'
  obtain ⟨hlt,rfl⟩:=uE hd he'
  exact ⟨by omega,.bool⟩
 ·cases h
end Go.Ab

/- Further operations: the capacity of a nil slice, a nil slice cut, zeros appended to a nil slice, a row of the call's own cut short. -/
namespace Go.Ab
open Go
def EP (P:Program) (t:TypeId):Bool:=match P.underlying t with | some (.int _)=>true | _=>false
def gL (P:Program) (t:TypeId):Bool:=match P.underlying t with | some (.slice e)=>vS P e | _=>false
theorem LH {P:Program} {t:TypeId} (h:gL P t=true):∃ e,P.underlying t=some (.slice e)∧vS P e=true:=by
 unfold gL at h
 split at h
 ·exact ⟨_,by assumption,h⟩
 ·cases h
def xop (P:Program) (o:Oper) (rs:List (Nat×AV)) (B:Nat→yB) (h:xN):Option (List Prop×Eff) :=
 match o.op with
 | .call { callee:=.builtin b,args:=args,argTypes:=ts } =>
  match b,args.toList,ts.toList with
  | .cap,[x],[t] =>
   bif xD x&&gL P t then
    match xC rs x with
    | .nilsl=>some ([],{ rs:=rs,dst:=o.dst.map fun d=>(d,.int .i64 0) })
    | _=>none
   else none
  | .append,[x,y],[t,t2] =>
   bif (xD x&&xD y)&&(pS (B h.id)&&EP P t2) then
    match xC rs x,xC rs y,a8 P t with
    | .nilsl,.int _ n,some e=>some ([n=h.n,0<h.n,h.n * q8 P e≤140737488355328],
      { rs:=rs,rb:=[(h.id,.unused)],dst:=o.dst.map fun d=>(d,.own h.id h.n),wb:=[(h.id,.live (.row e (szT P e) []))] })
    | _,_,_=>none
   else none
  | _,_,_=>none
 | .slice t x none (some y) none =>
  bif (xD x&&xD y)&&gL P t then
   match xC rs x,xC rs y with
   | .nilsl,.int _ n=>some ([n=0],{ rs:=rs,dst:=o.dst.map fun d=>(d,.nilsl) })
   | .own id n,.int _ m =>
    match B id with
    | .live (.row e sz l)=>some ([m=h.n,h.n≤n,h.l=l.take h.n],{ rs:=rs,rb:=[(id,B id)],dst:=o.dst.map fun d=>(d,.own id h.n),wb:=[(id,.live (.row e sz h.l))] })
    | _=>none
   | _,_=>none
  else none
 | .binOp .eql t x y _ =>
  bif (xD x&&xD y)&&oD P t then
   match xC rs x,xC rs y with
   | .own id _,.nilsl =>
    match B id with
    | .live (.row _ _ l)=>some ([],{ rs:=rs,rb:=[(id,B id)],dst:=o.dst.map fun d=>(d,.nb l) })
    | _=>none
   | _,_=>none
  else none
 | _=>none
theorem zAW {P:Program} {N np:Nat} {o:Oper} {x y:Operand} {t t2:TypeId} {rs:List (Nat×AV)} {B:Nat→yB} {id m e sz:Nat} {l:List AV}
  (ho:o.op=.binOp .eql t x y t2) (hx:xD x=true) (hy:xD y=true) (ht:oD P t=true) (hX:xC rs x=.own id m) (hY:xC rs y=.nilsl) (hB:B id=.live (.row e sz l)) (hd:uH N o.dst=true) :
  uN P N np o { rs:=rs,rb:=[(id,B id)],dst:=o.dst.map fun d=>(d,.nb l) }:=by
 intro G st a w hN hnp hE ⟨T,hT⟩
 have hrx:=vP hT hE.1 hx
 have hry:=vP hT hE.1 hy
 rw [hX] at hrx
 rw [hY] at hry
 have hb:st.box id=.live (.row e sz l):=(hE.2 (id,B id) (by simp)).trans hB
 have hbox:=hT.boxes id _ hb
 generalize hvx:a.eval x=vx at hrx
 generalize hvy:a.eval y=vy at hry
 obtain ⟨e',he⟩:=TR ht
 have hy':vy=.slice none 0 0:=by
  generalize hn:AV.nilsl=n at hry
  cases hry<;>first | rfl | cases hn
 subst hy'
 have fin:∀ q:Bool,(q=true→l=[])→(execOp a.eval o).run P w=.ok (.value (.bool q)) w→o.wp P a w (fun a' w'=>Rel G (st.upd { rs:=rs,rb:=[(id,B id)],dst:=o.dst.map fun d=>(d,.nb l) }) a' w') (fun _ _ _=>False):=by
  intro q hq hrun
  refine uV hrun ?_
  refine hT.quiet (jQ w) rfl (by simp [Option.map_map,Function.comp_def]) ?_
  intro d av hE'
  obtain ⟨hlt,rfl⟩:=uE hd hE'
  exact ⟨by omega,.nb hq⟩
 cases hrx with
 | ownNil hTi =>
  have hnil:l=[]:=by
   rcases hbox with ⟨_,h⟩ | ⟨b,cap,C,hp,_⟩
   ·exact h
   ·rw [hTi] at hp;cases hp
  exact fin _ (fun _=>hnil) (pN ho hvx hvy (nM trivial) (Lib.run_eql_slice_nil w t e' _ _ _ _ _ he))
 | own hTi h1 h2=>exact fin _ (fun h=>by cases h) (pN ho hvx hvy (nM trivial) (Lib.run_eql_slice_nil w t e' _ _ _ _ _ he))
theorem zAA {P:Program} {N np:Nat} {o:Oper} {x:Operand} {t:TypeId} {rs:List (Nat×AV)}
  (ho:o.op=.call { callee:=.builtin .cap,args:=#[x],argTypes:=#[t] }) (hx:xD x=true) (ht:gL P t=true) (hX:xC rs x=.nilsl) (hd:uH N o.dst=true) :
  uN P N np o { rs:=rs,dst:=o.dst.map fun d=>(d,.int .i64 0) }:=by
 intro G st a w hN hnp hE ⟨T,hT⟩
 have hrx:=vP hT hE.1 hx
 rw [hX] at hrx
 generalize hvx:a.eval x=vx at hrx
 cases hrx with
 | nilsl =>
 obtain ⟨e,he,_⟩:=LH ht
 refine uV (v:=.int .i64 0) (w':=w) ?_ ?_
 ·simp [execOp,ho,resolve,invoke,builtin,hvx,Builtin.cap_,run_underlying he,goInt]
 ·refine hT.quiet (jQ w) rfl (by simp [Option.map_map,Function.comp_def]) ?_
  intro d av hE'
  obtain ⟨hlt,rfl⟩:=uE hd hE'
  exact ⟨by omega,.int rfl⟩
theorem zBG {P:Program} {N np:Nat} {o:Oper} {x y:Operand} {t:TypeId} {rs:List (Nat×AV)} {k:IntKind} {n:Int}
  (ho:o.op=.slice t x none (some y) none) (hx:xD x=true) (hy:xD y=true) (ht:gL P t=true) (hX:xC rs x=.nilsl) (hY:xC rs y=.int k n) (hn:n=0) (hd:uH N o.dst=true) :
  uN P N np o { rs:=rs,dst:=o.dst.map fun d=>(d,.nilsl) }:=by
 intro G st a w hN hnp hE ⟨T,hT⟩
 have hrx:=vP hT hE.1 hx
 have hry:=vP hT hE.1 hy
 rw [hX] at hrx
 rw [hY] at hry
 generalize hvx:a.eval x=vx at hrx
 generalize hvy:a.eval y=vy at hry
 cases hrx with
 | nilsl =>
 cases hry with
 | int wn =>
 obtain ⟨e,he,hk⟩:=LH ht
 subst hn
 refine uV (v:=.slice none 0 0) (w':=w) (nT ho (by rw [he];simp) (by rw [he];simp) ?_) ?_
 ·simp only [hvx,hvy,Instr.slice,Sem.run_bind,run_underlying he,Result.andThen_ok,Option.map_none,Option.map_some,Instr.sliceBounds,Sem.run_pure,jF hk]
  rw [aR (P:=P) (w:=w) (y:=0) rfl (Int.le_refl 0) (Int.le_refl 0)]
  simp only [Result.andThen_ok]
  rfl
 ·refine hT.quiet (jQ w) rfl (by simp [Option.map_map,Function.comp_def]) ?_
  intro d av hE'
  obtain ⟨hlt,rfl⟩:=uE hd hE'
  exact ⟨by omega,.nilsl⟩
theorem zCX {P:Program} {t t2 e:TypeId} {i:TypeInfo} {z:Value} {w:World} {ty:TypeId} (ht:fH P t e i z) {q:IntKind} (h2:P.underlying t2=some (.int q)) {k:IntKind} {n:Nat}
  (h0:0<n) (hb:n * q8 P e≤140737488355328) :
  (Builtin.append_ #[t,t2] ty #[.slice none 0 0,.int k (n:Int)]).run P w =
   .ok (.slice (some ⟨w.heap.size,0,none⟩) n (grownCap w n 0 e))
    (w.drew.alloc (.cells (Builtin.zeroCells z.cells n++Builtin.zeroCells z.cells (grownCap w n 0 e - n)) e)):=by
 have hm:=Nat.le_mul_of_pos_right n ht.bpos
 have hw:IntKind.i64.wrap (n:Int)=n:=by
  simp only [IntKind.wrap,IntKind.bits,IntKind.signed];simp;split<;>omega
 have h1:¬ ((n:Int)<0):=by omega
 have h3:¬ (281474976710656<(n:Int) * (i.bytes:Int)):=by rw [ht.bytes,← Int.natCast_mul];omega
 have h4:¬ (n=0):=by omega
 have h5:¬ (9223372036854775807:Int)<(n:Int):=by omega
 have h6:¬ (n * szT P e=0):=by have:=Nat.mul_pos h0 ht.pos;omega
 have hg:=growslice_fits (need:=n) (old:=0) (bytes:=q8 P e) (by omega) hb
 rw [← ht.bytes] at hg
 have h48':¬ (281474976710656<Builtin.nextslicecap n 0 * i.bytes):=by omega
 rw [← ht.size] at h6
 simp only [Builtin.append_,List.getElem?_toArray,List.getElem?_cons_zero,List.getElem?_cons_succ,Sem.run_bind,run_underlying ht.und,run_underlying h2,Result.andThen_ok,sizeOf,typeInfo,run_program,
  ht.info,Sem.run_pure,asInt,asIntOf]
 simp [h1,h3,h4,h5,h48',h6,hw,Question.forced,newRow,grownCap,zeroValue,typeInfo,ht.info,ht.zero,Builtin.firstCells]
theorem zC6 {P:Program} {t:TypeId} (h:EP P t=true):∃ q,P.underlying t=some (.int q):=by
 unfold EP at h
 split at h
 ·exact ⟨_,by assumption⟩
 ·cases h
theorem ZE {P:Program} {N np:Nat} {o:Oper} {x y:Operand} {t t2 e:TypeId} {rs:List (Nat×AV)} {k:IntKind} {n:Int} {id m:Nat}
  (ho:o.op=.call { callee:=.builtin .append,args:=#[x,y],argTypes:=#[t,t2] }) (hx:xD x=true) (hy:xD y=true) (ht2:EP P t2=true) (hrow:a8 P t=some e)
  (hX:xC rs x=.nilsl) (hY:xC rs y=.int k n) (hn:n=m) (h0:0<m) (hb:m * q8 P e≤140737488355328) (hd:uH N o.dst=true) :
  uN P N np o { rs:=rs,rb:=[(id,.unused)],dst:=o.dst.map fun d=>(d,.own id m),wb:=[(id,.live (.row e (szT P e) []))] }:=by
 intro G st a w hN hnp hE ⟨T,hT⟩
 have hrx:=vP hT hE.1 hx
 have hry:=vP hT hE.1 hy
 obtain ⟨i,z,ht⟩:=dW hrow
 obtain ⟨q,hq⟩:=zC6 ht2
 rw [hX] at hrx
 rw [hY] at hry
 generalize hvx:a.eval x=vx at hrx
 generalize hvy:a.eval y=vy at hry
 cases hrx with
 | nilsl =>
 cases hry with
 | int wn =>
 subst hn
 have hu:st.box id=.unused:=hE.2 (id,.unused) (by simp)
 have hm:=Nat.le_mul_of_pos_right m ht.bpos
 have hmax:m≤maxLen:=by rw [qC];omega
 have hge:=grownCap_ge w m 0 e
 have hcm:=grownCap_le_maxLen w m 0 e hmax
 have hrun:=zCX (P:=P) (w:=w) (ty:=o.type) ht hq (k:=k) h0 hb
 refine uV (v:=.slice (some ⟨w.heap.size,0,none⟩) m (grownCap w m 0 e)) (w':=w.drew.alloc (.cells (Builtin.zeroCells z.cells m++Builtin.zeroCells z.cells (grownCap w m 0 e - m)) e)) ?_ ?_
 ·simp [execOp,ho,resolve,invoke,builtin,hvx,hvy,hrun]
 ·refine hT.new (p:=.at w.heap.size (grownCap w m 0 e)) ⟨rfl,rfl,rfl,by simp,fun k hk _=>heap_alloc_old w.drew _ k hk⟩ rfl hu (by simp [Option.map_map,Function.comp_def]) (fun b c hp=>by injection hp with hp;omega) ?_ ?_
  ·refine .inr ⟨_,_,_,rfl,heap_alloc_new w.drew _,?_,by simp,hcm,by simp,by simp,fun i' av j c hi=>by simp at hi⟩
   rw [Array.size_append,size_zeroCells,size_zeroCells,ht.zsize,← Nat.add_mul]
   congr 1;omega
  ·intro d av hE'
   obtain ⟨hlt,rfl⟩:=uE hd hE'
   exact ⟨by omega,.own (Tbl.put_same _ _ _) hge hcm⟩
theorem W2 {P:Program} {N np:Nat} {o:Oper} {x y:Operand} {t:TypeId} {rs:List (Nat×AV)} {B:Nat→yB} {k:IntKind} {n:Int} {id m hm:Nat} {e sz:Nat} {l:List AV}
  (ho:o.op=.slice t x none (some y) none) (hx:xD x=true) (hy:xD y=true) (ht:gL P t=true) (hX:xC rs x=.own id m) (hY:xC rs y=.int k n)
  (hB:B id=.live (.row e sz l)) (hn:n=hm) (hle:hm≤m) (hd:uH N o.dst=true) :
  uN P N np o { rs:=rs,rb:=[(id,B id)],dst:=o.dst.map fun d=>(d,.own id hm),wb:=[(id,.live (.row e sz (l.take hm)))] }:=by
 intro G st a w hN hnp hE ⟨T,hT⟩
 have hrx:=vP hT hE.1 hx
 have hry:=vP hT hE.1 hy
 rw [hX] at hrx
 rw [hY] at hry
 have hb:st.box id=.live (.row e sz l):=(hE.2 (id,B id) (by simp)).trans hB
 generalize hvx:a.eval x=vx at hrx
 generalize hvy:a.eval y=vy at hry
 cases hry with
 | int wn =>
 obtain ⟨e',he,hk⟩:=LH ht
 subst hn
 have hboxes:=hT.boxes id _ hb
 have hrun:∀ (base:Option Addr) (cap:Nat),hm≤cap→(Instr.slice t (.slice base m cap) none (some (.int k (hm:Int))) none).run P w=.ok (.slice (if cap=0 then base else base.map (·.add 0)) hm cap) w:=by
  intro base cap hc
  simp only [Instr.slice,Sem.run_bind,run_underlying he,Result.andThen_ok,Instr.sliceBounds,Sem.run_pure,jF hk]
  rw [aR (P:=P) (w:=w) (y:=cap) rfl (by omega) (by omega)]
  simp only [Result.andThen_ok,Int.toNat_natCast,Nat.zero_mul,Nat.sub_zero]
 cases hrx with
 | ownNil hTi =>
  rename_i a0
  have h0:hm=0:=by omega
  subst h0
  refine uV (nT ho (by rw [he];simp) (by rw [he];simp) (by simp only [hvx,hvy,Option.map_none,Option.map_some];exact hrun a0 0 (Nat.le_refl _))) ?_
  have hnil:l=[]:=by
   rcases hboxes with ⟨_,h⟩ | ⟨b,cap,C,hp,_⟩
   ·exact h
   ·rw [hTi] at hp;cases hp
  subst hnil
  have hst:(st.upd { rs:=rs,rb:=[(id,B id)],dst:=o.dst.map fun d=>(d,.own id 0),wb:=[(id,.live (.row e sz (([]:List AV).take 0)))] }).box=st.box:=by
   funext i
   rw [cK]
   simp only [dQ,List.take_zero]
   by_cases hi:i=id
   ·rw [if_pos hi,hi,hb]
   ·rw [if_neg hi]
  refine hT.quiet (jQ w) hst (by simp [Option.map_map,Function.comp_def]) ?_
  intro d av hE'
  obtain ⟨hlt,rfl⟩:=uE hd hE'
  exact ⟨by omega,.ownNil hTi⟩
 | own hTi h1 h2 =>
  rename_i b cap
  refine uV (nT ho (by rw [he];simp) (by rw [he];simp) (by simp only [hvx,hvy,Option.map_none,Option.map_some];exact hrun _ cap (by omega))) ?_
  refine hT.write (bx':=.row e sz (l.take hm)) (b:=b) (cap:=cap) hb hTi ⟨rfl,rfl,rfl,Nat.le_refl _,fun _ _ _=>rfl⟩ rfl (by simp [Option.map_map,Function.comp_def]) ?_ ?_
  ·rcases hboxes with ⟨hp,h⟩ | ⟨b',cap',C,hp,hh,k1,k2,k3,k4,k5,k6⟩
   ·exact .inl ⟨hp,by rw [h];simp⟩
   ·refine .inr ⟨b',cap',C,hp,hh,k1,by rw [List.length_take];omega,k3,fun av hav=>k4 av (List.mem_of_mem_take hav),fun av hav=>k5 av (List.mem_of_mem_take hav),fun i av j c hi hj=>k6 i av j c ?_ hj⟩
    rw [List.getElem?_take] at hi
    split at hi
    ·exact hi
    ·cases hi
  ·intro d av hE'
   obtain ⟨hlt,rfl⟩:=uE hd hE'
   refine ⟨by omega,?_⟩
   have:(if cap=0 then some (⟨b,0,none⟩:Addr) else (some (⟨b,0,none⟩:Addr)).map (·.add 0))=some ⟨b,0,none⟩:=by
    split
    ·rfl
    ·simp [Addr.add]
   rw [this]
   exact .own hTi (by omega) h2
theorem YY {P:Program} {N np:Nat} {o:Oper} {rs:List (Nat×AV)} {st:AS} {hn:xN} {r:List Prop×Eff} (h:xop P o rs st.box hn=some r) (hr:∀ x∈rs,st.slot x.1=x.2)
  (hv:∀ p∈r.1,p) (hd:uH N o.dst=true):r.2.holds st∧uN P N np o r.2:=by
 unfold xop at h
 split at h
 ·rename_i b args ts ho
  split at h
  ·rename_i x t ha ht
   rw [rT ha,rT ht] at ho
   replace h:=xK h;obtain ⟨hu,h⟩:=h
   simp only [zba] at hu
   split at h
   ·rename_i hX
    injection h with h;subst h
    exact ⟨⟨hr,fun x hx=>by simp at hx⟩,zAA ho hu.1 hu.2 hX hd⟩
   ·cases h
  ·rename_i x y t t2 ha ht
   rw [nQ ha,nQ ht] at ho
   replace h:=xK h;obtain ⟨hu,h⟩:=h
   simp only [zba] at hu
   split at h
   ·rename_i k n e hX hY hrow
    injection h with h;subst h
    exact ⟨⟨hr,fun x hx=>by simp at hx;subst hx;exact nX hu.2.1⟩,ZE ho hu.1.1 hu.1.2 hu.2.2 hrow hX hY (hv _ (by simp)) (hv _ (by simp)) (hv _ (by simp)) hd⟩
   ·cases h
  ·cases h
 ·rename_i t x y ho
  replace h:=xK h;obtain ⟨hu,h⟩:=h
  simp only [zba] at hu
  split at h
  ·rename_i k n hX hY
   injection h with h;subst h
   exact ⟨⟨hr,fun x hx=>by simp at hx⟩,zBG ho hu.1.1 hu.1.2 hu.2 hX hY (hv _ (by simp)) hd⟩
  ·rename_i id m k n hX hY
   split at h
   ·rename_i e sz l hB
    injection h with h;subst h
    have e1:hn.l=l.take hn.n:=hv _ (by simp)
    refine ⟨⟨hr,fun x hx=>by simp at hx;subst hx;rfl⟩,?_⟩
    simp only [e1]
    exact W2 ho hu.1.1 hu.1.2 hu.2 hX hY hB (hv _ (by simp)) (hv _ (by simp)) hd
   ·cases h
  ·cases h
 ·rename_i t x y t2 ho
  replace h:=xK h;obtain ⟨hu,h⟩:=h
  simp only [zba] at hu
  split at h
  ·rename_i id n hX hY
   split at h
   ·rename_i e sz l hB
    injection h with h;subst h
    exact ⟨⟨hr,fun x hx=>by simp at hx;subst hx;rfl⟩,zAW ho hu.1.1 hu.1.2 hu.2 hX hY hB hd⟩
   ·cases h
  ·cases h
 ·cases h
end Go.Ab
