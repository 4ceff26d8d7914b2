/- Operations that read memory or take values apart. -/
import Derived.Test.YtbifmbdcejggkaaA3
namespace Go.Ab
open Go

def wD (P:Program) (t:TypeId):Bool:=match P.underlying t with | some (.struct _)=>true | some (.array _ _)=>true | _=>false
def wL (P:Program) (t:TypeId):Bool:=(P.underlying t).isSome&&(P.info? t).isSome
def szT (P:Program) (t:TypeId):Nat:=match P.info? t with | some i=>i.size | none=>0

theorem zB9 {P:Program} {t:TypeId} (h:wL P t=true) (w:World):(isAgg t).run P w=.ok (wD P t) w:=by
  simp only [wL,Bool.and_eq_true,Option.isSome_iff_exists] at h
  obtain ⟨⟨d,hd⟩,_⟩:=h
  simp only [isAgg,Sem.run_bind,run_underlying hd,Result.andThen_ok,wD,hd]
  cases d<;>rfl

theorem w8 {P:Program} {t:TypeId} (h:wL P t=true) (w:World):(sizeOf t).run P w=.ok (szT P t) w:=by
  simp only [wL,Bool.and_eq_true,Option.isSome_iff_exists] at h
  obtain ⟨_,⟨i,hi⟩⟩:=h
  simp [sizeOf,typeInfo,hi,szT]

/-- A part of a value: 'n' cells from 'off' on. -/
def nE (P:Program) (t:TypeId) (cs:List AV) (off:Nat):Option AV :=
  bif wD P t then
    bif Nat.ble (off+szT P t) cs.length then some (.agg ((cs.drop off).take (szT P t))) else none
  else cs[off]?

theorem jE {P:Program} {t:TypeId} {cs:List AV} {off:Nat} {av:AV} (h:nE P t cs off=some av) (h1:∀ c∈cs,c.one=true) :
    (wD P t=true→av=.agg av.cells∧av.cells.length=szT P t)∧(wD P t=false→av.cells=[av])∧(∀ j c,av.cells[j]?=some c→cs[off+j]?=some c)∧(∀ c∈av.cells,c.one=true):=by
  unfold nE at h
  cases ha:wD P t
  · rw [ha] at h
    simp only [cond_false] at h
    have hm:=List.mem_of_getElem? h
    have h1':=h1 _ hm
    have hc:av.cells=[av]:=by cases av<;>simp_all [AV.one,AV.cells]
    refine ⟨by simp,fun _=>hc,?_,?_⟩
    · intro j c hj
      rw [hc] at hj
      cases j with
      | zero=>simp at hj;subst hj;simpa using h
      | succ j=>simp at hj
    · rw [hc];simpa using h1'
  · rw [ha] at h
    simp only [cond_true] at h
    cases hb:Nat.ble (off+szT P t) cs.length
    · rw [hb] at h;cases h
    · rw [hb] at h
      injection h with h
      subst h
      have hle:=Nat.le_of_ble_eq_true hb
      refine ⟨fun _=>⟨rfl,by simp [AV.cells];omega⟩,by simp,?_,?_⟩
      · intro j c hj
        simp only [AV.cells,List.getElem?_take,List.getElem?_drop] at hj
        split at hj
        · exact hj
        · cases hj
      · intro c hc
        exact h1 c (List.mem_of_mem_drop (List.mem_of_mem_take hc))

/-- Reading cells out of memory. -/
theorem zAU {P:Program} {t:TypeId} {w:World} {b off:Nat} {av:AV} {g:Nat→Value} (hk:wL P t=true)
    (ha:wD P t=true→av=.agg av.cells∧av.cells.length=szT P t) (hn:wD P t=false→av.cells=[av])
    (hc:∀ j c,av.cells[j]?=some c→w.cell? ⟨b,off+j,none⟩=some (g j)) {I:Nat→Prop} {T:Tbl}
    (h1:∀ c∈av.cells,c.one=true)
    (hr:∀ j c,av.cells[j]?=some c→Rep w I T (g j) c):∃ v,(loadVar t ⟨b,off,none⟩).run P w=.ok v w∧Rep w I T v av:=by
  have hadd:∀ j,(⟨b,off,none⟩:Addr).add j=⟨b,off+j,none⟩:=fun j=>by unfold Addr.add;split<;>simp_all
  cases hA:wD P t
  · have hcs:=hn hA
    have h0:=hc 0 av (by rw [hcs];rfl)
    refine ⟨g 0,?_,hr 0 av (by rw [hcs];rfl)⟩
    have h0':w.cell? ⟨b,off,none⟩=some (g 0):=by simpa using h0
    simp only [loadVar,Sem.run_bind,zB9 hk,Result.andThen_ok,hA]
    simp [run_load,h0']
  · obtain ⟨hav,hl⟩:=ha hA
    have hload:=run_loadCells (P:=P) w ⟨b,off,none⟩ (szT P t) g (fun j hj=>by
      rw [hadd]
      have:j<av.cells.length:=by omega
      exact hc j av.cells[j] (List.getElem?_eq_getElem this))
    refine ⟨.agg ((List.range (szT P t)).map g).toArray,?_,?_⟩
    · simp only [loadVar,Sem.run_bind,zB9 hk,w8 hk,Result.andThen_ok,hA,if_true,hload]
      rfl
    · rw [hav]
      refine .agg (by simp [hl]) (by simpa [AV.cells] using h1) ?_
      intro j c hj
      have hlt:j<szT P t:=by
        rcases Nat.lt_or_ge j (szT P t) with h | h
        · exact h
        · rw [List.getElem?_eq_none (by rw [hl];exact h)] at hj;cases hj
      have:(((List.range (szT P t)).map g).toArray).getD j undef=g j:=by
        simp [Array.getD_eq_getD_getElem?,hlt]
      rw [this]
      exact hr j c hj

/-- A field of a place. -/
def zCD (P:Program) (s:TypeId) (f:Nat):Option Field :=
  match P.underlying s with
  | some (.struct fs)=>fs[f]?
  | _=>none

def zDa (P:Program) (s:TypeId) (x:AV) (f:Nat):Option (List Prop×AV) :=
  match zCD P s f with
  | none=>none
  | some fd =>
    bif wL P fd.type&&!(Nat.beq (szT P fd.type) 0) then
      match x with
      | .ref (.agg cs)=>match nE P fd.type cs fd.offset with
        | some av=>some ([],.ref av)
        | none=>none
      | .ptr id sz i off=>some ([],.ptr id sz i (off+fd.offset))
      | _=>none
    else none

theorem zEk {P:Program} {s:TypeId} {f:Nat} {fd:Field} {b off:Nat} {w:World} (hf:zCD P s f=some fd) (hk:wL P fd.type=true) (hz:szT P fd.type≠0) :
    (Instr.fieldAt s (.pointer (some ⟨b,off,none⟩)) f).run P w=.ok (.pointer (some ⟨b,off+fd.offset,none⟩)) w:=by
  unfold zCD at hf
  split at hf
  · rename_i fs hu
    have hadd:(⟨b,off,none⟩:Addr).add fd.offset=⟨b,off+fd.offset,none⟩:=by unfold Addr.add;split<;>simp_all
    simp only [Instr.fieldAt,Sem.run_bind,run_underlying hu,Result.andThen_ok,hf,Instr.sureAddr,Sem.run_pure,fieldPlace,w8 hk,if_neg hz,hadd]
  · cases hf

theorem zEV {P:Program} {s:TypeId} {x:Operand} {f:Nat} {ρ:Operand→Value} {o:Oper} {w:World} {I:Nat→Prop} {T:Tbl} {X:AV} {r:List Prop×AV}
    (ho:o.op=.fieldAddr s x f) (hx:Rep w I T (ρ x) X) (h:zDa P s X f=some r):jY P ρ o w I T r.2:=by
  unfold zDa at h
  split at h
  · cases h
  rename_i fd hf
  cases hc:(wL P fd.type&&!(Nat.beq (szT P fd.type) 0))
  · rw [hc] at h;cases h
  rw [hc] at h
  simp only [Bool.and_eq_true,Bool.not_eq_true'] at hc
  have hz:szT P fd.type≠0:=fun e=>by rw [e] at hc;simp at hc
  simp only [cond_true] at h
  generalize hX:ρ x=vx at hx
  split at h
  · rename_i cs
    cases hx with
    | ref g hI hb h1 h2 h3 =>
    rename_i b off
    split at h
    · rename_i av hav
      injection h with h;subst h
      obtain ⟨_,_,hsub,hone⟩:=jE hav h1
      refine .same (v:=.pointer (some ⟨b,off+fd.offset,none⟩)) ?_ (.ref (fun j=>g (fd.offset+j)) hI hb hone ?_ ?_)
      · simp only [execOp,ho,hX,Sem.run_bind,zEk hf hc.1 hz,Result.andThen_ok];rfl
      · intro j c hj
        rw [Nat.add_assoc]
        exact h2 _ _ (hsub j c hj)
      · intro j c hj
        exact h3 _ _ (hsub j c hj)
    · cases h
  · injection h with h;subst h
    cases hx with
    | ptr hT ho' =>
    rename_i o' b' c'
    refine .same (v:=.pointer (some ⟨b',o'+fd.offset,none⟩)) ?_ (.ptr hT (by omega))
    simp only [execOp,ho,hX,Sem.run_bind,zEk hf hc.1 hz,Result.andThen_ok];rfl
  · cases h

/-- A field of a value. -/
theorem zIw {P:Program} {t:TypeId} {w:World} {cs:List AV} {vs:Array Value} {off:Nat} {av:AV} {I:Nat→Prop} {T:Tbl} (hk:wL P t=true)
    (h1:∀ c∈cs,c.one=true) (hs:vs.size=cs.length) (hr:∀ j c,cs[j]?=some c→Rep w I T (vs.getD j undef) c) (h:nE P t cs off=some av) :
    ∃ v,(part t vs off).run P w=.ok v w∧Rep w I T v av:=by
  obtain ⟨ha,hn,hsub,hone⟩:=jE h h1
  cases hA:wD P t
  · have hcs:=hn hA
    have h0:=hsub 0 av (by rw [hcs];rfl)
    simp only [Nat.add_zero] at h0
    have hlt:off<vs.size:=by
      rcases Nat.lt_or_ge off vs.size with h' | h'
      · exact h'
      · rw [List.getElem?_eq_none (by omega)] at h0;cases h0
    refine ⟨vs[off],?_,?_⟩
    · simp only [part,Sem.run_bind,zB9 hk,Result.andThen_ok,hA]
      simp [hlt]
    · have:=hr _ _ h0
      simpa [Array.getD_eq_getD_getElem?,hlt] using this
  · obtain ⟨hav,hl⟩:=ha hA
    have hle:off+szT P t≤vs.size:=by
      unfold nE at h
      rw [hA] at h
      simp only [cond_true] at h
      cases hb:Nat.ble (off+szT P t) cs.length
      · rw [hb] at h;cases h
      · have:=Nat.le_of_ble_eq_true hb;omega
    refine ⟨.agg (vs.extract off (off+szT P t)),?_,?_⟩
    · simp only [part,Sem.run_bind,zB9 hk,w8 hk,Result.andThen_ok,hA,if_true]
      rfl
    · rw [hav]
      refine .agg (by simp [hl];omega) (by simpa [AV.cells] using hone) ?_
      intro j c hj
      have hlt:j<szT P t:=by
        rcases Nat.lt_or_ge j (szT P t) with h | h
        · exact h
        · rw [List.getElem?_eq_none (by rw [hl];exact h)] at hj;cases hj
      have e:(vs.extract off (off+szT P t)).getD j undef=vs.getD (off+j) undef:=by
        simp only [Array.getD_eq_getD_getElem?,Array.getElem?_extract]
        rw [if_pos (by omega)]
      rw [e]
      exact hr _ _ (hsub j c hj)

def zH7 (P:Program) (s:TypeId) (x:AV) (f:Nat):Option (List Prop×AV) :=
  match zCD P s f with
  | none=>none
  | some fd =>
    bif wL P fd.type then
      match x with
      | .agg cs=>match nE P fd.type cs fd.offset with
        | some av=>some ([],av)
        | none=>none
      | _=>none
    else none

theorem zHV {P:Program} {s:TypeId} {x:Operand} {f:Nat} {ρ:Operand→Value} {o:Oper} {w:World} {I:Nat→Prop} {T:Tbl} {X:AV} {r:List Prop×AV}
    (ho:o.op=.field s x f) (hx:Rep w I T (ρ x) X) (h:zH7 P s X f=some r):jY P ρ o w I T r.2:=by
  unfold zH7 at h
  split at h
  · cases h
  rename_i fd hf
  cases hc:wL P fd.type
  · rw [hc] at h;cases h
  rw [hc] at h
  simp only [cond_true] at h
  generalize hX:ρ x=vx at hx
  split at h
  · rename_i cs
    cases hx with
    | agg hs h1 h2 =>
    rename_i vs
    split at h
    · rename_i av hav
      injection h with h;subst h
      obtain ⟨v,hrun,hrep⟩:=zIw hc h1 hs h2 hav
      refine .same (v:=v) ?_ hrep
      unfold zCD at hf
      split at hf
      · rename_i fs hu
        simp only [execOp,ho,hX,Instr.field,Sem.run_bind,run_underlying hu,Result.andThen_ok,hf,asAgg,Sem.run_pure,hrun]
      · cases hf
    · cases h
  · cases h

/-- A load from memory that does not turn. -/
def zJ5 (P:Program) (t:TypeId) (x:AV):Option (List Prop×AV) :=
  match x with
  | .ref av =>
    bif wL P t then
      bif wD P t then
        match av with
        | .agg cs=>bif Nat.beq cs.length (szT P t) then some ([],.agg cs) else none
        | _=>none
      else
        match av with
        | .agg _=>none
        | av=>some ([],av)
    else none
  | _=>none

theorem zI8 {P:Program} {t:TypeId} {x:Operand} {ρ:Operand→Value} {o:Oper} {w:World} {I:Nat→Prop} {T:Tbl} {X:AV} {r:List Prop×AV}
    (ho:o.op=.load t x) (hx:Rep w I T (ρ x) X) (h:zJ5 P t X=some r):jY P ρ o w I T r.2:=by
  unfold zJ5 at h
  generalize hX:ρ x=vx at hx
  split at h
  · rename_i av
    cases hk:wL P t
    · rw [hk] at h;cases h
    rw [hk] at h
    simp only [cond_true] at h
    cases hx with
    | ref g hI hb h1 h2 h3 =>
    rename_i b off
    have key:∀ {av':AV},av'=av→(wD P t=true→av=.agg av.cells∧av.cells.length=szT P t)→(wD P t=false→av.cells=[av])→jY P ρ o w I T av':=by
      intro av' e ha hn
      subst e
      obtain ⟨v,hrun,hrep⟩:=zAU hk ha hn h2 h1 (fun j c hj=>(h3 j c hj).mono (Nat.le_refl _) (fun _ _ _=>rfl) (fun _ h _=>h) (T':=T) (fun i p hp=>by simp [Tbl.empty] at hp))
      refine .same (v:=v) ?_ hrep
      simp only [execOp,ho,hX,Instr.loadAt,Instr.sureAddr,Sem.run_bind,Sem.run_pure,Result.andThen_ok,hrun]
    cases hA:wD P t
    · rw [hA] at h
      simp only [cond_false] at h
      split at h
      · cases h
      · rename_i hna
        injection h with h;subst h
        refine key rfl (by rw [hA];simp) (fun _=>?_)
        cases av<;>first | rfl | exact (hna _ rfl).elim
    · rw [hA] at h
      simp only [cond_true] at h
      split at h
      · rename_i cs
        cases hb:Nat.beq cs.length (szT P t)
        · rw [hb] at h;cases h
        · rw [hb] at h
          injection h with h;subst h
          exact key rfl (fun _=>⟨rfl,xO.1 hb⟩) (by rw [hA];simp)
      · cases h
  · cases h
end Go.Ab
