/- A layer over the model: abstract values and states, and the rules by which the printed proofs go. No conditions. -/
import Derived.Test.YtoeengmnmhhpgaaGreatA3
/- Operations that read memory or take values apart. -/
namespace Go.Ab
open Go

def wR (P:Program) (t:TypeId):Bool:=match P.underlying t with | some (.struct _)=>true | some (.array _ _)=>true | _=>false
def wZ (P:Program) (t:TypeId):Bool:=(P.underlying t).isSome&&(P.info? t).isSome
def szT (P:Program) (t:TypeId):Nat:=match P.info? t with | some i=>i.size | none=>0

theorem oG {P:Program} {t:TypeId} (h:wZ P t=true) (w:World):(isAgg t).run P w=.ok (wR P t) w:=by
  simp only [wZ,Bool.and_eq_true,Option.isSome_iff_exists] at h
  obtain ⟨⟨d,hd⟩,_⟩:=h
  simp only [isAgg,Sem.run_bind,run_underlying hd,Result.andThen_ok,wR,hd]
  cases d<;>rfl

theorem u5 {P:Program} {t:TypeId} (h:wZ P t=true) (w:World):(sizeOf t).run P w=.ok (szT P t) w:=by
  simp only [wZ,Bool.and_eq_true,Option.isSome_iff_exists] at h
  obtain ⟨_,⟨i,hi⟩⟩:=h
  simp [sizeOf,typeInfo,hi,szT]

/-- A part of a value: 'n' cells from 'off' on. -/
def j4 (P:Program) (t:TypeId) (cs:List AV) (off:Nat):Option AV :=
  bif wR P t then
    bif Nat.ble (off+szT P t) cs.length then some (.agg ((cs.drop off).take (szT P t))) else none
  else cs[off]?

theorem b5 {P:Program} {t:TypeId} {cs:List AV} {off:Nat} {av:AV} (h:j4 P t cs off=some av) (h1:∀ c∈cs,c.one=true) :
    (wR P t=true→av=.agg av.cells∧av.cells.length=szT P t)∧(wR P t=false→av.cells=[av])∧(∀ j c,av.cells[j]?=some c→cs[off+j]?=some c)∧(∀ c∈av.cells,c.one=true):=by
  unfold j4 at h
  cases ha:wR P t
  · rw [ha] at h
    simp only [cond_false] at h
    have hm:=List.mem_of_getElem? h
    have h1':=h1 _ hm
    have hc:av.cells=[av]:=by cases av<;>simp_all [AV.one,AV.cells]
    refine ⟨by simp,fun _=>hc,?_,?_⟩
    · intro j c hj
      rw [hc] at hj
      cases j with
      | zero=>simp at hj;subst hj;simpa using h
      | succ j=>simp at hj
    · rw [hc];simpa using h1'
  · rw [ha] at h
    simp only [cond_true] at h
    cases hb:Nat.ble (off+szT P t) cs.length
    · rw [hb] at h;cases h
    · rw [hb] at h
      injection h with h
      subst h
      have hle:=zle hb
      refine ⟨fun _=>⟨rfl,by simp [AV.cells];omega⟩,by simp,?_,?_⟩
      · intro j c hj
        simp only [AV.cells,List.getElem?_take,List.getElem?_drop] at hj
        split at hj
        · exact hj
        · cases hj
      · intro c hc
        exact h1 c (List.mem_of_mem_drop (List.mem_of_mem_take hc))

/-- Reading cells out of memory. -/
theorem DD {P:Program} {t:TypeId} {w:World} {b off:Nat} {av:AV} {g:Nat→Value} (hk:wZ P t=true)
    (ha:wR P t=true→av=.agg av.cells∧av.cells.length=szT P t) (hn:wR P t=false→av.cells=[av])
    (hc:∀ j c,av.cells[j]?=some c→w.cell? ⟨b,off+j,none⟩=some (g j)) {I:Nat→Prop} {T:Tbl}
    (h1:∀ c∈av.cells,c.one=true)
    (hr:∀ j c,av.cells[j]?=some c→Rep w I T (g j) c):∃ v,(loadVar t ⟨b,off,none⟩).run P w=.ok v w∧Rep w I T v av:=by
  have hadd:∀ j,(⟨b,off,none⟩:Addr).add j=⟨b,off+j,none⟩:=fun j=>by unfold Addr.add;split<;>simp_all
  cases hA:wR P t
  · have hcs:=hn hA
    have h0:=hc 0 av (by rw [hcs];rfl)
    refine ⟨g 0,?_,hr 0 av (by rw [hcs];rfl)⟩
    have h0':w.cell? ⟨b,off,none⟩=some (g 0):=by simpa using h0
    simp only [loadVar,Sem.run_bind,oG hk,Result.andThen_ok,hA]
    simp [run_load,h0']
  · obtain ⟨hav,hl⟩:=ha hA
    have hload:=run_loadCells (P:=P) w ⟨b,off,none⟩ (szT P t) g (fun j hj=>by
      rw [hadd]
      have:j<av.cells.length:=by omega
      exact hc j av.cells[j] (List.getElem?_eq_getElem this))
    refine ⟨.agg ((List.range (szT P t)).map g).toArray,?_,?_⟩
    · simp only [loadVar,Sem.run_bind,oG hk,u5 hk,Result.andThen_ok,hA,if_true,hload]
      rfl
    · rw [hav]
      refine .agg (by simp [hl]) (by simpa [AV.cells] using h1) ?_
      intro j c hj
      have hlt:j<szT P t:=by
        rcases Nat.lt_or_ge j (szT P t) with h | h
        · exact h
        · rw [List.getElem?_eq_none (by rw [hl];exact h)] at hj;cases hj
      have:(((List.range (szT P t)).map g).toArray).getD j undef=g j:=by
        simp [Array.getD_eq_getD_getElem?,hlt]
      rw [this]
      exact hr j c hj

/-- A field of a place. -/
def fM (P:Program) (s:TypeId) (f:Nat):Option Field :=
  match P.underlying s with
  | some (.struct fs)=>fs[f]?
  | _=>none

def GR (P:Program) (s:TypeId) (x:AV) (f:Nat):Option (List Prop×AV) :=
  match fM P s f with
  | none=>none
  | some fd =>
    bif wZ P fd.type&&!(Nat.beq (szT P fd.type) 0) then
      match x with
      | .ref (.agg cs)=>match j4 P fd.type cs fd.offset with
        | some av=>some ([],.ref av)
        | none=>none
      | .ptr id sz i off=>some ([],.ptr id sz i (off+fd.offset))
      | _=>none
    else none

theorem K4 {P:Program} {s:TypeId} {f:Nat} {fd:Field} {b off:Nat} {w:World} (hf:fM P s f=some fd) (hk:wZ P fd.type=true) (hz:szT P fd.type≠0) :
    (Instr.fieldAt s (.pointer (some ⟨b,off,none⟩)) f).run P w=.ok (.pointer (some ⟨b,off+fd.offset,none⟩)) w:=by
  unfold fM at hf
  split at hf
  · rename_i fs hu
    have hadd:(⟨b,off,none⟩:Addr).add fd.offset=⟨b,off+fd.offset,none⟩:=by unfold Addr.add;split<;>simp_all
    simp only [Instr.fieldAt,Sem.run_bind,run_underlying hu,Result.andThen_ok,hf,Instr.sureAddr,Sem.run_pure,fieldPlace,u5 hk,if_neg hz,hadd]
  · cases hf

theorem W6 {P:Program} {s:TypeId} {x:Operand} {f:Nat} {ρ:Operand→Value} {o:Oper} {w:World} {I:Nat→Prop} {T:Tbl} {X:AV} {r:List Prop×AV}
    (ho:o.op=.fieldAddr s x f) (hx:Rep w I T (ρ x) X) (h:GR P s X f=some r):u4 P ρ o w I T r.2:=by
  unfold GR at h
  split at h
  · cases h
  rename_i fd hf
  cases hc:(wZ P fd.type&&!(Nat.beq (szT P fd.type) 0))
  · rw [hc] at h;cases h
  rw [hc] at h
  simp only [Bool.and_eq_true,Bool.not_eq_true'] at hc
  have hz:szT P fd.type≠0:=fun e=>by rw [e] at hc;simp at hc
  simp only [cond_true] at h
  generalize hX:ρ x=vx at hx
  split at h
  · rename_i cs
    cases hx with
    | ref g hI hb h1 h2 h3 =>
    rename_i b off
    split at h
    · rename_i av hav
      injection h with h;subst h
      obtain ⟨_,_,hsub,hone⟩:=b5 hav h1
      refine .same (v:=.pointer (some ⟨b,off+fd.offset,none⟩)) ?_ (.ref (fun j=>g (fd.offset+j)) hI hb hone ?_ ?_)
      · simp only [execOp,ho,hX,Sem.run_bind,K4 hf hc.1 hz,Result.andThen_ok];rfl
      · intro j c hj
        rw [Nat.add_assoc]
        exact h2 _ _ (hsub j c hj)
      · intro j c hj
        exact h3 _ _ (hsub j c hj)
    · cases h
  · injection h with h;subst h
    cases hx with
    | ptr hT ho' =>
    rename_i o' b' c'
    refine .same (v:=.pointer (some ⟨b',o'+fd.offset,none⟩)) ?_ (.ptr hT (by omega))
    simp only [execOp,ho,hX,Sem.run_bind,K4 hf hc.1 hz,Result.andThen_ok];rfl
  · cases h

/-- A field of a value. -/
theorem JA {P:Program} {t:TypeId} {w:World} {cs:List AV} {vs:Array Value} {off:Nat} {av:AV} {I:Nat→Prop} {T:Tbl} (hk:wZ P t=true)
    (h1:∀ c∈cs,c.one=true) (hs:vs.size=cs.length) (hr:∀ j c,cs[j]?=some c→Rep w I T (vs.getD j undef) c) (h:j4 P t cs off=some av) :
    ∃ v,(part t vs off).run P w=.ok v w∧Rep w I T v av:=by
  obtain ⟨ha,hn,hsub,hone⟩:=b5 h h1
  cases hA:wR P t
  · have hcs:=hn hA
    have h0:=hsub 0 av (by rw [hcs];rfl)
    simp only [Nat.add_zero] at h0
    have hlt:off<vs.size:=by
      rcases Nat.lt_or_ge off vs.size with h' | h'
      · exact h'
      · rw [List.getElem?_eq_none (by omega)] at h0;cases h0
    refine ⟨vs[off],?_,?_⟩
    · simp only [part,Sem.run_bind,oG hk,Result.andThen_ok,hA]
      simp [hlt]
    · have:=hr _ _ h0
      simpa [Array.getD_eq_getD_getElem?,hlt] using this
  · obtain ⟨hav,hl⟩:=ha hA
    have hle:off+szT P t≤vs.size:=by
      unfold j4 at h
      rw [hA] at h
      simp only [cond_true] at h
      cases hb:Nat.ble (off+szT P t) cs.length
      · rw [hb] at h;cases h
      · have:=zle hb;omega
    refine ⟨.agg (vs.extract off (off+szT P t)),?_,?_⟩
    · simp only [part,Sem.run_bind,oG hk,u5 hk,Result.andThen_ok,hA,if_true]
      rfl
    · rw [hav]
      refine .agg (by simp [hl];omega) (by simpa [AV.cells] using hone) ?_
      intro j c hj
      have hlt:j<szT P t:=by
        rcases Nat.lt_or_ge j (szT P t) with h | h
        · exact h
        · rw [List.getElem?_eq_none (by rw [hl];exact h)] at hj;cases hj
      have e:(vs.extract off (off+szT P t)).getD j undef=vs.getD (off+j) undef:=by
        simp only [Array.getD_eq_getD_getElem?,Array.getElem?_extract]
        rw [if_pos (by omega)]
      rw [e]
      exact hr _ _ (hsub j c hj)

def GW (P:Program) (s:TypeId) (x:AV) (f:Nat):Option (List Prop×AV) :=
  match fM P s f with
  | none=>none
  | some fd =>
    bif wZ P fd.type then
      match x with
      | .agg cs=>match j4 P fd.type cs fd.offset with
        | some av=>some ([],av)
        | none=>none
      | _=>none
    else none

theorem WT {P:Program} {s:TypeId} {x:Operand} {f:Nat} {ρ:Operand→Value} {o:Oper} {w:World} {I:Nat→Prop} {T:Tbl} {X:AV} {r:List Prop×AV}
    (ho:o.op=.field s x f) (hx:Rep w I T (ρ x) X) (h:GW P s X f=some r):u4 P ρ o w I T r.2:=by
  unfold GW at h
  split at h
  · cases h
  rename_i fd hf
  cases hc:wZ P fd.type
  · rw [hc] at h;cases h
  rw [hc] at h
  simp only [cond_true] at h
  generalize hX:ρ x=vx at hx
  split at h
  · rename_i cs
    cases hx with
    | agg hs h1 h2 =>
    rename_i vs
    split at h
    · rename_i av hav
      injection h with h;subst h
      obtain ⟨v,hrun,hrep⟩:=JA hc h1 hs h2 hav
      refine .same (v:=v) ?_ hrep
      unfold fM at hf
      split at hf
      · rename_i fs hu
        simp only [execOp,ho,hX,Instr.field,Sem.run_bind,run_underlying hu,Result.andThen_ok,hf,asAgg,Sem.run_pure,hrun]
      · cases hf
    · cases h
  · cases h

/-- A load from memory that does not turn. -/
def DC (P:Program) (t:TypeId) (x:AV):Option (List Prop×AV) :=
  match x with
  | .ref av =>
    bif wZ P t then
      bif wR P t then
        match av with
        | .agg cs=>bif Nat.beq cs.length (szT P t) then some ([],.agg cs) else none
        | _=>none
      else
        match av with
        | .agg _=>none
        | av=>some ([],av)
    else none
  | _=>none

theorem OV {P:Program} {t:TypeId} {x:Operand} {ρ:Operand→Value} {o:Oper} {w:World} {I:Nat→Prop} {T:Tbl} {X:AV} {r:List Prop×AV}
    (ho:o.op=.load t x) (hx:Rep w I T (ρ x) X) (h:DC P t X=some r):u4 P ρ o w I T r.2:=by
  unfold DC at h
  generalize hX:ρ x=vx at hx
  split at h
  · rename_i av
    cases hk:wZ P t
    · rw [hk] at h;cases h
    rw [hk] at h
    simp only [cond_true] at h
    cases hx with
    | ref g hI hb h1 h2 h3 =>
    rename_i b off
    have key:∀ {av':AV},av'=av→(wR P t=true→av=.agg av.cells∧av.cells.length=szT P t)→(wR P t=false→av.cells=[av])→u4 P ρ o w I T av':=by
      intro av' e ha hn
      subst e
      obtain ⟨v,hrun,hrep⟩:=DD hk ha hn h2 h1 (fun j c hj=>(h3 j c hj).mono (Nat.le_refl _) (fun _ _ _=>rfl) (fun _ h _=>h) (T':=T) (fun i p hp=>by simp [Tbl.empty] at hp))
      refine .same (v:=v) ?_ hrep
      simp only [execOp,ho,hX,Instr.loadAt,Instr.sureAddr,Sem.run_bind,Sem.run_pure,Result.andThen_ok,hrun]
    cases hA:wR P t
    · rw [hA] at h
      simp only [cond_false] at h
      split at h
      · cases h
      · rename_i hna
        injection h with h;subst h
        refine key rfl (by rw [hA];simp) (fun _=>?_)
        cases av<;>first | rfl | exact (hna _ rfl).elim
    · rw [hA] at h
      simp only [cond_true] at h
      split at h
      · rename_i cs
        cases hb:Nat.beq cs.length (szT P t)
        · rw [hb] at h;cases h
        · rw [hb] at h
          injection h with h;subst h
          exact key rfl (fun _=>⟨rfl,xP.1 hb⟩) (by rw [hA];simp)
      · cases h
  · cases h
end Go.Ab

/- Places in slices and arrays, parts of slices and strings, lengths. -/
namespace Go.Ab
open Go

def kR (l:List AV) (i:Int):Option AV:=if 0≤i then l[i.toNat]? else none
def i7 (l:List Int) (i:Int):Option Int:=if 0≤i then l[i.toNat]? else none

theorem M9 {l:List AV} {i:Int} {av:AV} (h:kR l i=some av):0≤i∧i<l.length∧l[i.toNat]?=some av:=by
  unfold kR at h
  split at h
  · rename_i h0
    have:i.toNat<l.length:=by
      rcases Nat.lt_or_ge i.toNat l.length with h' | h'
      · exact h'
      · rw [List.getElem?_eq_none h'] at h;cases h
    exact ⟨h0,by omega,h⟩
  · cases h

theorem VP {l:List Int} {i:Int} {c:Int} (h:i7 l i=some c):0≤i∧i<l.length∧l[i.toNat]?=some c:=by
  unfold i7 at h
  split at h
  · rename_i h0
    have:i.toNat<l.length:=by
      rcases Nat.lt_or_ge i.toNat l.length with h' | h'
      · exact h'
      · rw [List.getElem?_eq_none h'] at h;cases h
    exact ⟨h0,by omega,h⟩
  · cases h

theorem jR (b off j:Nat):(⟨b,off,none⟩:Addr).add j=⟨b,off+j,none⟩:=by unfold Addr.add;split<;>simp_all

def ED (P:Program) (t:TypeId) (x ix:AV) (h:xC):Option (List Prop×AV) :=
  match ix with
  | .int _ i =>
    match P.underlying t with
    | some (.slice e) =>
      bif wZ P e then
        match x with
        | .sl _ sz l=>bif Nat.beq sz (szT P e) then some ([kR l i=some h.av],.ref h.av) else none
        | .own id n=>some ([0≤i,i<n],.ptr id (szT P e) i.toNat 0)
        | .part id sz lo hi=>bif Nat.beq sz (szT P e) then some ([0≤i,i<(hi:Int) - lo],.ptr id sz (lo+i.toNat) 0) else none
        | _=>none
      else none
    | some (.array n e) =>
      bif wZ P e then
        match x with
        | .ref (.agg cs) =>
          match j4 P e cs (i.toNat * szT P e) with
          | some av=>some ([0≤i,i<n],.ref av)
          | none=>none
        | .ptr id sz j off =>
          bif h.b then
            bif Nat.beq j 0&&Nat.beq off 0 then some ([0≤i,i<n],.ptr id (szT P e) i.toNat 0) else none
          else some ([0≤i,i<n],.ptr id sz j (off+i.toNat * szT P e))
        | _=>none
      else none
    | _=>none
  | _=>none

theorem AR {P:Program} {t e:TypeId} {k:IntKind} {i:Int} {b off n cap:Nat} {w:World} (hu:P.underlying t=some (.slice e)) (hk:wZ P e=true)
    (h0:0≤i) (h1:i<n):(Instr.indexAt t (.slice (some ⟨b,off,none⟩) n cap) (.int k i)).run P w=.ok (.pointer (some ⟨b,off+i.toNat * szT P e,none⟩)) w:=by
  simp [Instr.indexAt,asIntOf,run_underlying hu,h0,h1,u5 hk,jR]

theorem EQ {P:Program} {t e:TypeId} {k:IntKind} {i:Int} {b off n:Nat} {w:World} (hu:P.underlying t=some (.array n e)) (hk:wZ P e=true)
    (h0:0≤i) (h1:i<n):(Instr.indexAt t (.pointer (some ⟨b,off,none⟩)) (.int k i)).run P w=.ok (.pointer (some ⟨b,off+i.toNat * szT P e,none⟩)) w:=by
  simp [Instr.indexAt,asIntOf,run_underlying hu,h0,h1,u5 hk,jR,Instr.sureAddr]

theorem M4 {P:Program} {t:TypeId} {x ix:Operand} {ρ:Operand→Value} {o:Oper} {w:World} {I:Nat→Prop} {T:Tbl} {X IX:AV} {hn:xC} {r:List Prop×AV}
    (ho:o.op=.indexAddr t x ix) (hx:Rep w I T (ρ x) X) (hix:Rep w I T (ρ ix) IX) (h:ED P t X IX hn=some r) (hv:∀ p∈r.1,p):u4 P ρ o w I T r.2:=by
  unfold ED at h
  generalize hX:ρ x=vx at hx
  generalize hIX:ρ ix=vi at hix
  split at h
  · rename_i k i
    cases hix with
    | int wi =>
    split at h
    · rename_i e hu
      cases hk:wZ P e
      · rw [hk] at h;cases h
      rw [hk] at h
      simp only [cond_true] at h
      split at h
      · rename_i full sz l
        cases hb:Nat.beq sz (szT P e)
        · rw [hb] at h;cases h
        rw [hb] at h
        injection h with h;subst h
        have hsz:=xP.1 hb
        have hidx:kR l i=some hn.av:=hv _ (by simp)
        obtain ⟨h0,h1,hget⟩:=M9 hidx
        cases hx with
        | sl0=>simp at h1;omega
        | sl g e1 e2 e3 e4 e5 e6 e7 e8 e9 e10 =>
        rename_i b off cap n
        refine .same (v:=.pointer (some ⟨b,off+i.toNat * szT P e,none⟩)) ?_ (.ref (g i.toNat) e7 e8 ?_ ?_ ?_)
        · simp only [execOp,ho,hX,hIX,Sem.run_bind,AR (n:=n) hu hk h0 (by omega),Result.andThen_ok];rfl
        · exact e6 _ (List.mem_of_getElem? hget)
        · intro j c hj
          rw [← hsz]
          exact e9 _ _ _ _ hget hj
        · intro j c hj
          exact e10 _ _ _ _ hget hj
      · rename_i id n
        injection h with h;subst h
        have h0:0≤i:=hv _ (by simp)
        have h1:i<n:=hv _ (by simp)
        cases hx with
        | ownNil=>simp at h1;omega
        | own hT hn1 hn2 =>
        rename_i b cap
        refine .same (v:=.pointer (some ⟨b,0+i.toNat * szT P e,none⟩)) ?_ (.ptr hT (by omega))
        simp only [execOp,ho,hX,hIX,Sem.run_bind,AR hu hk h0 h1,Result.andThen_ok];rfl
      · rename_i id sz lo hi
        cases hb:Nat.beq sz (szT P e)
        · rw [hb] at h;cases h
        rw [hb] at h
        injection h with h;subst h
        have hsz:=xP.1 hb
        have h0:0≤i:=hv _ (by simp)
        have h1:i<(hi:Int) - lo:=hv _ (by simp)
        cases hx with
        | part0=>omega
        | part hT p1 p2 p3 p4 p5 p6 =>
        rename_i o n c b cap
        refine .same (v:=.pointer (some ⟨b,o+i.toNat * szT P e,none⟩)) ?_ (.ptr hT (by rw [← hsz,p6,Nat.add_zero,Nat.add_mul]))
        simp only [execOp,ho,hX,hIX,Sem.run_bind,AR (n:=n) hu hk h0 (by omega),Result.andThen_ok];rfl
      · cases h
    · rename_i n e hu
      cases hk:wZ P e
      · rw [hk] at h;cases h
      rw [hk] at h
      simp only [cond_true] at h
      split at h
      · rename_i cs
        split at h
        · rename_i av hav
          injection h with h;subst h
          have h0:0≤i:=hv _ (by simp)
          have h1:i<n:=hv _ (by simp)
          cases hx with
          | ref g hI hb e1 e2 e3 =>
          rename_i b off
          obtain ⟨_,_,hsub,hone⟩:=b5 hav e1
          refine .same (v:=.pointer (some ⟨b,off+i.toNat * szT P e,none⟩)) ?_ (.ref (fun j=>g (i.toNat * szT P e+j)) hI hb hone ?_ ?_)
          · simp only [execOp,ho,hX,hIX,Sem.run_bind,EQ hu hk h0 h1,Result.andThen_ok];rfl
          · intro j c hj
            rw [Nat.add_assoc]
            exact e2 _ _ (hsub j c hj)
          · intro j c hj
            exact e3 _ _ (hsub j c hj)
        · cases h
      · rename_i id sz j off
        cases hx with
        | ptr hT ho' =>
        rename_i o b cap
        cases hb:hn.b
        · rw [hb] at h
          injection h with h;subst h
          have h0:0≤i:=hv _ (by simp)
          have h1:i<n:=hv _ (by simp)
          refine .same (v:=.pointer (some ⟨b,o+i.toNat * szT P e,none⟩)) ?_ (.ptr hT (by omega))
          simp only [execOp,ho,hX,hIX,Sem.run_bind,EQ hu hk h0 h1,Result.andThen_ok];rfl
        · rw [hb] at h
          simp only [cond_true] at h
          cases hz:(Nat.beq j 0&&Nat.beq off 0)
          · rw [hz] at h;cases h
          rw [hz] at h
          simp only [Bool.and_eq_true] at hz
          have z1:=xP.1 hz.1
          have z2:=xP.1 hz.2
          injection h with h;subst h
          have h0:0≤i:=hv _ (by simp)
          have h1:i<n:=hv _ (by simp)
          refine .same (v:=.pointer (some ⟨b,o+i.toNat * szT P e,none⟩)) ?_ (.ptr hT (by rw [ho',z1,z2];omega))
          simp only [execOp,ho,hX,hIX,Sem.run_bind,EQ hu hk h0 h1,Result.andThen_ok];rfl
      · cases h
    · cases h
  · cases h

/-- A byte of a string, a part of an array. -/
def AJ (P:Program) (t:TypeId) (x ix:AV) (h:xC):Option (List Prop×AV) :=
  match ix with
  | .int _ i =>
    match P.underlying t,x with
    | some .string,.str l=>some ([i7 l i=some h.z],.int .u8 h.z)
    | some (.array n e),.agg cs =>
      bif wZ P e then
        match j4 P e cs (i.toNat * szT P e) with
        | some av=>some ([0≤i,i<n],av)
        | none=>none
      else none
    | _,_=>none
  | _=>none

theorem H1 {x:Int} (h:0≤x∧x<256):IntKind.u8.wrap x=x:=by
  apply n9;simp only [IntKind.bits,IntKind.signed];simp;omega

theorem UZ {l:List Int} {i:Nat} {c:Int} (h:l[i]?=some c) (hr:0≤c∧c<256):∃ b:UInt8,(wO l)[i]?=some b∧(b.toNat:Int)=c:=by
  refine ⟨UInt8.ofNat c.toNat,?_,?_⟩
  · have hlt:i<l.length:=by
      rcases Nat.lt_or_ge i l.length with h' | h'
      · exact h'
      · rw [List.getElem?_eq_none h'] at h;cases h
    have hs:i<(wO l).size:=by rw [nF];exact hlt
    have e:(wO l)[i]?=(wO l).data[i]?:=rfl
    rw [e]
    simp [wO,h]
  · simp only [UInt8.toNat_ofNat'];omega

theorem WU {P:Program} {t:TypeId} {x ix:Operand} {ρ:Operand→Value} {o:Oper} {w:World} {I:Nat→Prop} {T:Tbl} {X IX:AV} {hn:xC} {r:List Prop×AV}
    (ho:o.op=.index t x ix) (hx:Rep w I T (ρ x) X) (hix:Rep w I T (ρ ix) IX) (h:AJ P t X IX hn=some r) (hv:∀ p∈r.1,p):u4 P ρ o w I T r.2:=by
  unfold AJ at h
  generalize hX:ρ x=vx at hx
  generalize hIX:ρ ix=vi at hix
  split at h
  · rename_i k i
    cases hix with
    | int wi =>
    split at h
    · rename_i l hu
      injection h with h;subst h
      have hidx:i7 l i=some hn.z:=hv _ (by simp)
      obtain ⟨h0,h1,hget⟩:=VP hidx
      cases hx with
      | str hr hl =>
      have hc:=hr _ (List.mem_of_getElem? hget)
      obtain ⟨b,hb1,hb2⟩:=UZ hget hc
      refine .same (v:=.int .u8 hn.z) ?_ (.int (H1 hc))
      simp [execOp,ho,hX,hIX,Instr.index,asIntOf,run_underlying hu,h0,hb1,hb2]
    · rename_i n e cs hu
      cases hk:wZ P e
      · rw [hk] at h;cases h
      rw [hk] at h
      simp only [cond_true] at h
      split at h
      · rename_i av hav
        injection h with h;subst h
        have h0:0≤i:=hv _ (by simp)
        have h1:i<n:=hv _ (by simp)
        cases hx with
        | agg hs e1 e2 =>
        obtain ⟨v,hrun,hrep⟩:=JA (w:=w) hk e1 hs e2 hav
        refine .same (v:=v) ?_ hrep
        simp [execOp,ho,hX,hIX,Instr.index,asIntOf,run_underlying hu,h0,h1,u5 hk,hrun]
      · cases h
    · cases h
  · cases h

/-! Lengths. -/
def D1 (P:Program) (t:TypeId) (x:AV) (h:xC):Option (List Prop×AV) :=
  match P.underlying t,x with
  | some .string,.str l=>some ([],.int .i64 l.length)
  | some (.slice _),.sl _ _ l=>some ([l.length=h.n],.int .i64 h.n)
  | some (.slice _),.own _ n=>some ([],.int .i64 n)
  | some (.slice _),.part _ _ lo hi=>some ([hi - lo=h.n],.int .i64 h.n)
  | some (.array n _),_=>bif Nat.ble n 9223372036854775807 then some ([],.int .i64 n) else none
  | _,_=>none

theorem cX {n:Nat} (h:n≤9223372036854775807):IntKind.i64.wrap (n:Int)=n:=by
  apply n9;simp only [IntKind.bits,IntKind.signed];simp;omega

theorem R1 {P:Program} {t:TypeId} {x:Operand} {ρ:Operand→Value} {o:Oper} {w:World} {I:Nat→Prop} {T:Tbl} {X:AV} {hn:xC} {r:List Prop×AV}
    (ho:o.op=.call { callee:=.builtin .len,args:=#[x],argTypes:=#[t] }) (hx:Rep w I T (ρ x) X) (h:D1 P t X hn=some r) (hv:∀ p∈r.1,p):u4 P ρ o w I T r.2:=by
  unfold D1 at h
  generalize hX:ρ x=vx at hx
  have hrun:∀ (v:Value),(Builtin.len_ #[t] o.type #[vx]).run P w=.ok v w→(execOp ρ o).run P w=.ok (.value v) w:=fun v hv=>by
    simp [execOp,ho,resolve,hX,invoke,builtin,hv]
  split at h
  · rename_i l hu
    injection h with h;subst h
    cases hx with
    | str hr hl =>
    exact .same (hrun (.int .i64 l.length) (by simp [Builtin.len_,run_underlying hu,goInt,nF])) (.int (cX (by rw [uM] at hl;exact hl)))
  · rename_i e full sz l hu
    injection h with h;subst h
    have hl:l.length=hn.n:=hv _ (by simp)
    cases hx with
    | sl0 hc hf =>
      simp at hl
      exact .same (hrun (.int .i64 0) (by simp [Builtin.len_,run_underlying hu,goInt])) (by rw [← hl];exact .int (by decide))
    | sl g e1 e2 e3 e4 e5 e6 e7 e8 e9 e10 =>
      rename_i b off cap n
      exact .same (hrun (.int .i64 n) (by simp [Builtin.len_,run_underlying hu,goInt])) (by rw [← hl,← e1];exact .int (cX (by rw [uM] at e3;omega)))
  · rename_i e id n hu
    injection h with h;subst h
    cases hx with
    | ownNil=>exact .same (hrun (.int .i64 0) (by simp [Builtin.len_,run_underlying hu,goInt])) (.int (by decide))
    | own hT h1 h2=>exact .same (hrun (.int .i64 n) (by simp [Builtin.len_,run_underlying hu,goInt])) (.int (cX (by rw [uM] at h2;omega)))
  · rename_i e id sz lo hi hu
    injection h with h;subst h
    have hl:hi - lo=hn.n:=hv _ (by simp)
    cases hx with
    | part0 =>
      exact .same (hrun (.int .i64 0) (by simp [Builtin.len_,run_underlying hu,goInt])) (by rw [← hl];simp;exact .int (by decide))
    | part hT p1 p2 p3 p4 p5 p6 =>
      rename_i o' n c b cap
      exact .same (hrun (.int .i64 n) (by simp [Builtin.len_,run_underlying hu,goInt])) (by rw [← hl,← p2];exact .int (cX (by rw [uM] at p5;omega)))
  · rename_i n e hu
    cases hb:Nat.ble n 9223372036854775807
    · rw [hb] at h;cases h
    rw [hb] at h
    injection h with h;subst h
    exact .same (hrun (.int .i64 n) (by simp [Builtin.len_,run_underlying hu,goInt])) (.int (cX (zle hb)))
  · cases h

/-! The least and the greatest of two integers. -/
def cV (x y:Int):Int:=if y>x then y else x
def nI (x y:Int):Int:=if y<x then y else x

def i9 (b:Builtin) (x y:AV):Option (List Prop×AV) :=
  match x,y with
  | .int k a,.int k' c =>
    bif cY k k' then
      match b with
      | .max=>some ([],.int k (cV a c))
      | .min=>some ([],.int k (nI a c))
      | _=>none
    else none
  | _,_=>none

theorem JW {P:Program} {b:Builtin} {ts:Array TypeId} {x y:Operand} {ρ:Operand→Value} {o:Oper} {w:World} {I:Nat→Prop} {T:Tbl} {X Y:AV} {r:List Prop×AV}
    (ho:o.op=.call { callee:=.builtin b,args:=#[x,y],argTypes:=ts }) (hx:Rep w I T (ρ x) X) (hy:Rep w I T (ρ y) Y) (h:i9 b X Y=some r):u4 P ρ o w I T r.2:=by
  unfold i9 at h
  generalize hX:ρ x=vx at hx
  generalize hY:ρ y=vy at hy
  split at h
  · rename_i k a k' c
    cases hk:cY k k'
    · rw [hk] at h;cases h
    rw [hk] at h
    have:=LW hk
    subst this
    simp only [cond_true] at h
    cases hx with
    | int wa =>
    cases hy with
    | int wb =>
    split at h<;>first | (injection h with h;subst h) | cases h
    · refine .same (v:=.int k (cV a c)) (by simp [execOp,ho,resolve,hX,hY,invoke,builtin,Builtin.max_,Builtin.max2,cV]) (.int ?_)
      unfold cV;split<;>assumption
    · refine .same (v:=.int k (nI a c)) (by simp [execOp,ho,resolve,hX,hY,invoke,builtin,Builtin.min_,Builtin.min2,nI]) (.int ?_)
      unfold nI;split<;>assumption
  · cases h
end Go.Ab
