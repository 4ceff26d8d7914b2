/- Blocks of the call's own given away for reading; calls by what is known of the callee. -/
import Derived.Test.YtbifmbdcejggkaaA14
namespace Go.Ab
open Go

/-! A row of the call's own, seen as a slice that is not written again. -/
def zBb (B:Nat→zO) (ids:List Nat):AV→AV
  | .own id n=>bif ids.any (Nat.beq id) then
      match B id with
      | .live (.row _ sz l)=>.sl false sz l
      | _=>.junk
    else .own id n
  | .part id sz lo hi=>bif ids.any (Nat.beq id) then
      match B id with
      | .live (.row _ sz' l)=>bif Nat.beq sz sz' then .sl false sz ((l.take hi).drop lo) else .junk
      | _=>.junk
    else .part id sz lo hi
  | v=>v

def zBA (B:Nat→zO) (ids:List Nat):AV→AV
  | .agg cs=>.agg (cs.map (zBb B ids))
  | v=>zBb B ids v

def frz (B:Nat→zO) (ids:List Nat):AV→AV
  | .tuple vs=>.tuple (vs.map (zBA B ids))
  | v=>zBA B ids v

/-- The condition, as a list of plain facts. -/
def nB (B:Nat→zO) (ids:List Nat):AV→List Prop
  | .own id n=>bif ids.any (Nat.beq id) then
      match B id with
      | .live (.row _ _ l)=>[n=l.length]
      | _=>[]
    else []
  | .part id _ lo hi=>bif ids.any (Nat.beq id) then
      match B id with
      | .live (.row _ _ l)=>[lo≤hi,hi≤l.length]
      | _=>[]
    else []
  | _=>[]
def zBR (B:Nat→zO) (ids:List Nat):AV→List Prop
  | .agg cs=>cs.flatMap (nB B ids)
  | v=>nB B ids v
def zAR (B:Nat→zO) (ids:List Nat):AV→List Prop
  | .tuple vs=>vs.flatMap (zBR B ids)
  | v=>zBR B ids v

/-- Reading with some rows of the call's own among the memory that does not turn. -/
def zNE (G:xE) (st:AS) (T:Tbl) (ids:List Nat) (b:Nat):Prop :=
  imm G st T b∨∃ id cap,id∈ids∧T id=some (.at b cap)

theorem zGg {ids:List Nat} {id:Nat} (h:ids.any (Nat.beq id)=true):id∈ids:=by
  simp only [List.any_eq_true] at h
  obtain ⟨x,hx,he⟩:=h
  rw [xO.1 he];exact hx

theorem zD2 {ids:List Nat} {id:Nat} (h:id∈ids):ids.any (Nat.beq id)=true:=by
  simp only [List.any_eq_true]
  exact ⟨id,h,zA4 id⟩

theorem zKK {G:xE} {st:AS} {T:Tbl} {a:Act} {w:World} {I:Nat→Prop} (hT:vS G st T a w) {id:Nat} {e:TypeId} {sz:Nat} {l:List AV} (hb:st.box id=.live (.row e sz l))
    (hI:∀ b,imm G st T b→I b) (hid:∀ b cap,T id=some (.at b cap)→I b) {v:Value} {lo n c:Nat} {b cap:Nat} (hTi:T id=some (.at b cap)) (hv:v=.slice (some ⟨b,lo * sz,none⟩) n c) (hn:lo+n≤l.length) (hnc:n≤c) (hc:c≤maxLen) (T':Tbl) :
    Rep w I T' v (.sl false sz ((l.take (lo+n)).drop lo)):=by
  rcases hT.boxes id _ hb with ⟨hp,_⟩ | ⟨b',cap',C,hp,hh,h1,h2,h3,h4,h5,h6⟩
  · rw [hp] at hTi;cases hTi
  have hp0:=hp
  rw [hTi] at hp;injection hp with hp;injection hp with e1 e2;subst e1;subst e2
  have hlt:b<w.heap.size:=pD hT hb hTi
  subst hv
  have hget:∀ i av,((l.take (lo+n)).drop lo)[i]?=some av→l[lo+i]?=some av:=by
    intro i av hi
    rw [List.getElem?_drop,List.getElem?_take] at hi
    split at hi
    · exact hi
    · cases hi
  have hmem:∀ av∈(l.take (lo+n)).drop lo,av∈l:=fun av hav=>List.mem_of_mem_take (List.mem_of_mem_drop hav)
  refine .sl (fun i j=>C.getD ((lo+i) * sz+j) undef) (by simp;omega) hnc hc (by simp) (fun av hav=>h4 av (hmem av hav)) (fun av hav=>h5 av (hmem av hav)) (hid b cap hTi) hlt ?_ ?_
  · intro i av j c' hi hj
    have hg:=qR h4 (hget i av hi) hj
    have hlt':(lo+i) * sz+j<C.size:=by
      have:(lo+i) * sz+j<(wW l).length:=by
        rcases Nat.lt_or_ge ((lo+i) * sz+j) (wW l).length with h' | h'
        · exact h'
        · rw [List.getElem?_eq_none h'] at hg;cases hg
      rw [uO h4] at this
      have:=Nat.mul_le_mul_right sz h2
      omega
    rw [show lo * sz+i * sz+j=(lo+i) * sz+j by rw [Nat.add_mul]]
    simp [World.cell?,hh,hlt',Array.getD_eq_getD_getElem?]
  · intro i av j c' hi hj
    exact (h6 _ av j c' (hget i av hi) hj).mono (Nat.le_refl _) (fun _ _ _=>rfl) (fun b hb' _=>hI b hb') (fun _ _ h=>h)

theorem zFI {w:World} {I:Nat→Prop} {T:Tbl} {a:Option Addr} {c sz:Nat} (hc:c≤maxLen):Rep w I T (.slice a 0 c) (.sl false sz []):=.sl0 hc (by simp)

theorem zEO {G:xE} {st:AS} {T:Tbl} {a:Act} {w:World} {I:Nat→Prop} {B:Nat→zO} {ids:List Nat} (hT:vS G st T a w) (hB:∀ id∈ids,st.box id=B id)
    (hI:∀ b,imm G st T b→I b) (hid:∀ id b cap,id∈ids→T id=some (.at b cap)→I b) {v:Value} {av:AV} (h:Rep w (imm G st T) T v av) (hv:∀ p∈nB B ids av,p) :
    Rep w I T v (zBb B ids av):=by
  have same:∀ {av},Rep w (imm G st T) T v av→Rep w I T v av:=fun h=>h.mono (Nat.le_refl _) (fun _ _ _=>rfl) (fun b hb _=>hI b hb) (fun _ _ h=>h)
  cases av with
  | own id n =>
    simp only [zBb,nB] at hv ⊢
    cases hm:ids.any (Nat.beq id)
    · exact same h
    rw [hm] at hv
    simp only [cond_true] at hv ⊢
    have hmem:=zGg hm
    split
    · rename_i e sz l hBl
      rw [hBl] at hv
      have hn:n=l.length:=hv _ (by simp)
      have hb:=(hB id hmem).trans hBl
      cases h with
      | ownNil hTi =>
        have hl:l=[]:=List.eq_nil_of_length_eq_zero hn.symm
        subst hl
        exact zFI (by simp [maxLen])
      | own hTi c1 c2 =>
        rename_i b0 cap0
        have:=zKK hT hb hI (fun b cap hT'=>hid id b cap hmem hT') (v:=.slice (some ⟨b0,0,none⟩) n cap0) (lo:=0) (n:=n) (c:=cap0) hTi (by simp) (by omega) c1 c2 T
        rw [Nat.zero_add,List.drop_zero,hn,List.take_length] at this
        rw [hn];exact this
    · exact .junk
  | part id sz lo hi =>
    simp only [zBb,nB] at hv ⊢
    cases hm:ids.any (Nat.beq id)
    · exact same h
    rw [hm] at hv
    simp only [cond_true] at hv ⊢
    have hmem:=zGg hm
    split
    · rename_i e sz' l hBl
      rw [hBl] at hv
      have hlo:lo≤hi:=hv _ (by simp)
      have hhi:hi≤l.length:=hv _ (by simp)
      have hb:=(hB id hmem).trans hBl
      cases hs:Nat.beq sz sz'
      · exact .junk
      have hs:=xO.1 hs
      subst hs
      simp only [cond_true]
      cases h with
      | part0 hc=>rw [List.drop_take_self];exact zFI hc
      | part hTi p1 p2 p3 p4 p5 p6 =>
        rename_i o0 n0 c0 b0 cap0
        have:=zKK hT hb hI (fun b cap hT'=>hid id b cap hmem hT') (v:=.slice (some ⟨b0,o0,none⟩) (hi - lo) c0) (lo:=lo) (n:=hi - lo) hTi (by rw [p6]) (by omega) (by rw [← p2];exact p3) (by omega) T
        rw [show lo+(hi - lo)=hi by omega] at this
        rw [p2];exact this
    · exact .junk
  | _=>exact same h

/-- A view is zB5 if nothing in it was lost. -/
def uJ:List AV→Bool
  | []=>true
  | c::r=>c.one&&uJ r

theorem zCS {cs:List AV} (h:uJ cs=true):∀ c∈cs,c.one=true:=by
  induction cs with
  | nil=>simp
  | cons a r ih =>
    simp only [uJ,Bool.and_eq_true] at h
    intro c hc
    cases hc with
    | head=>exact h.1
    | tail _ hc=>exact ih h.2 c hc

def zDL:AV→Bool
  | .agg cs=>uJ cs
  | _=>true
def zB5:AV→Bool
  | .tuple vs=>vs.all zDL
  | v=>zDL v

theorem zHF {G:xE} {st:AS} {T:Tbl} {a:Act} {w:World} {I:Nat→Prop} {B:Nat→zO} {ids:List Nat} (hT:vS G st T a w) (hB:∀ id∈ids,st.box id=B id)
    (hI:∀ b,imm G st T b→I b) (hid:∀ id b cap,id∈ids→T id=some (.at b cap)→I b) {v:Value} {av:AV} (h:Rep w (imm G st T) T v av) (hv:∀ p∈zBR B ids av,p) (hw:zDL (zBA B ids av)=true) :
    Rep w I T v (zBA B ids av):=by
  by_cases ha:∃ cs,av=.agg cs
  · obtain ⟨cs,rfl⟩:=ha
    simp only [zBA,zBR,zDL] at *
    cases h with
    | agg h1 h2 h3 =>
    refine .agg (by simp [h1]) (zCS hw) ?_
    intro j c hj
    rw [List.getElem?_map] at hj
    cases hcj:cs[j]? with
    | none=>rw [hcj] at hj;cases hj
    | some c0 =>
      rw [hcj] at hj;injection hj with hj;subst hj
      exact zEO hT hB hI hid (h3 j c0 hcj) (fun p hp=>hv p (List.mem_flatMap.2 ⟨c0,List.mem_of_getElem? hcj,hp⟩))
  · have e1:zBA B ids av=zBb B ids av:=by cases av<;>first | rfl | exact absurd ⟨_,rfl⟩ ha
    have e2:zBR B ids av=nB B ids av:=by cases av<;>first | rfl | exact absurd ⟨_,rfl⟩ ha
    rw [e1];rw [e2] at hv
    exact zEO hT hB hI hid h hv

theorem zF5 {G:xE} {st:AS} {T:Tbl} {a:Act} {w:World} {I:Nat→Prop} {B:Nat→zO} {ids:List Nat} (hT:vS G st T a w) (hB:∀ id∈ids,st.box id=B id)
    (hI:∀ b,imm G st T b→I b) (hid:∀ id b cap,id∈ids→T id=some (.at b cap)→I b) {v:Value} {av:AV} (h:Rep w (imm G st T) T v av) (hv:∀ p∈zAR B ids av,p) (hw:zB5 (frz B ids av)=true) :
    Rep w I T v (frz B ids av):=by
  by_cases ha:∃ cs,av=.tuple cs
  · obtain ⟨cs,rfl⟩:=ha
    simp only [frz,zAR,zB5] at *
    simp only [List.all_eq_true] at hw
    cases h with
    | tuple h1 h2 =>
    refine .tuple (by simp [h1]) ?_
    intro j c hj
    have hjm:=List.mem_of_getElem? hj
    rw [List.getElem?_map] at hj
    cases hcj:cs[j]? with
    | none=>rw [hcj] at hj;cases hj
    | some c0 =>
      rw [hcj] at hj;injection hj with hj;subst hj
      exact zHF hT hB hI hid (h2 j c0 hcj) (fun p hp=>hv p (List.mem_flatMap.2 ⟨c0,List.mem_of_getElem? hcj,hp⟩)) (hw _ hjm)
  · have e1:frz B ids av=zBA B ids av:=by cases av<;>first | rfl | exact absurd ⟨_,rfl⟩ ha
    have e2:zAR B ids av=zBR B ids av:=by cases av<;>first | rfl | exact absurd ⟨_,rfl⟩ ha
    have e3:zB5 (frz B ids av)=zDL (frz B ids av):=by
      rw [e1]
      cases av with
      | tuple vs=>exact absurd ⟨_,rfl⟩ ha
      | agg cs=>rfl
      | own id n=>simp only [zBA,zBb];cases ids.any (Nat.beq id)<;>simp only [cond_true,cond_false]<;>(try split)<;>rfl
      | part id sz lo hi =>
        simp only [zBA,zBb]
        cases ids.any (Nat.beq id)<;>simp only [cond_true,cond_false]
        · rfl
        · split
          · rename_i sz' l hh
            cases Nat.beq sz sz'<;>rfl
          · rfl
      | _=>rfl
    rw [e3] at hw
    rw [e1] at hw ⊢;rw [e2] at hv
    exact zHF hT hB hI hid h hv hw
end Go.Ab
