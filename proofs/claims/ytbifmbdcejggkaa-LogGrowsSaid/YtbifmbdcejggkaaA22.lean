/- A state seen otherwise: less known, other names, rows given away. -/
import Derived.Test.YtbifmbdcejggkaaA21
namespace Go.Ab
open Go

def Sub (np:Nat) (st st2:AS):Prop:=∀ G a w,G.foot.length=np→vL G st a w→vL G st2 a w

theorem qM {P:Program} {N np:Nat} {c:Code} {K:Exit→AS→Prop} {st st2:AS} (hs:Sub np st st2) (h:AW P N np c K st2):AW P N np c K st :=
  fun G a w hN hnp hR=>h G a w hN hnp (hs G a w hnp hR)

/-- One reading of a cell serves for another. -/
def lo1 (x y:AV):List Prop :=
  match x,y with
  | .nilsl,.sl _ _ l=>[l=[]]
  | .sl f s l,.sl f' s' l'=>[s=s',l=l',(!f'||f)=true]
  | _,.junk=>[]
  | x,y=>[x=y]

def los:List AV→List AV→List Prop
  | [],[]=>[]
  | x::r,y::s=>lo1 x y++los r s
  | _,_=>[False]

def loA (x y:AV):List Prop :=
  match x,y with
  | .agg cs,.agg ds=>los cs ds
  | x,y=>lo1 x y

def zC6:List AV→List AV→List Prop
  | [],[]=>[]
  | x::r,y::s=>loA x y++zC6 r s
  | _,_=>[False]

def loT (x y:AV):List Prop :=
  match x,y with
  | .tuple cs,.tuple ds=>zC6 cs ds
  | x,y=>loA x y

theorem zCC {w:World} {I:Nat→Prop} {T:Tbl} {v:Value} {x y:AV} (h:Rep w I T v x) (hl:∀ p∈lo1 x y,p):Rep w I T v y:=by
  unfold lo1 at hl
  split at hl
  · rename_i f s l
    have:l=[]:=hl _ (by simp)
    subst this
    cases h
    exact .sl0 (by simp [maxLen]) (fun _=>rfl)
  · rename_i f s l f' s' l'
    have e1:s=s':=hl _ (by simp)
    have e2:l=l':=hl _ (by simp)
    have e3:(!f'||f)=true:=hl _ (by simp)
    subst e1;subst e2
    have imp:f'=true→f=true:=by
      intro hf;rw [hf] at e3;simpa using e3
    cases h with
    | sl0 a b=>exact .sl0 a (fun hf=>b (imp hf))
    | sl g h1 h2 h3 h4 h5 h6 h7 h8 h9 h10=>exact .sl g h1 h2 h3 (fun hf=>h4 (imp hf)) h5 h6 h7 h8 h9 h10
  · exact .junk
  · have:=hl (x=y) (by simp)
    rw [← this];exact h

theorem zEz {xs ys:List AV} (h:∀ p∈los xs ys,p):xs.length=ys.length∧∀ (j:Nat) (x y:AV),xs[j]?=some x→ys[j]?=some y→∀ p∈lo1 x y,p:=by
  induction xs generalizing ys with
  | nil =>
    cases ys with
    | nil=>exact ⟨rfl,fun j x y hj=>by simp at hj⟩
    | cons b s=>exact (h False (by simp [los])).elim
  | cons a r ih =>
    cases ys with
    | nil=>exact (h False (by simp [los])).elim
    | cons b s =>
      simp only [los,List.mem_append] at h
      obtain ⟨k1,k2⟩:=ih (ys:=s) (fun p hp=>h p (.inr hp))
      refine ⟨by simp [k1],fun j x y hx hy p hp=>?_⟩
      cases j with
      | zero=>simp at hx hy;subst hx;subst hy;exact h p (.inl hp)
      | succ j=>exact k2 j x y (by simpa using hx) (by simpa using hy) p hp

theorem zGT {xs ys:List AV} (h:∀ p∈zC6 xs ys,p):xs.length=ys.length∧∀ (j:Nat) (x y:AV),xs[j]?=some x→ys[j]?=some y→∀ p∈loA x y,p:=by
  induction xs generalizing ys with
  | nil =>
    cases ys with
    | nil=>exact ⟨rfl,fun j x y hj=>by simp at hj⟩
    | cons b s=>exact (h False (by simp [zC6])).elim
  | cons a r ih =>
    cases ys with
    | nil=>exact (h False (by simp [zC6])).elim
    | cons b s =>
      simp only [zC6,List.mem_append] at h
      obtain ⟨k1,k2⟩:=ih (ys:=s) (fun p hp=>h p (.inr hp))
      refine ⟨by simp [k1],fun j x y hx hy p hp=>?_⟩
      cases j with
      | zero=>simp at hx hy;subst hx;subst hy;exact h p (.inl hp)
      | succ j=>exact k2 j x y (by simpa using hx) (by simpa using hy) p hp

def zB3:AV→Bool
  | .agg ds=>uJ ds
  | _=>true
def zB6:AV→Bool
  | .tuple vs=>vs.all zB3
  | v=>zB3 v

theorem zF0 {w:World} {I:Nat→Prop} {T:Tbl} {v:Value} {x y:AV} (h:Rep w I T v x) (hl:∀ p∈loA x y,p) (h1:zB3 y=true):Rep w I T v y:=by
  unfold loA at hl
  split at hl
  · rename_i cs ds
    obtain ⟨k1,k2⟩:=zEz hl
    cases h with
    | agg a b c =>
      refine .agg (by rw [a,k1]) (zCS h1) fun j y hy=>?_
      have hlt:j<cs.length:=by
        rw [k1]
        rcases Nat.lt_or_ge j ds.length with h' | h'
        · exact h'
        · rw [List.getElem?_eq_none h'] at hy;cases hy
      exact zCC (c j _ (List.getElem?_eq_getElem hlt)) (k2 j _ y (List.getElem?_eq_getElem hlt) hy)
  · exact zCC h hl

theorem zMM {w:World} {I:Nat→Prop} {T:Tbl} {v:Value} {x y:AV} (h:Rep w I T v x) (hl:∀ p∈loT x y,p) (h1:zB6 y=true):Rep w I T v y:=by
  unfold loT at hl
  split at hl
  · rename_i cs ds
    obtain ⟨k1,k2⟩:=zGT hl
    simp only [zB6,List.all_eq_true] at h1
    cases h with
    | tuple a c =>
      refine .tuple (by rw [a,k1]) fun j y hy=>?_
      have hlt:j<cs.length:=by
        rw [k1]
        rcases Nat.lt_or_ge j ds.length with h' | h'
        · exact h'
        · rw [List.getElem?_eq_none h'] at hy;cases hy
      exact zF0 (c j _ (List.getElem?_eq_getElem hlt)) (k2 j _ y (List.getElem?_eq_getElem hlt) hy) (h1 y (List.mem_of_getElem? hy))
  · rename_i hno
    by_cases hy:∃ ds,y=.tuple ds
    · obtain ⟨ds,rfl⟩:=hy
      have e:loA x (.tuple ds)=lo1 x (.tuple ds):=by cases x<;>rfl
      rw [e] at hl
      exact zCC h hl
    · refine zF0 h hl ?_
      cases y<;>first | exact h1 | exact absurd ⟨_,rfl⟩ hy

def zGj (n:Nat):zO→Bool
  | .live b=>kY n b
  | _=>true

def wP (B:Nat→zO) (ids ρ:List Nat) (b:zO) (b2:zO):List Prop :=
  match b,b2 with
  | .live (.var t cs),.live (.var t' ds)=>[t=t',uJ ds=true]++(cs.flatMap (nB B ids)++los (cs.map (zBb B ids)) (uns ρ ds))
  | .live (.row e s l),.live (.row e' s' l')=>[e=e',s=s',l=l']
  | .live (.map a k l),.live (.map a' k' l')=>[a=a',k=k',l=l']
  | .live (.rowQ e s l m x),.live (.rowQ e' s' l' m' x')=>[e=e',s=s',l=l',m=m',uJ x'=true]++los x (uns ρ x')
  | .live (.fam f),.live (.fam f')=>[f=f']
  | _,.dead=>[]
  | _,_=>[False]

def zAI:List Nat→List Nat→Bool
  | [],[]=>true
  | a::r,b::s=>Nat.beq a b&&zAI r s
  | _,_=>false

theorem zJP {a b:List Nat} (h:zAI a b=true):a=b:=by
  induction a generalizing b with
  | nil=>cases b<;>simp_all [zAI]
  | cons x r ih =>
    cases b with
    | nil=>simp [zAI] at h
    | cons y s =>
      simp only [zAI,Bool.and_eq_true] at h
      rw [xO.1 h.1,ih h.2]

/-- The other view: 'ρ': the old names, in the order of the new uJ; 'ids': rows given away. -/
def zCO (np:Nat) (st:AS) (ρ ids:List Nat) (sl2:List (Nat×AV)) (bx2:List (Nat×zO)):Option (List Prop) :=
  bif ((vO ρ&&zAI (ρ.take np) (List.range np))&&(ids.all fun i=>pJ (st.box i)&&Nat.ble np i)) &&
      ((sl2.all fun x=>(tG ρ.length x.2&&zB6 x.2)&&zB5 (frz st.box ids (st.slot x.1))) &&
       (bx2.all fun x=>(Nat.blt x.1 ρ.length&&zGj ρ.length x.2)&&(match x.2 with | .live (.row ..)=>!(ids.any (Nat.beq (ρ.getD x.1 0))) | .unused=>false | _=>true))) then
    some (sl2.flatMap (fun x=>zAR st.box ids (st.slot x.1)++loT (frz st.box ids (st.slot x.1)) (un ρ x.2)) ++
      bx2.flatMap (fun x=>wP st.box ids ρ (st.box (ρ.getD x.1 0)) x.2))
  else none

theorem zJf {ρ:List Nat} {cs:List AV}:uJ (uns ρ cs)=uJ cs:=by
  induction cs with
  | nil=>rfl
  | cons a r ih=>simp [uns,uJ,zKv,ih]

theorem zLV {ρ:List Nat} {a:AV}:zB3 (un ρ a)=zB3 a:=by cases a<;>simp [un,zB3,zJf]

theorem zLN {ρ:List Nat} {a:AV}:zB6 (un ρ a)=zB6 a:=by
  cases a with
  | tuple vs =>
    simp only [un,zB6]
    induction vs with
    | nil=>rfl
    | cons x r ih=>simp [uns,zLV,ih]
  | agg cs=>simp [un,zB6,zB3,zJf]
  | _=>rfl

theorem zMf {sl:List (Nat×AV)} {t:Nat}:qV sl t=.junk∨(t,qV sl t)∈sl:=by
  induction sl with
  | nil=>exact .inl rfl
  | cons x r ih =>
    obtain ⟨k,v⟩:=x
    simp only [qV]
    cases h:Nat.beq t k
    · rcases ih with h' | h'
      · exact .inl h'
      · exact .inr (by simp [h'])
    · rw [xO.1 h];exact .inr (by simp)

theorem zB4 {bx:List (Nat×zO)} {i:Nat} {d:zO}:(i∉bx.map (·.1)∧xJ bx i d=d)∨(i,xJ bx i d)∈bx:=by
  induction bx with
  | nil=>exact .inl ⟨by simp,rfl⟩
  | cons x r ih =>
    obtain ⟨k,v⟩:=x
    simp only [xJ]
    cases h:Nat.beq i k
    · have hne:i≠k:=fun e=>by subst e;simp at h
      rcases ih with ⟨h1,h2⟩ | h'
      · exact .inl ⟨by simp only [List.map_cons,List.mem_cons,not_or];exact ⟨hne,h1⟩,h2⟩
      · exact .inr (by simp [h'])
    · rw [xO.1 h];exact .inr (by simp)

theorem zMK {np:Nat} {st:AS} (ρ ids:List Nat) (sl2:List (Nat×AV)) (bx2:List (Nat×zO)) {vcs:List Prop} (h:zCO np st ρ ids sl2 bx2=some vcs) (hv:tY vcs)
    {G:xE} {a:Act} {w:World} {T:Tbl} (hnp:G.foot.length=np) (hpin:∀ i,G.pin i=none) (hT:vS G st T a w):vS G (mk sl2 bx2 ρ.length) (Tc ρ T) a w:=by
  unfold zCO at h
  replace h:=zY h;obtain ⟨hc,h⟩:=h
  simp only [Bool.and_eq_true,List.all_eq_true] at hc
  obtain ⟨⟨⟨hnd,hrange⟩,hids⟩,hsl,hbx⟩:=hc
  have hrange:=zJP hrange
  simp only [Option.some.injEq] at h
  subst h
  have hv:=zC7 hv
  -- boxes of the new state
  have boxOf:∀ i bx,(mk sl2 bx2 ρ.length).box i=.live bx→(i,zO.live bx)∈bx2:=by
    intro i bx hl
    simp only [mk] at hl
    rcases zB4 (bx:=bx2) (i:=i) (d:=bif Nat.blt i ρ.length then zO.dead else .unused) with ⟨_,h⟩ | h
    · rw [h] at hl
      cases hlt:Nat.blt i ρ.length<;>rw [hlt] at hl<;>cases hl
    · rw [hl] at h;exact h
  have newBox:∀ (i:Nat) (bx:Box),(i,zO.live bx)∈bx2→∃ (id:Nat) (bx0:Box),ρ[i]?=some id∧st.box id=.live bx0∧id∉ids:=by
    intro i bx hm
    have h1:=hbx _ hm
    have hlt:i<ρ.length:=by have:=h1.1.1;simp [Nat.blt] at this;omega
    have hid:ρ[i]?=some (ρ.getD i 0):=by simp [List.getD,hlt]
    have hvc:∀ p∈wP st.box ids ρ (st.box (ρ.getD i 0)) (.live bx),p:=fun p hp=>hv p (List.mem_append_right _ (List.mem_flatMap.2 ⟨_,hm,hp⟩))
    generalize hst:st.box (ρ.getD i 0)=b0 at hvc
    cases b0 with
    | unused=>exact (hvc False (by simp [wP])).elim
    | dead=>exact (hvc False (by simp [wP])).elim
    | live bb =>
      refine ⟨_,bb,hid,hst,fun hmem=>?_⟩
      cases bb with
      | var t cs=>have:=(hids _ hmem).1;rw [hst] at this;simp [pJ] at this
      | map ag ks l=>have:=(hids _ hmem).1;rw [hst] at this;simp [pJ] at this
      | rowQ e s l m x=>have:=(hids _ hmem).1;rw [hst] at this;simp [pJ] at this
      | fam f=>have:=(hids _ hmem).1;rw [hst] at this;simp [pJ] at this
      | row e s l =>
        cases bx with
        | var t cs=>exact hvc False (by simp [wP])
        | map ag ks l=>exact hvc False (by simp [wP])
        | rowQ e s l m x=>exact hvc False (by simp [wP])
        | fam f=>exact hvc False (by simp [wP])
        | row e' s' l' =>
          have h2:=h1.2
          simp only [Bool.not_eq_true'] at h2
          rw [zD2 hmem] at h2;cases h2
  have hlen_np:np≤ρ.length:=by
    have:=congrArg List.length hrange
    simp at this;omega
  have hfirst:∀ i,i<np→ρ[i]?=some i:=by
    intro i hi
    have:=congrArg (·[i]?) hrange
    simp only [List.getElem?_take,if_pos hi,List.getElem?_range hi] at this
    exact this
  have hTc:∀ (i id:Nat),ρ[i]?=some id→Tc ρ T i=T id:=by
    intro i id hi
    simp [Tc,hi]
  have himm:∀ b,imm G st T b→imm G (mk sl2 bx2 ρ.length) (Tc ρ T) b:=by
    intro b hb
    refine ⟨hb.1,fun i bx cap hl hTi=>?_⟩
    obtain ⟨id,bx0,h1,h2,_⟩:=newBox i bx (boxOf i bx hl)
    rw [hTc i id h1] at hTi
    exact hb.2 id bx0 cap h2 hTi
  have hidI:∀ id b cap,id∈ids→T id=some (.at b cap)→imm G (mk sl2 bx2 ρ.length) (Tc ρ T) b:=by
    intro id b cap hmem hTi
    have hl:=(hids id hmem).1
    obtain ⟨bx0,hb0⟩:∃ bx0,st.box id=.live bx0:=by
      cases hb:st.box id<;>rw [hb] at hl<;>simp [pJ] at hl
      exact ⟨_,rfl⟩
    refine ⟨.inr (hT.mine id bx0 b cap hb0 hTi (by have:=zDw (hids id hmem).2;omega)),fun i bx cap' hl' hTi'=>?_⟩
    obtain ⟨id',bx',h1,h2,h3⟩:=newBox i bx (boxOf i bx hl')
    rw [hTc i id' h1] at hTi'
    have:=hT.apart id id' bx0 bx' b cap cap' hb0 h2 hTi hTi'
    exact h3 (this ▸ hmem)
  refine ⟨hT.defers,hT.size,?_,?_,?_,?_,?_,?_,hT.kept,fun i p hp=>by rw [hpin i] at hp;cases hp⟩
  · intro t
    simp only [mk]
    rcases zMf (sl:=sl2) (t:=t) with h | h
    · rw [h];exact .junk
    · generalize qV sl2 t=av2 at h
      have hc:=hsl _ h
      have hvc:=fun p hp=>hv p (List.mem_append_left _ (List.mem_flatMap.2 ⟨_,h,hp⟩))
      have h1:=zF5 hT (B:=st.box) (ids:=ids) (fun _ _=>rfl) (fun b hb=>himm b hb) hidI (hT.slots t) (fun p hp=>hvc p (List.mem_append_left _ hp)) hc.2
      have h2:=zMM h1 (fun p hp=>hvc p (List.mem_append_right _ hp)) (by rw [zLN];exact hc.1.2)
      exact zCs h2 av2 rfl hc.1.1
  · intro i bx hl
    have hm:=boxOf i bx hl
    obtain ⟨id,bx0,h1,h2,h3⟩:=newBox i bx hm
    have hc:=hbx _ hm
    have hid:ρ.getD i 0=id:=by simp [List.getD,h1]
    have hvc:∀ p∈wP st.box ids ρ (st.box (ρ.getD i 0)) (.live bx),p:=fun p hp=>hv p (List.mem_append_right _ (List.mem_flatMap.2 ⟨_,hm,hp⟩))
    rw [hid,h2] at hvc
    rw [hTc i id h1]
    have hok:=hT.boxes id bx0 h2
    have hbel:kY ρ.length bx=true:=hc.1.2
    refine zE3 ?_ hbel
    cases bx0 with
    | var t cs =>
      cases bx with
      | row e' s' l'=>exact (hvc False (by simp [wP])).elim
      | map ag ks l=>exact (hvc False (by simp [wP])).elim
      | rowQ e s l m x=>exact (hvc False (by simp [wP])).elim
      | fam f=>exact (hvc False (by simp [wP])).elim
      | var t' ds =>
        simp only [wP,List.mem_append] at hvc
        have e1:t=t':=hvc _ (.inl (by simp))
        have e2:uJ ds=true:=hvc _ (.inl (by simp))
        subst e1
        obtain ⟨k1,k2⟩:=zEz (fun p hp=>hvc p (.inr (.inr hp)))
        obtain ⟨b,C,p1,p2,p3,p4,p5⟩:=hok
        refine ⟨b,C,p1,p2,by rw [p3,← k1];simp,zAb.2 (zCS e2),fun j c hj=>?_⟩
        have hlt:j<cs.length:=by
          have:j<(uns ρ ds).length:=by
            rcases Nat.lt_or_ge j (uns ρ ds).length with h' | h'
            · exact h'
            · rw [List.getElem?_eq_none h'] at hj;cases hj
          rw [← k1] at this;simpa using this
        have hcj:=List.getElem?_eq_getElem hlt
        have h1':=zEO hT (B:=st.box) (ids:=ids) (fun _ _=>rfl) (fun b hb=>himm b hb) hidI (p5 j _ hcj) (fun p hp=>hvc p (.inr (.inl (List.mem_flatMap.2 ⟨_,List.mem_of_getElem? hcj,hp⟩))))
        exact zCC h1' (k2 j _ c (by rw [List.getElem?_map,hcj];rfl) hj)
    | row e s l =>
      cases bx with
      | var t' ds=>exact (hvc False (by simp [wP])).elim
      | map ag ks l=>exact (hvc False (by simp [wP])).elim
      | rowQ e s l m x=>exact (hvc False (by simp [wP])).elim
      | fam f=>exact (hvc False (by simp [wP])).elim
      | row e' s' l' =>
        have e1:e=e':=hvc _ (by simp [wP])
        have e2:s=s':=hvc _ (by simp [wP])
        have e3:l=l':=hvc _ (by simp [wP])
        subst e1;subst e2;subst e3
        exact hok.mono (Nat.le_refl _) (fun _ _ _=>rfl) (fun b hb _=>himm b hb) (fun _ _ h=>h) (fun _ _ _ _=>rfl)
    | map ag ks l =>
      cases bx with
      | var t' ds=>exact (hvc False (by simp [wP])).elim
      | row e s l'=>exact (hvc False (by simp [wP])).elim
      | rowQ e s l m x=>exact (hvc False (by simp [wP])).elim
      | fam f=>exact (hvc False (by simp [wP])).elim
      | map ag' ks' l' =>
        have e1:ag=ag':=hvc _ (by simp [wP])
        have e2:ks=ks':=hvc _ (by simp [wP])
        have e3:l=l':=hvc _ (by simp [wP])
        subst e1;subst e2;subst e3
        exact hok.mono (Nat.le_refl _) (fun _ _ _=>rfl) (fun b hb _=>himm b hb) (fun _ _ h=>h) (fun _ _ _ _=>rfl)
    | fam f =>
      cases bx with
      | var t' ds=>exact (hvc False (by simp [wP])).elim
      | row e s l'=>exact (hvc False (by simp [wP])).elim
      | map ag ks l=>exact (hvc False (by simp [wP])).elim
      | rowQ e s l m x=>exact (hvc False (by simp [wP])).elim
      | fam f'=>exact hok
    | rowQ e s l m x =>
      cases bx with
      | var t' ds=>exact (hvc False (by simp [wP])).elim
      | row e s l'=>exact (hvc False (by simp [wP])).elim
      | map ag ks l=>exact (hvc False (by simp [wP])).elim
      | fam f=>exact (hvc False (by simp [wP])).elim
      | rowQ e' s' l' m' x' =>
        simp only [wP,List.mem_append] at hvc
        have e1:e=e':=hvc _ (.inl (by simp))
        have e2:s=s':=hvc _ (.inl (by simp))
        have e3:l=l':=hvc _ (.inl (by simp))
        have e4:m=m':=hvc _ (.inl (by simp))
        have e5:uJ x'=true:=hvc _ (.inl (by simp))
        subst e1;subst e2;subst e3;subst e4
        obtain ⟨k1,k2⟩:=zEz (fun p hp=>hvc p (.inr hp))
        rcases hok with h0 | ⟨b,cap,C,p1,p2,p3,p4,p5,p6,p7,p8,p9⟩
        · exact .inl h0
        · refine .inr ⟨b,cap,C,p1,p2,p3,p4,p5,p6,p7,fun i av j c hi hj=>(p8 i av j c hi hj).mono (Nat.le_refl _) (fun _ _ _=>rfl) (fun b hb _=>himm b hb) (fun _ _ h=>h),fun hm=>⟨by rw [← k1];exact (p9 hm).1,zAb.2 (zCS e5),fun j c hj=>?_⟩⟩
          have hlt:j<x.length:=by
            have:j<(uns ρ x').length:=(List.getElem?_eq_some_iff.1 hj).1
            rw [← k1] at this;exact this
          have hcj:=List.getElem?_eq_getElem hlt
          have h1':=((p9 hm).2.2 j _ hcj).mono (Nat.le_refl _) (fun _ _ _=>rfl) (fun b hb _=>himm b hb) (fun _ _ h=>h)
          exact zCC h1' (k2 j _ c hcj hj)
  · intro i hu
    simp only [mk] at hu
    rcases zB4 (bx:=bx2) (i:=i) (d:=bif Nat.blt i ρ.length then zO.dead else .unused) with ⟨_,h⟩ | h
    · rw [h] at hu
      cases hlt:Nat.blt i ρ.length<;>rw [hlt] at hu
      · have hge:ρ.length≤i:=by
          rcases Nat.lt_or_ge i ρ.length with h' | h'
          · have:Nat.blt i ρ.length=true:=by simp [Nat.blt];omega
            rw [this] at hlt;cases hlt
          · exact h'
        simp [Tc,List.getElem?_eq_none hge]
      · cases hu
    · rw [hu] at h
      have:=(hbx _ h).2
      simp at this
  · intro i1 i2 b1 b2 b c1 c2 h1 h2 t1 t2
    obtain ⟨id1,x1,e1,l1,_⟩:=newBox i1 b1 (boxOf i1 b1 h1)
    obtain ⟨id2,x2,e2,l2,_⟩:=newBox i2 b2 (boxOf i2 b2 h2)
    rw [hTc i1 id1 e1] at t1
    rw [hTc i2 id2 e2] at t2
    have:=hT.apart id1 id2 x1 x2 b c1 c2 l1 l2 t1 t2
    subst this
    exact jD hnd e1 e2
  · intro i bx b cap hl hTi hge
    obtain ⟨id,x0,e1,l1,_⟩:=newBox i bx (boxOf i bx hl)
    rw [hTc i id e1] at hTi
    refine hT.mine id x0 b cap l1 hTi ?_
    rcases Nat.lt_or_ge id np with h' | h'
    · have:=jD hnd (hfirst id h') e1
      omega
    · omega
  · intro i p hp
    have hi:i<np:=by
      rw [← hnp]
      rcases Nat.lt_or_ge i G.foot.length with h' | h'
      · exact h'
      · rw [List.getElem?_eq_none h'] at hp;cases hp
    rw [hTc i i (hfirst i hi)]
    exact hT.foot i p hp

/-- What is known of hidden blocks does not hang on what must stay, but for a pointer that was taken out. -/
def xE.loose (G:xE):xE:={ G with pin:=fun _=>none }
theorem u3.loose {G G':xE} {Hd:Nat→Prop} (L:u3 G G' Hd):u3 G G'.loose Hd:=⟨L.pin,L.n,L.foot,⟨L.kept.os,L.kept.tape,L.kept.output,L.kept.size,L.kept.block⟩,L.I0,L.gift,L.scr,L.hid⟩
theorem vS.loose {G:xE} {st:AS} {T:Tbl} {a:Act} {w:World} (h:vS G st T a w):vS G.loose st T a w :=
  ⟨h.defers,h.size,h.slots,h.boxes,h.unused,h.apart,h.mine,h.foot,⟨h.kept.os,h.kept.tape,h.kept.output,h.kept.size,h.kept.block⟩,fun i p hp=>by cases hp⟩
theorem zCQ.loose {G:xE} {Hd:Nat→Prop} {f:Fam} (h:zCQ G Hd f) (hb:zHM f=true):zCQ G.loose Hd f:=by
  cases f with
  | opp=>cases hb
  | _=>exact h

theorem zMF {np:Nat} {st:AS} {ρ ids:List Nat} {sl2:List (Nat×AV)} {bx2:List (Nat×zO)} {vcs:List Prop} (h:zCO np st ρ ids sl2 bx2=some vcs) (hv:tY vcs) {G:xE} {Hd:Nat→Prop} (F:zA5 G Hd st) :
    zA5 G.loose Hd (mk sl2 bx2 ρ.length):=by
  unfold zCO at h
  replace h:=zY h;obtain ⟨hc,h⟩:=h
  simp only [Bool.and_eq_true,List.all_eq_true] at hc
  obtain ⟨⟨⟨hnd,_⟩,_⟩,_,hbx⟩:=hc
  simp only [Option.some.injEq] at h
  subst h
  have hv:=zC7 hv
  have key:∀ i f,(mk sl2 bx2 ρ.length).box i=.live (.fam f)→∃ id,ρ[i]?=some id∧st.box id=.live (.fam f)∧zHM f=true:=by
    intro i f hl
    simp only [mk] at hl
    have hm:(i,zO.live (.fam f))∈bx2:=by
      rcases zB4 (bx:=bx2) (i:=i) (d:=bif Nat.blt i ρ.length then zO.dead else .unused) with ⟨_,h⟩ | h
      · rw [h] at hl
        cases hlt:Nat.blt i ρ.length<;>rw [hlt] at hl<;>cases hl
      · rw [hl] at h;exact h
    have h1:=hbx _ hm
    have hlt:i<ρ.length:=by have:=h1.1.1;simp [Nat.blt] at this;omega
    have hid:ρ[i]?=some (ρ.getD i 0):=by simp [List.getD,hlt]
    have hvc:∀ p∈wP st.box ids ρ (st.box (ρ.getD i 0)) (.live (.fam f)),p:=fun p hp=>hv p (List.mem_append_right _ (List.mem_flatMap.2 ⟨_,hm,hp⟩))
    refine ⟨_,hid,?_,h1.1.2⟩
    generalize st.box (ρ.getD i 0)=b0 at hvc
    cases b0 with
    | unused=>exact (hvc False (by simp [wP])).elim
    | dead=>exact (hvc False (by simp [wP])).elim
    | live bb =>
      cases bb with
      | fam f'=>rw [hvc (f'=f) (by simp [wP])]
      | _=>exact (hvc False (by simp [wP])).elim
  refine ⟨fun i j f g h1 h2=>?_,fun i f h1=>?_⟩
  · obtain ⟨id,q1,q2,_⟩:=key i f h1
    obtain ⟨id',r1,r2,_⟩:=key j g h2
    have:=F.one id id' f g q2 r2
    subst this
    exact jD hnd q1 r1
  · obtain ⟨id,q1,q2,q3⟩:=key i f h1
    exact (F.ok id f q2).loose q3

theorem zNf {np:Nat} {st:AS} (ρ ids:List Nat) (sl2:List (Nat×AV)) (bx2:List (Nat×zO)) {vcs:List Prop} (h:zCO np st ρ ids sl2 bx2=some vcs) (hv:tY vcs) :
    Sub np st (mk sl2 bx2 ρ.length):=by
  rintro G a w hnp ⟨G',Hd,L,F,T,hT⟩
  refine ⟨G'.loose,Hd,L.loose,zMF h hv F,Tc ρ T,zMK ρ ids sl2 bx2 h hv (by rw [← hnp];exact congrArg List.length L.foot) (fun _=>rfl) hT.loose⟩
end Go.Ab
