/- A state seen otherwise: the last element's row sealed in and taken out, a map that begins and ends to hold hidden blocks. -/
import Derived.Test.YtbifmbdcejggkaaA41
namespace Go.Ab
open Go

/-- A row as a slice that nobody writes. -/
theorem zKm {w:World} {I J:Nat→Prop} {T T':Tbl} {e:TypeId} {sz b cap c:Nat} {l:List AV} (h:uH w I T (some (.at b cap)) (.row e sz l)) (hIJ:∀ b,I b→b<w.heap.size→J b) (hJ:J b) (hc:l.length≤c) (hc':c≤maxLen) :
    Rep w J T' (.slice (some ⟨b,0,none⟩) l.length c) (.sl false sz l):=by
  have hlt:=h.lt
  rcases h with ⟨hp,_⟩ | ⟨b',cap',C,hp,hh,h1,h2,h3,h4,h5,h6⟩
  · cases hp
  injection hp with hp;injection hp with e1 e2;subst e1;subst e2
  refine .sl (fun i j=>C.getD (i * sz+j) undef) rfl hc hc' (by simp) h4 h5 hJ hlt ?_ ?_
  · intro i av j c' hi hj
    have hg:=qR h4 hi hj
    have hlt':i * sz+j<C.size:=by
      have:i * sz+j<(wW l).length:=(List.getElem?_eq_some_iff.1 hg).1
      rw [uO h4] at this
      have:=Nat.mul_le_mul_right sz h2
      omega
    rw [show 0+i * sz+j=i * sz+j by omega]
    simp [World.cell?,hh,hlt',Array.getD_eq_getD_getElem?]
  · intro i av j c' hi hj
    exact (h6 i av j c' hi hj).mono (Nat.le_refl _) (fun _ _ _=>rfl) hIJ (fun _ _ h=>h)

/-- A row with its last element's row, as a row. -/
theorem zIz {w:World} {I J:Nat→Prop} {T:Tbl} {p:Option yY} {e ev:TypeId} {sz esz E n:Nat} {l es:List AV} {m:Bool} {x:List AV}
    (h:uH w I T p (.rowQ e sz l m (x++[.own E n]))) (hE:uH w I T (T E) (.row ev esz es)) (hn:n=es.length) (hx:AV.pures x=true) (hIJ:∀ b,I b→b<w.heap.size→J b) (hJ:∀ b c,T E=some (.at b c)→J b) :
    uH w J T p (.row e sz (l++bif m then [.agg (x++[.sl false esz es])] else [])):=by
  rcases h with ⟨h1,h2,h3⟩ | ⟨b,cap,C,h1,h2,h3,h4,h5,h6,h7,h8,h9⟩
  · subst h2;subst h3;exact .inl ⟨h1,rfl⟩
  refine .inr ⟨b,cap,C,h1,h2,h3,by cases m<;>simpa using h4,h5,?_,?_,?_⟩
  · intro av hav
    rcases List.mem_append.1 hav with hav | hav
    · exact h6 av hav
    · cases m
      · simp at hav
      · simp at hav;subst hav
        have:=(h9 rfl).1
        simpa [AV.cells] using this
  · intro av hav c hc
    rcases List.mem_append.1 hav with hav | hav
    · exact h7 av hav c hc
    · cases m
      · simp at hav
      · simp at hav;subst hav
        simp only [AV.cells,List.mem_append,List.mem_singleton] at hc
        rcases hc with hc | hc
        · exact (h9 rfl).2.1 c (by simp [hc])
        · subst hc;rfl
  · intro i av j c hi hj
    rcases Nat.lt_or_ge i l.length with hlt | hge
    · rw [List.getElem?_append_left hlt] at hi
      exact (h8 i av j c hi hj).mono (Nat.le_refl _) (fun _ _ _=>rfl) hIJ (fun _ _ h=>h)
    · rw [List.getElem?_append_right hge] at hi
      cases m
      · simp at hi
      · simp only [cond_true] at hi
        have h0:i - l.length=0:=by
          have:=(List.getElem?_eq_some_iff.1 hi).1
          simp at this;omega
        rw [h0] at hi
        simp at hi;subst hi
        have hil:i=l.length:=by omega
        subst hil
        obtain ⟨q1,q2,q3⟩:=h9 rfl
        simp only [AV.cells] at hj
        rcases Nat.lt_or_ge j x.length with hjl | hjg
        · rw [List.getElem?_append_left hjl] at hj
          have:=q3 j c (by rw [List.getElem?_append_left hjl];exact hj)
          exact ((this.mono (Nat.le_refl _) (fun _ _ _=>rfl) hIJ (fun _ _ h=>h)):Rep w J T _ _).bare (AV.pures_get hx hj)
        · rw [List.getElem?_append_right hjg] at hj
          have hj0:j - x.length=0:=by
            have:=(List.getElem?_eq_some_iff.1 hj).1
            simp at this;omega
          rw [hj0] at hj
          simp at hj;subst hj
          have hjx:j=x.length:=by omega
          have hr:=q3 j (.own E n) (by rw [hjx];simp)
          generalize C.getD (l.length * sz+j) undef=v at hr
          cases hr with
          | ownNil hT =>
            have:es=[]:=List.eq_nil_of_length_eq_zero hn.symm
            subst this
            exact .sl0 (by simp [maxLen]) (by simp)
          | own hT k1 k2 =>
            rw [hT] at hE
            rename_i b1 cap1
            subst hn
            exact zKm hE hIJ (hJ b1 cap1 hT) k1 k2

def nX:List AV→Option (List AV×AV)
  | []=>none
  | [a]=>some ([],a)
  | a::b::r=>match nX (b::r) with
    | some (x,y)=>some (a::x,y)
    | none=>none
theorem zDx:∀ {cs x:List AV} {a:AV},nX cs=some (x,a)→cs=x++[a]
  | [],_,_,h=>by simp [nX] at h
  | [c],x,a,h=>by simp [nX] at h;obtain ⟨rfl,rfl⟩:=h;rfl
  | c::d::r,x,a,h=>by
    simp only [nX] at h
    split at h
    · rename_i x' y' h'
      injection h with h;injection h with h1 h2;subst h1;subst h2
      rw [zDx h'];rfl
    · cases h

def zBC (st:AS) (i E e sz:Nat) (L:List AV):AS:=⟨st.slot,fun k=>bif Nat.beq k E then .dead else bif Nat.beq k i then .live (.row e sz L) else st.box k⟩
/-- The last element's row is given away into it. -/
def zMo (np:Nat) (st:AS) (i E:Nat) (L:List AV):Option (List Prop×Nat×Nat) :=
  match st.box i,st.box E with
  | .live (.rowQ e sz l m x),.live (.row _ esz es) =>
    match nX x with
    | some (x0,.own E' n)=>bif (Nat.beq E E'&&AV.pures x0)&&(!(Nat.beq i E)&&Nat.ble np E) then some ([n=es.length,L=l++bif m then [.agg (x0++[.sl false esz es])] else []],e,sz) else none
    | _=>none
  | _,_=>none

theorem zIf {np:Nat} {st:AS} (i E:Nat) (L:List AV) {vcs:List Prop} {e sz:Nat} (h:zMo np st i E L=some (vcs,e,sz)) (hv:tY vcs):Sub np st (zBC st i E e sz L):=by
  intro G a w hnp hRF
  unfold zMo at h
  split at h
  case h_2=>cases h
  rename_i e0 sz0 l m x ev esz es hi hE
  split at h
  case h_2=>cases h
  rename_i x0 E' n hsp
  replace h:=zY h;obtain ⟨hc,h⟩:=h
  simp only [Bool.and_eq_true,Bool.not_eq_true'] at hc
  obtain ⟨⟨h1,hx⟩,h2,h3⟩:=hc
  have hEE:=xO.1 h1
  subst hEE
  have hnpE:=zDw h3
  have hne:i≠E:=fun e=>by rw [e,zA4] at h2;cases h2
  injection h with h;injection h with hvc h;injection h with he hs
  subst he;subst hs;subst hvc
  have hv:=zC7 hv
  have hn:n=es.length:=hv _ (by simp)
  have hL:L=l++bif m then [.agg (x0++[.sl false esz es])] else []:=hv _ (by simp)
  have hsp:=zDx hsp
  have hbx:∀ k,(zBC st i E e0 sz0 L).box k=if k=E then .dead else if k=i then .live (.row e0 sz0 L) else st.box k:=by
    intro k
    simp only [zBC]
    by_cases e1:k=E
    · subst e1;simp
    · rw [xQ e1,if_neg e1]
      by_cases e2:k=i
      · subst e2;simp
      · rw [xQ e2,if_neg e2];rfl
  refine hRF.lift ?_ ?_
  · intro k f hl
    rw [hbx] at hl
    by_cases e1:k=E
    · rw [if_pos e1] at hl;cases hl
    rw [if_neg e1] at hl
    by_cases e2:k=i
    · rw [if_pos e2] at hl;cases hl
    · rw [if_neg e2] at hl;exact hl
  rintro G' _ hfo ⟨T,hT⟩
  have hlive:∀ k bx,(zBC st i E e0 sz0 L).box k=.live bx→k≠E∧((k=i∧bx=.row e0 sz0 L)∨(k≠i∧st.box k=.live bx)):=by
    intro k bx hl
    rw [hbx] at hl
    by_cases e1:k=E
    · rw [if_pos e1] at hl;cases hl
    rw [if_neg e1] at hl
    by_cases e2:k=i
    · rw [if_pos e2] at hl;injection hl with hl;exact ⟨e1,.inl ⟨e2,hl.symm⟩⟩
    · rw [if_neg e2] at hl;exact ⟨e1,.inr ⟨e2,hl⟩⟩
  have hold:∀ k bx,(zBC st i E e0 sz0 L).box k=.live bx→∃ bx0,st.box k=.live bx0:=by
    intro k bx hl
    rcases (hlive k bx hl).2 with ⟨rfl,_⟩ | ⟨_,h⟩
    · exact ⟨_,hi⟩
    · exact ⟨_,h⟩
  have himm:∀ b,imm G' st T b→imm G' (zBC st i E e0 sz0 L) T b:=fun b hb=>⟨hb.1,fun k bx cap hl hTk=>by obtain ⟨bx0,h0⟩:=hold k bx hl;exact hb.2 k bx0 cap h0 hTk⟩
  have himmE:∀ b c,T E=some (.at b c)→imm G' (zBC st i E e0 sz0 L) T b:=by
    intro b c hTE
    refine ⟨.inr (hT.mine E _ b c hE hTE (by rw [hfo,hnp];exact hnpE)),fun k bx cap hl hTk=>?_⟩
    obtain ⟨bx0,h0⟩:=hold k bx hl
    exact (hlive k bx hl).1 (hT.apart k E bx0 _ b cap c h0 hE hTk hTE)
  refine ⟨T,hT.defers,hT.size,fun t=>(hT.slots t).mono (Nat.le_refl _) (fun _ _ _=>rfl) (fun b hb _=>himm b hb) (fun _ _ h=>h),?_,?_,?_,?_,hT.foot,hT.kept,hT.pin⟩
  · intro k bx hl
    rcases (hlive k bx hl).2 with ⟨rfl,rfl⟩ | ⟨_,h⟩
    · have h0:=hT.boxes k _ hi
      rw [hsp] at h0
      have h1:=zIz h0 (hT.boxes E _ hE) hn hx (fun b hb _=>himm b hb) himmE
      rw [← hL] at h1
      exact h1
    · exact (hT.boxes k bx h).mono (Nat.le_refl _) (fun _ _ _=>rfl) (fun b hb _=>himm b hb) (fun _ _ h=>h) (fun _ _ _ _=>rfl)
  · intro k hk
    rw [hbx] at hk
    by_cases e1:k=E
    · rw [if_pos e1] at hk;cases hk
    rw [if_neg e1] at hk
    by_cases e2:k=i
    · rw [if_pos e2] at hk;cases hk
    · rw [if_neg e2] at hk;exact hT.unused k hk
  · intro k1 k2 b1 b2 b c1 c2 l1 l2
    obtain ⟨x1,o1⟩:=hold k1 b1 l1
    obtain ⟨x2,o2⟩:=hold k2 b2 l2
    exact hT.apart k1 k2 x1 x2 b c1 c2 o1 o2
  · intro k bx b cap hl
    obtain ⟨x1,o1⟩:=hold k bx hl
    exact hT.mine k x1 b cap o1

def zEB (st:AS) (i E e sz ev esz:Nat) (l x:List AV):AS :=
  ⟨st.slot,fun k=>bif Nat.beq k E then .live (.row ev esz []) else bif Nat.beq k i then .live (.rowQ e sz l true (x++[.own E 0])) else st.box k⟩
/-- The last element's empty row is taken out of it. -/
def zJi (st:AS) (i E:Nat) (l x:List AV):Option (List Prop×Nat×Nat) :=
  match st.box i with
  | .live (.row e sz L)=>bif v9 (st.box E)&&AV.pures x then some ([L=l++[.agg (x++[.nilsl])]],e,sz) else none
  | _=>none

theorem zFg {np:Nat} {st:AS} (i E ev esz:Nat) (l x:List AV) {vcs:List Prop} {e sz:Nat} (h:zJi st i E l x=some (vcs,e,sz)) (hv:tY vcs):Sub np st (zEB st i E e sz ev esz l x):=by
  intro G a w hnp hRF
  unfold zJi at h
  split at h
  case h_2=>cases h
  rename_i e0 sz0 L hi
  replace h:=zY h;obtain ⟨hc,h⟩:=h
  simp only [Bool.and_eq_true] at hc
  have hu:=vJ hc.1
  injection h with h;injection h with hvc h;injection h with he hs
  subst he;subst hs;subst hvc
  have hL:L=l++[.agg (x++[.nilsl])]:=(zC7 hv) _ (by simp)
  have hbx:∀ k,(zEB st i E e0 sz0 ev esz l x).box k=if k=E then .live (.row ev esz []) else if k=i then .live (.rowQ e0 sz0 l true (x++[.own E 0])) else st.box k:=by
    intro k
    simp only [zEB]
    by_cases e1:k=E
    · subst e1;simp
    · rw [xQ e1,if_neg e1]
      by_cases e2:k=i
      · subst e2;simp
      · rw [xQ e2,if_neg e2];rfl
  refine hRF.lift ?_ ?_
  · intro k f hl
    rw [hbx] at hl
    by_cases e1:k=E
    · rw [if_pos e1] at hl;cases hl
    rw [if_neg e1] at hl
    by_cases e2:k=i
    · rw [if_pos e2] at hl;cases hl
    · rw [if_neg e2] at hl;exact hl
  rintro G' _ hfo ⟨T,hT⟩
  have hn:=hT.unused E hu
  refine zDO hT hu (id:=E) (e:=ev) (sz:=esz) ?_ ?_ ?_
  · intro t' I' hI
    exact (hT.slots t').mono (Nat.le_refl _) (fun _ _ _=>rfl) (fun b hb _=>hI b hb) (Tbl.le_put hn)
  · intro k bx hl
    rw [hbx] at hl
    by_cases e1:k=E
    · rw [if_pos e1] at hl;injection hl with hl;exact .inl ⟨e1,hl.symm⟩
    rw [if_neg e1] at hl
    by_cases e2:k=i
    · rw [if_pos e2] at hl;injection hl with hl;subst hl;subst e2
      refine .inr ⟨e1,_,hi,fun I' hI=>?_⟩
      rcases hT.boxes k _ hi with ⟨_,h0⟩ | ⟨b,cap,C,p1,p2,p3,p4,p5,p6,p7,p8⟩
      · rw [hL] at h0;simp at h0
      have hlast:L[l.length]?=some (.agg (x++[.nilsl])):=by rw [hL];simp
      have hsz:=p6 _ (List.mem_of_getElem? hlast)
      have hone:=p7 _ (List.mem_of_getElem? hlast)
      refine .inr ⟨b,cap,C,p1,p2,p3,by rw [hL] at p4;simpa using p4,p5,fun av hav=>p6 av (by rw [hL];simp [hav]),fun av hav=>p7 av (by rw [hL];simp [hav]),?_,fun _=>⟨by simpa [AV.cells] using hsz,?_,?_⟩⟩
      · intro i' av j c hi' hj
        have hlt:=(List.getElem?_eq_some_iff.1 hi').1
        exact (p8 i' av j c (by rw [hL,List.getElem?_append_left hlt];exact hi') hj).mono (Nat.le_refl _) (fun _ _ _=>rfl) (fun b hb _=>hI b hb) (fun _ _ h=>h)
      · intro c hc
        rcases List.mem_append.1 hc with hc | hc
        · exact hone c (by simp [AV.cells,hc])
        · rw [List.mem_singleton.1 hc];rfl
      · intro j c hj
        rcases Nat.lt_or_ge j x.length with hjl | hjg
        · rw [List.getElem?_append_left hjl] at hj
          have:=p8 _ _ j c hlast (by simp only [AV.cells];rw [List.getElem?_append_left hjl];exact hj)
          exact (this.mono (I':=I') (Nat.le_refl _) (fun _ _ _=>rfl) (fun b hb _=>hI b hb) (fun _ _ h=>h)).bare (AV.pures_get hc.2 hj)
        · rw [List.getElem?_append_right hjg] at hj
          have hj0:j - x.length=0:=by
            have:=(List.getElem?_eq_some_iff.1 hj).1
            simp at this;omega
          rw [hj0] at hj
          simp at hj;subst hj
          have hjx:j=x.length:=by omega
          have:=p8 _ _ j .nilsl hlast (by simp only [AV.cells];rw [hjx];simp)
          generalize C.getD (l.length * sz0+j) undef=v at this
          cases this with
          | nilsl=>exact .ownNil (Tbl.put_same _ _ _)
    · rw [if_neg e2] at hl
      exact .inr ⟨e1,bx,hl,fun I' hI=>(hT.boxes k bx hl).mono (Nat.le_refl _) (fun _ _ _=>rfl) (fun b hb _=>hI b hb) (Tbl.le_put hn) (fun _ _ _ _=>rfl)⟩
  · intro k hk
    rw [hbx] at hk
    by_cases e1:k=E
    · rw [if_pos e1] at hk;cases hk
    rw [if_neg e1] at hk
    by_cases e2:k=i
    · rw [if_pos e2] at hk;cases hk
    · rw [if_neg e2] at hk;exact ⟨e1,hk⟩
end Go.Ab
