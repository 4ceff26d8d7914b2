/- Words for rows whose last element grows; an empty row as such a one; pI-ups that split. -/
import Derived.Test.YtbifmbdcejggkaaA50
import Derived.Test.YtbifmbdcejggkaaA35
namespace Go.Ab
open Go
def ini {α:Type} (l:List α):List α:=l.dropLast
def lst {α:Type} [Inhabited α] (l:List α):α:=l.getLast?.getD default
section
variable {α:Type} [Inhabited α]
omit [Inhabited α] in
theorem zAa (l:List α) (x:α):ini (l++[x])=l:=by simp [ini]
theorem y3 (l:List α) (x:α):lst (l++[x])=x:=by simp [lst]
omit [Inhabited α] in
theorem zFJ (l:List α) (x:α):(!(l++[x]).isEmpty)=true:=by cases l<;>rfl
omit [Inhabited α] in
theorem zD5 (l:List α):(ini l).length=l.length - 1:=by simp [ini]
omit [Inhabited α] in
theorem zBx {l:List α} (h:0<l.length):(!l.isEmpty)=true:=by cases l<;>simp_all
theorem zCY {l:List α} (h:0<l.length):l=ini l++[lst l]:=by
 have hne:l≠[]:=fun e=>by subst e;simp at h
 simp only [ini,lst]
 rw [List.getLast?_eq_some_getLast hne]
 exact (List.dropLast_concat_getLast hne).symm
omit [Inhabited α] in
theorem zPh (f:α→AV) (l:List α):(List.map f (ini l)).length+(bif (!l.isEmpty) then 1 else 0)=l.length:=by
 rw [List.length_map,zD5]
 cases l<;>simp
omit [Inhabited α] in
theorem zEH (f:α→AV) {l:List α} {i:Nat} (h:i+1=l.length):i=(List.map f (ini l)).length:=by rw [List.length_map,zD5];omega
theorem zPe (f:α→AV) {l:List α} {i:Nat} (h:i+1=l.length):(List.map f l)[i]?=some (f (lst l)):=by
 have h0:0<l.length:=by omega
 have hl:(List.map f l)[i]?=(List.map f (ini l++[lst l]))[i]?:=by rw [← zCY h0]
 rw [hl]
 have:i=(List.map f (ini l)).length:=zEH f h
 rw [List.map_append,List.getElem?_append_right (by omega),this]
 simp
omit [Inhabited α] in
theorem zPa (x:α) {l:List α} {i:Nat} (h:i+1=l.length):(ini l++[x]).length=l.length:=by
 rw [List.length_append,zD5,List.length_singleton];omega
theorem zFd (f:α→AV) (l:List α) (c:AV) (h:f (lst l)=c):List.map f l=List.map f (ini l)++bif (!l.isEmpty) then [c] else []:=by
 rcases Nat.eq_zero_or_pos l.length with h0 | h0
 ·have:=List.eq_nil_of_length_eq_zero h0
  subst this;rfl
 ·rw [zBx h0,← h]
  conv=>lhs;rw [zCY h0]
  simp
end
def zFw (st:AS) (i E e sz ev esz:Nat) (x:List AV):AS :=
 ⟨st.slot,fun k=>bif Nat.beq k E then .live (.row ev esz []) else bif Nat.beq k i then .live (.rowQ e sz [] false x) else st.box k⟩
def zKX (st:AS) (i E:Nat):Option (Nat×Nat) :=
 match st.box i with
 | .live (.row e sz [])=>bif uJ (st.box E) then some (e,sz) else none
 | _=>none
theorem zLd {np:Nat} {st:AS} (i E ev esz:Nat) (x:List AV) {e sz:Nat} (h:zKX st i E=some (e,sz)):Sub np st (zFw st i E e sz ev esz x):=by
 intro G a w hnp hRF
 unfold zKX at h
 split at h
 case h_2=>cases h
 rename_i e0 sz0 hi
 replace h:=yH h;obtain ⟨hc,h⟩:=h
 have hu:=vL hc
 injection h with h;injection h with he hs
 subst he;subst hs
 have hbx:∀ k,(zFw st i E e0 sz0 ev esz x).box k=if k=E then .live (.row ev esz []) else if k=i then .live (.rowQ e0 sz0 [] false x) else st.box k:=by
  intro k
  simp only [zFw]
  by_cases e1:k=E
  ·subst e1;simp
  ·rw [x9 e1,if_neg e1]
   by_cases e2:k=i
   ·subst e2;simp
   ·rw [x9 e2,if_neg e2];rfl
 refine hRF.lift ?_ ?_
 ·intro k f hl
  rw [hbx] at hl
  by_cases e1:k=E
  ·rw [if_pos e1] at hl;cases hl
  rw [if_neg e1] at hl
  by_cases e2:k=i
  ·rw [if_pos e2] at hl;cases hl
  ·rw [if_neg e2] at hl;exact hl
 rintro G' _ hfo ⟨T,hT⟩
 have hn:=hT.unused E hu
 refine zFs hT hu (id:=E) (e:=ev) (sz:=esz) ?_ ?_ ?_
 ·intro t' I' hI
  exact (hT.slots t').mono (Nat.le_refl _) (fun _ _ _=>rfl) (fun b hb _=>hI b hb) (Tbl.le_put hn)
 ·intro k bx hl
  rw [hbx] at hl
  by_cases e1:k=E
  ·rw [if_pos e1] at hl;injection hl with hl;exact .inl ⟨e1,hl.symm⟩
  rw [if_neg e1] at hl
  by_cases e2:k=i
  ·rw [if_pos e2] at hl;injection hl with hl;subst hl;subst e2
   refine .inr ⟨e1,_,hi,fun I' hI=>?_⟩
   rcases hT.boxes k _ hi with ⟨h0,_⟩ | ⟨b,cap,C,p1,p2,p3,p4,p5,p6,p7,p8⟩
   ·exact .inl ⟨h0,rfl,rfl⟩
   ·exact .inr ⟨b,cap,C,p1,p2,p3,by simp,p5,p6,p7,fun i' av j c hi' hj=>by simp at hi',fun h=>by cases h⟩
  ·rw [if_neg e2] at hl
   exact .inr ⟨e1,bx,hl,fun I' hI=>(hT.boxes k bx hl).mono (Nat.le_refl _) (fun _ _ _=>rfl) (fun b hb _=>hI b hb) (Tbl.le_put hn) (fun _ _ _ _=>rfl)⟩
 ·intro k hk
  rw [hbx] at hk
  by_cases e1:k=E
  ·rw [if_pos e1] at hk;cases hk
  rw [if_neg e1] at hk
  by_cases e2:k=i
  ·rw [if_pos e2] at hk;cases hk
  ·rw [if_neg e2] at hk;exact ⟨e1,hk⟩
theorem zNx {α:Type} (o:Option α):o=none∨∃ x,o=some x:=by cases o<;>simp
def zMx {α β:Type} (o:Option α) (a:β) (f:α→β):β:=match o with | none=>a | some x=>f x
theorem zN6 {α β:Type} {o:Option α} {a:β} {f:α→β} {r:β} (h:o=none) (hr:zMx o a f=r):a=r:=by rw [h] at hr;exact hr
theorem zNf {α β:Type} {o:Option α} {a:β} {f:α→β} {r:β} {x:α} (h:o=some x) (hr:zMx o a f=r):f x=r:=by rw [h] at hr;exact hr
section
variable {α β:Type} [DecidableEq α] {f:α→AV} {g:β→AV}
theorem zNt (hf:∀ a b,f a=f b→a=b) {l:List (α×β)} {k:α} (h:yO l k=none) (z:AV):k0 (l.map (mpE f g)) (f k) z z false:=by
 refine .inr ⟨fun x hx=>?_,rfl,rfl⟩
 obtain ⟨p,hp,rfl⟩:=List.mem_map.1 hx
 exact fun e=>zDt h p hp (hf _ _ e)
theorem zNS {l:List (α×β)} {k:α} {v:β} (h:yO l k=some v) (z:AV):k0 (l.map (mpE f g)) (f k) z (g v) true:=by
 obtain ⟨i,p,h1,h2,h3,_⟩:=zFA h
 exact .inl ⟨i,mpE f g p,by rw [List.getElem?_map,h1];rfl,by simp [mpE,h2],by simp [mpE,h3],rfl⟩
omit [DecidableEq α] in
theorem zP2 {g2:β→AV} (hg:∀ v,fzV (g v)=g2 v) (l:List (α×β)):l.map (mpE f g2)=(l.map (mpE f g)).map fun x=>(x.1,fzV x.2):=by
 rw [List.map_map];congr 1;funext p;simp [mpE,hg]
omit [DecidableEq α] in
theorem zP6 {sz esz:Nat} (hg:∀ v:β,zGN (g v)∧zFp sz esz (g v)=true) (l:List (α×β)):∀ x∈l.map (mpE f g),zGN x.2∧zFp sz esz x.2=true:=by
 intro x hx
 obtain ⟨p,_,rfl⟩:=List.mem_map.1 hx
 exact hg p.2
end
end Go.Ab
