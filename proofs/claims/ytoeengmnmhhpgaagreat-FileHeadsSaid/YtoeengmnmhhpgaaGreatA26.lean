/- What a reading of the arguments gives: abstract values of the types' qH. -/
import Derived.Test.YtoeengmnmhhpgaaGreatA23
import Derived.OpenShut
import Derived.SizedLaws
namespace Go.Ab
open Go

inductive Sh where
  | int (k:IntKind)
  | bool
  | str
  | sl (agg:Bool) (e:List Sh)

/-- The greatest length that a reading's slices and texts have. -/
abbrev qX:Nat:=140737488355328
/-- Cells of given qH. -/
inductive Fit:List Sh→List AV→Prop
  | nil:Fit [] []
  | int {k n r b}:k.wrap n=n→Fit r b→Fit (.int k::r) (.int k n::b)
  | bool {v r b}:Fit r b→Fit (.bool::r) (.bool v::b)
  | str {l r b}:(∀ x∈l,0≤x∧x<256)→l.length≤qX→Fit r b→Fit (.str::r) (.str l::b)
  | slA {e l r b} (g:AV→List AV):(∀ a∈l,a=.agg (g a))→(∀ a∈l,Fit e (g a))→l.length≤qX→Fit r b→Fit (.sl true e::r) (.sl false e.length l::b)
  | slC {e l r b}:e.length=1→(∀ a∈l,Fit e [a])→l.length≤qX→Fit r b→Fit (.sl false e::r) (.sl false e.length l::b)

theorem Fit.len {s:List Sh} {a:List AV} (h:Fit s a):a.length=s.length:=by
  induction h with
  | nil=>rfl
  | int _ _ ih=>simp [ih]
  | bool _ ih=>simp [ih]
  | str _ _ _ ih=>simp [ih]
  | slA _ _ _ _ _ _ ih=>simp [ih]
  | slC _ _ _ _ _ ih=>simp [ih]

theorem Fit.append {s s':List Sh} {a a':List AV} (h:Fit s a) (h':Fit s' a'):Fit (s++s') (a++a'):=by
  induction h with
  | nil=>exact h'
  | int x _ ih=>exact .int x ih
  | bool _ ih=>exact .bool ih
  | str x y _ ih=>exact .str x y ih
  | slA g x y z _ _ ih=>exact .slA g x y z ih
  | slC w x z _ _ ih=>exact .slC w x z ih

theorem Fit.one {s:List Sh} {a:List AV} (h:Fit s a):∀ c∈a,c.one=true:=by
  induction h with
  | nil=>intro c hc;cases hc
  | int _ _ ih=>intro c hc;cases hc with | head=>rfl | tail _ hc=>exact ih c hc
  | bool _ ih=>intro c hc;cases hc with | head=>rfl | tail _ hc=>exact ih c hc
  | str _ _ _ ih=>intro c hc;cases hc with | head=>rfl | tail _ hc=>exact ih c hc
  | slA _ _ _ _ _ _ ih=>intro c hc;cases hc with | head=>rfl | tail _ hc=>exact ih c hc
  | slC _ _ _ _ _ ih=>intro c hc;cases hc with | head=>rfl | tail _ hc=>exact ih c hc

def gG (P:Program) (g:TypeId→Option (List Sh)):List Field→Nat→Option (List Sh)
  | [],_=>some []
  | f::r,off =>
    match g f.type with
    | none=>none
    | some a=>match gG P g r (off+P.cellsOf f.type) with
      | none=>none
      | some b=>bif Nat.beq f.offset off&&Nat.beq a.length (P.cellsOf f.type) then some (a++b) else none

def qH (P:Program):Nat→TypeId→Option (List Sh)
  | 0,_=>none
  | n+1,t =>
    match P.underlying t with
    | some (.int k)=>some [.int k]
    | some .bool=>some [.bool]
    | some .string=>some [.str]
    | some (.slice e)=>match qH P n e with
      | some ss=>bif (Nat.beq ss.length (P.cellsOf e)&&!(Nat.beq ss.length 0))&&(wR P e||Nat.beq ss.length 1)&&Nat.ble 1 (P.bytesOf e) then some [.sl (wR P e) ss] else none
      | none=>none
    | some (.struct fs)=>match gG P (qH P n) fs.toList 0 with
      | some ss=>bif Nat.beq ss.length (P.cellsOf t) then some ss else none
      | none=>none
    | some (.array m e)=>match qH P n e with
      | some ss=>bif Nat.beq ss.length (P.cellsOf e)&&Nat.beq (m * ss.length) (P.cellsOf t) then some ((List.replicate m ss).flatten) else none
      | none=>none
    | _=>none

theorem W7 {w:World} {a:Addr} {v:Value} (h:w.cell? a=some v):a.block<w.heap.size:=by
  rcases Nat.lt_or_ge a.block w.heap.size with h' | h'
  · exact h'
  · simp [World.cell?,Array.getElem?_eq_none h'] at h

theorem KG {k:IntKind} {n:Int} (h:(Lit.int k n).wf=true):k.wrap n=n:=by
  simp only [Lit.wf,Bool.and_eq_true,IntKind.min,IntKind.max] at h
  apply n9
  obtain ⟨h1,h2⟩:=h
  replace h1:=of_decide_eq_true h1
  replace h2:=of_decide_eq_true h2
  constructor
  · exact h1
  · by_cases hs:k.signed=true
    · rw [if_pos hs] at h2 ⊢;omega
    · rw [if_neg hs] at h2 ⊢;omega

theorem Rep.cells_one {c:AV} (h:c.one=true):c.cells=[c]:=by cases c<;>simp_all [AV.one,AV.cells]

theorem J4 {H:Type} {P:Program} {e:TypeId}:∀ {l:List (DataW H)} {d:DataW H},d∈l→∀ k∈d.weights P e,k∈DataW.weightsAll P e l:=by
  intro l
  induction l with
  | nil=>intro d h;cases h
  | cons a r ih =>
    intro d h k hk
    simp only [DataW.weightsAll,List.mem_append]
    rcases List.mem_cons.1 h with rfl | h
    · exact .inl hk
    · exact .inr (ih h k hk)
theorem SO {H:Type} {enc:TypeId×Value→H} {P:Program} {w:World} {I:Nat→Prop} (hI:∀ b,b<w.heap.size→I b) {base:Nat} {spare:Nat→Bool} {held:Bool} :
    ∀ (n:Nat) (t:TypeId) (ss:List Sh) (fuel:Nat) (cs:List Value) (x:DataW H×List MemPlace) (T:Tbl),qH P n t=some ss→DataW.trod enc P w base spare held fuel t cs=some x→(∀ k∈x.1.weights P t,k≤qX) →
      ∃ avs,Fit ss avs∧cs.length=avs.length∧∀ j c,avs[j]?=some c→Rep w I T (cs.getD j undef) c:=by
  intro n
  induction n with
  | zero=>intro t ss fuel cs x T h;simp [qH] at h
  | succ n ih =>
    intro t ss fuel cs x T h hx hw
    simp only [qH] at h
    split at h
    · rename_i k hk
      injection h with h;subst h
      obtain ⟨m,rfl,_,hwf⟩:=DataW.trod_int hk hx
      refine ⟨[.int k m],.int (KG hwf) .nil,rfl,?_⟩
      intro j c hj
      match j with
      | 0=>simp at hj;subst hj;exact .int (KG hwf)
      | j+1=>simp at hj
    · rename_i hk
      injection h with h;subst h
      obtain ⟨m,rfl,_⟩:=DataW.trod_bool hk hx
      refine ⟨[.bool m],.bool .nil,rfl,?_⟩
      intro j c hj
      match j with
      | 0=>simp at hj;subst hj;exact .bool
      | j+1=>simp at hj
    · rename_i hk
      injection h with h;subst h
      obtain ⟨m,rfl,hxe,hm⟩:=DataW.trod_string hk hx
      have hl:(bytesOf m).length≤maxLen:=by
        have e:(bytesOf m).length=m.size:=by simp only [bytesOf,List.length_map,Array.length_toList];rfl
        rw [e];exact hm
      have hl2:(bytesOf m).length≤qX:=by
        have:=hw m.data.toList.length (by rw [hxe];simp [DataW.weights])
        have e:(bytesOf m).length=m.data.toList.length:=by simp only [bytesOf,List.length_map,Array.length_toList]
        rw [e];exact this
      refine ⟨[.str (bytesOf m)],.str (DE m) hl2 .nil,rfl,?_⟩
      intro j c hj
      match j with
      | 0 =>
        simp at hj;subst hj
        have:=Rep.str (w:=w) (I:=I) (T:=T) (DE m) hl
        rw [J5] at this;exact this
      | j+1=>simp at hj
    · rename_i e hk
      split at h
      case h_2=>cases h
      rename_i ss' hss
      replace h:=y7 h;obtain ⟨hc,h⟩:=h
      simp only [Bool.and_eq_true,Bool.or_eq_true,Bool.not_eq_true'] at hc
      obtain ⟨⟨⟨hlen,hne⟩,hagg⟩,hby⟩:=hc
      replace hby:=zle hby
      have hlen:=xP.1 hlen
      have hpos:0<ss'.length:=by
        rcases Nat.eq_zero_or_pos ss'.length with h0 | h0
        · rw [h0] at hne;simp at hne
        · exact h0
      injection h with h;subst h
      have fin:∀ (l:List AV) (v:Value),l.length≤qX →
          (wR P e=true→∃ g:AV→List AV,(∀ a∈l,a=.agg (g a))∧∀ a∈l,Fit ss' (g a))→(wR P e=false→∀ a∈l,Fit ss' [a]) →
          Rep w I T v (.sl false ss'.length l)→∃ avs,Fit [.sl (wR P e) ss'] avs∧[v].length=avs.length∧∀ j c,avs[j]?=some c→Rep w I T ([v].getD j undef) c:=by
        intro l v hl hA hC hr
        refine ⟨[.sl false ss'.length l],?_,rfl,?_⟩
        · cases ha:wR P e
          · refine .slC ?_ (hC ha) hl .nil
            rcases hagg with h1 | h1
            · rw [ha] at h1;cases h1
            · exact xP.1 h1
          · obtain ⟨g,h1,h2⟩:=hA ha
            exact .slA g h1 h2 hl .nil
        · intro j c hj
          match j with
          | 0=>simp at hj;subst hj;exact hr
          | j+1=>simp at hj
      rcases DataW.trod_slice hk hx with ⟨rfl,_⟩ | ⟨a,len,cap,elems,rest,m,_,rfl,hxe,_,hlc,hcm,hel,hget,_,_⟩
      · exact fin [] _ (by simp) (fun _=>⟨fun _=>[],by simp,by simp⟩) (fun _=>by simp) (.sl0 (by decide) (by intro h;cases h))
      have hlenM:len≤qX:=by
        have h1:=hw (((elems.map (·.1)).length+(rest.map (·.1)).length) * P.bytesOf e) (by rw [hxe];simp [DataW.weights,hk])
        have h2:(elems.map (·.1)).length+(rest.map (·.1)).length≤((elems.map (·.1)).length+(rest.map (·.1)).length) * P.bytesOf e:=Nat.le_mul_of_pos_right _ hby
        rw [List.length_map] at h1 h2
        omega
      have hwe:∀ d∈elems,∀ k∈d.1.weights P e,k≤qX:=fun d hd k hk2=>hw k (by
        rw [hxe]
        simp only [DataW.weights,hk,List.mem_cons,List.mem_append]
        exact .inr (.inl (J4 (List.mem_map.2 ⟨d,hd,rfl⟩) k hk2)))
      have key:∀ i,i<len→∃ (ci:List Value) (avs:List AV),(∀ j,j<ss'.length→w.cell? ((a.add (i * P.cellsOf e)).add j)=ci[j]?)∧ci.length=ss'.length∧Fit ss' avs∧∀ j c,avs[j]?=some c→Rep w I Tbl.empty (ci.getD j undef) c:=by
        intro i hi
        have h1:=hget i hi
        have h2:elems[i]?=some (elems[i]'(by omega)):=List.getElem?_eq_getElem (by omega)
        rw [h2,Option.bind_eq_some_iff] at h1
        obtain ⟨ci,h3,h4⟩:=h1
        obtain ⟨_,h5,h6⟩:=World.cells?_some h3
        obtain ⟨avs,h7,h8,h9⟩:=ih e ss' m ci _ Tbl.empty hss h4 (hwe _ (List.getElem_mem _))
        exact ⟨ci,avs,fun j hj=>h6 j (by omega),by omega,h7,h9⟩
      rcases Nat.eq_zero_or_pos len with h0 | h0
      · subst h0
        exact fin [] _ (by simp) (fun _=>⟨fun _=>[],by simp,by simp⟩) (fun _=>by simp) (.sl0 hcm (by intro h;cases h))
      have spot:a.spot=none∧a.block<w.heap.size:=by
        obtain ⟨ci,avs,h1,h2,_⟩:=key 0 h0
        have h3:=h1 0 hpos
        have h4:ci[0]?=some (ci[0]'(by omega)):=List.getElem?_eq_getElem (by omega)
        rw [h4] at h3
        have h5:=World.cell?_spot h3
        have h6:=W7 h3
        constructor
        · revert h5;unfold Addr.add;cases ha:a.spot<;>simp [ha]
        · revert h6;unfold Addr.add;cases a.spot<;>simp
      obtain ⟨b,off,sp⟩:=a
      obtain ⟨rfl,hb⟩:=spot
      simp only at hb
      obtain ⟨C,hC⟩:=Classical.axiomOfChoice (r:=fun i (ci:List Value)=>i<len→∃ (avs:List AV),(∀ j,j<ss'.length→w.cell? (((⟨b,off,none⟩:Addr).add (i * P.cellsOf e)).add j)=ci[j]?)∧ci.length=ss'.length∧Fit ss' avs∧∀ j c,avs[j]?=some c→Rep w I Tbl.empty (ci.getD j undef) c) (fun i=>by
        by_cases hi:i<len
        · obtain ⟨ci,h⟩:=key i hi;exact ⟨ci,fun _=>h⟩
        · exact ⟨[],fun h=>absurd h hi⟩)
      obtain ⟨V,hV⟩:=Classical.axiomOfChoice (r:=fun i (avs:List AV)=>i<len→(∀ j,j<ss'.length→w.cell? (((⟨b,off,none⟩:Addr).add (i * P.cellsOf e)).add j)=(C i)[j]?)∧(C i).length=ss'.length∧Fit ss' avs∧∀ j c,avs[j]?=some c→Rep w I Tbl.empty ((C i).getD j undef) c) (fun i=>by
        by_cases hi:i<len
        · obtain ⟨avs,h⟩:=hC i hi;exact ⟨avs,fun _=>h⟩
        · exact ⟨[],fun h=>absurd h hi⟩)
      let L:List AV:=(List.range len).map fun i=>bif wR P e then AV.agg (V i) else (V i).headD .junk
      have hLlen:L.length=len:=by simp [L]
      have hLget:∀ i av,L[i]?=some av→i<len∧av=(bif wR P e then AV.agg (V i) else (V i).headD .junk):=by
        intro i av hi
        simp only [L,List.getElem?_map] at hi
        rcases Nat.lt_or_ge i len with h' | h'
        · rw [List.getElem?_range h',Option.map_some] at hi;injection hi with hi;exact ⟨h',hi.symm⟩
        · rw [List.getElem?_eq_none (by simpa using h')] at hi;cases hi
      have hLmem:∀ av∈L,∃ i,i<len∧av=(bif wR P e then AV.agg (V i) else (V i).headD .junk):=by
        intro av hm
        obtain ⟨i,hi⟩:=List.mem_iff_getElem?.1 hm
        exact ⟨i,hLget i av hi⟩
      have single:wR P e=false→∀ i,i<len→V i=[(V i).headD .junk]:=by
        intro ha i hi
        have h1:=(hV i hi).2.2.1.len
        have h2:ss'.length=1:=by
          rcases hagg with h1 | h1
          · rw [ha] at h1;cases h1
          · exact xP.1 h1
        rw [h2] at h1
        match hv:V i,h1 with
        | [x],_=>rfl
      have cellsEq:∀ i,i<len→(bif wR P e then AV.agg (V i) else (V i).headD .junk).cells=V i:=by
        intro i hi
        cases ha:wR P e
        · have h1:=single ha i hi
          simp only [cond_false]
          have h2:((V i).headD AV.junk).one=true:=(hV i hi).2.2.1.one _ (by rw [h1];simp)
          rw [Rep.cells_one h2];exact h1.symm
        · rfl
      refine fin L _ (by omega) (fun ha=>⟨fun a=>a.cells,?_,?_⟩) (fun ha=>?_) ?_
      · intro av hm
        obtain ⟨i,hi,rfl⟩:=hLmem av hm
        show _=AV.agg (AV.cells _)
        rw [cellsEq i hi,ha];rfl
      · intro av hm
        obtain ⟨i,hi,rfl⟩:=hLmem av hm
        show Fit ss' (AV.cells _)
        rw [cellsEq i hi];exact (hV i hi).2.2.1
      · intro av hm
        obtain ⟨i,hi,rfl⟩:=hLmem av hm
        rw [ha];simp only [cond_false];rw [← single ha i hi];exact (hV i hi).2.2.1
      · refine .sl (fun i j=>(C i).getD j undef) hLlen.symm hlc hcm (by intro h;cases h) ?_ ?_ (hI b hb) hb ?_ ?_
        · intro av hm
          obtain ⟨i,hi,rfl⟩:=hLmem av hm
          rw [cellsEq i hi];exact (hV i hi).2.2.1.len
        · intro av hm
          obtain ⟨i,hi,rfl⟩:=hLmem av hm
          rw [cellsEq i hi];exact (hV i hi).2.2.1.one
        · intro i av j c hi hj
          replace hi:=hLget i av hi;obtain ⟨hi,rfl⟩:=hi
          rw [cellsEq i hi] at hj
          have hjl:j<ss'.length:=by
            rw [← (hV i hi).2.2.1.len]
            rcases Nat.lt_or_ge j (V i).length with h' | h'
            · exact h'
            · rw [List.getElem?_eq_none h'] at hj;cases hj
          have h1:=(hV i hi).1 j hjl
          have h2:=(hV i hi).2.1
          rw [jR,jR,← hlen] at h1
          rw [h1,List.getElem?_eq_getElem (by omega)]
          simp [List.getD,List.getElem?_eq_getElem (show j<(C i).length by omega)]
        · intro i av j c hi hj
          replace hi:=hLget i av hi;obtain ⟨hi,rfl⟩:=hi
          rw [cellsEq i hi] at hj
          exact (hV i hi).2.2.2 j c hj
    · rename_i fs hk
      split at h
      case h_2=>cases h
      rename_i ss' hss
      replace h:=y7 h;obtain ⟨hc,h⟩:=h
      injection h with h;subst h
      obtain ⟨xs,m,_,hxe,hcl,hxl,hget⟩:=DataW.trod_struct hk hx
      have key:∀ (l:List Field) (off:Nat) (ss:List Sh),gG P (qH P n) l off=some ss→(∀ f∈l,∃ y,DataW.trod enc P w base spare held m f.type ((cs.drop f.offset).take (P.cellsOf f.type))=some y∧∀ k∈y.1.weights P f.type,k≤qX) →
          ∃ avs,Fit ss avs∧∀ j c,avs[j]?=some c→Rep w I T (cs.getD (off+j) undef) c:=by
        intro l
        induction l with
        | nil=>intro off ss h _;simp [gG] at h;subst h;exact ⟨[],.nil,fun j c hj=>by simp at hj⟩
        | cons f r ihl =>
          intro off ss h hall
          simp only [gG] at h
          split at h
          · cases h
          rename_i a ha
          split at h
          · cases h
          rename_i b hb
          replace h:=y7 h;obtain ⟨hc,h⟩:=h
          simp only [Bool.and_eq_true] at hc
          have hoff:=xP.1 hc.1
          have hal:=xP.1 hc.2
          injection h with h;subst h
          obtain ⟨y,hy,hyw⟩:=hall f (by simp)
          obtain ⟨av1,f1,l1,r1⟩:=ih f.type a m _ _ T ha hy hyw
          obtain ⟨av2,f2,r2⟩:=ihl _ b hb (fun g hg=>hall g (by simp [hg]))
          refine ⟨av1++av2,f1.append f2,fun j c hj=>?_⟩
          have hl1:=f1.len
          rcases Nat.lt_or_ge j av1.length with hlt | hge
          · rw [List.getElem?_append_left hlt] at hj
            have:=r1 j c hj
            have e:((cs.drop f.offset).take (P.cellsOf f.type)).getD j undef=cs.getD (off+j) undef:=by
              rw [List.getD_eq_getElem?_getD,List.getD_eq_getElem?_getD,List.getElem?_take,if_pos (by omega),List.getElem?_drop,hoff]
            rw [e] at this;exact this
          · rw [List.getElem?_append_right hge] at hj
            have:=r2 _ c hj
            rw [show off+P.cellsOf f.type+(j - av1.length)=off+j by omega] at this
            exact this
      obtain ⟨avs,hf,hr⟩:=key fs.toList 0 ss' hss (by
        intro f hf
        obtain ⟨i,hi⟩:=List.mem_iff_getElem?.1 hf
        rw [Array.getElem?_toList] at hi
        have hlt:i<xs.length:=by
          rw [hxl]
          rcases Nat.lt_or_ge i fs.size with h' | h'
          · exact h'
          · rw [Array.getElem?_eq_none h'] at hi;cases hi
        exact ⟨xs[i],by rw [hget i f hi];exact List.getElem?_eq_getElem hlt,fun k hk2=>hw k (by
          rw [hxe]
          simp only [DataW.weights,hk]
          exact DataW.weights_mem_each (j:=i) (t:=f.type) (d:=xs[i].1) (by simp [hi]) (by rw [List.getElem?_map,List.getElem?_eq_getElem hlt];rfl) k hk2)⟩)
      refine ⟨avs,hf,by rw [hcl,hf.len];exact (xP.1 hc).symm,fun j c hj=>?_⟩
      have:=hr j c hj
      rw [Nat.zero_add] at this;exact this
    · rename_i m e hk
      split at h
      case h_2=>cases h
      rename_i ss' hss
      replace h:=y7 h;obtain ⟨hc,h⟩:=h
      simp only [Bool.and_eq_true] at hc
      have hl:=xP.1 hc.1
      injection h with h;subst h
      obtain ⟨xs,q,_,hxe,hcl,hxl,hget⟩:=DataW.trod_array hk hx
      have key:∀ k,k≤m→∃ avs,Fit (List.replicate k ss').flatten avs∧avs.length=k * ss'.length∧∀ j c,avs[j]?=some c→Rep w I T (cs.getD j undef) c:=by
        intro k
        induction k with
        | zero=>intro _;exact ⟨[],by simpa using Fit.nil,by simp,fun j c hj=>by simp at hj⟩
        | succ k ihk =>
          intro hkm
          obtain ⟨av1,f1,l1,r1⟩:=ihk (by omega)
          have h1:=hget k (by omega)
          rw [List.getElem?_eq_getElem (by omega)] at h1
          obtain ⟨av2,f2,l2,r2⟩:=ih e ss' q _ _ T hss h1 (fun j hj=>hw j (by
            rw [hxe]
            simp only [DataW.weights,hk]
            exact J4 (List.mem_map.2 ⟨_,List.getElem_mem _,rfl⟩) j hj))
          have hl2:=f2.len
          refine ⟨av1++av2,by rw [List.replicate_succ',List.flatten_append];simpa using f1.append f2,by rw [List.length_append,l1,hl2,Nat.add_mul];omega,fun j c hj=>?_⟩
          rcases Nat.lt_or_ge j av1.length with hlt | hge
          · rw [List.getElem?_append_left hlt] at hj;exact r1 j c hj
          · rw [List.getElem?_append_right hge] at hj
            have hlt2:j - av1.length<av2.length:=by
              rcases Nat.lt_or_ge (j - av1.length) av2.length with h' | h'
              · exact h'
              · rw [List.getElem?_eq_none h'] at hj;cases hj
            have:=r2 _ c hj
            have e:((cs.drop (k * P.cellsOf e)).take (P.cellsOf e)).getD (j - av1.length) undef=cs.getD j undef:=by
              rw [List.getD_eq_getElem?_getD,List.getD_eq_getElem?_getD,List.getElem?_take,if_pos (by omega),List.getElem?_drop,← hl,← l1,show av1.length+(j - av1.length)=j by omega]
            rw [e] at this;exact this
      obtain ⟨avs,hf,hal,hr⟩:=key m (Nat.le_refl _)
      exact ⟨avs,hf,by rw [hcl,hal];exact (xP.1 hc.2).symm,hr⟩
    · cases h
end Go.Ab
