/- A layer over the model: abstract values and states, and the rules by which the printed proofs go. No conditions. -/
import Derived.Test.YtbifmbdcejggkaaA35
/- A state seen otherwise, most of it as it was. -/
namespace Go.Ab
open Go

/-- Where a name stands in a list. -/
def zEW:List Nat→Nat→Nat
  | [],_=>0
  | x::r,i=>bif Nat.beq x i then 0 else zEW r i+1
def inN (l:List Nat) (i:Nat):Bool:=l.any (Nat.beq i)
theorem zDl {l:List Nat} {i:Nat} (h:inN l i=true):l.getD (zEW l i) 0=i:=by
  induction l with
  | nil=>simp [inN] at h
  | cons x r ih =>
    simp only [zEW]
    cases hx:Nat.beq x i
    · simp only [cond_false]
      have:inN r i=true:=by
        simp only [inN,List.any_cons,Bool.or_eq_true] at h ⊢
        rcases h with h | h
        · rw [xM.1 h] at hx;simp at hx
        · exact h
      have:=ih this
      simpa [List.getD] using this
    · have:=xM.1 hx
      simp [List.getD,this]
mutual
def rn (ρ:List Nat):AV→AV
  | .agg cs=>.agg (rns ρ cs)
  | .tuple cs=>.tuple (rns ρ cs)
  | .ptr id sz i off=>.ptr (zEW ρ id) sz i off
  | .own id n=>.own (zEW ρ id) n
  | .part id sz lo hi=>.part (zEW ρ id) sz lo hi
  | .fn f cs=>.fn f (rns ρ cs)
  | .mp id=>.mp (zEW ρ id)
  | .junk=>.junk
  | .int k n=>.int k n
  | .bool b=>.bool b
  | .str l=>.str l
  | .sl f s l=>.sl f s l
  | .ref a=>.ref a
  | .nilp=>.nilp
  | .nilsl=>.nilsl
  | .nb l=>.nb l
  | .raw b=>.raw b
  | .rawm b=>.rawm b
def rns (ρ:List Nat):List AV→List AV
  | []=>[]
  | a::r=>rn ρ a::rns ρ r
end
mutual
/-- Its names are among these. -/
def ins (ρ:List Nat):AV→Bool
  | .agg cs=>zDW ρ cs
  | .tuple cs=>zDW ρ cs
  | .ptr id ..=>inN ρ id
  | .own id _=>inN ρ id
  | .part id ..=>inN ρ id
  | .fn _ cs=>zDW ρ cs
  | .mp id=>inN ρ id
  | .junk=>true
  | .int ..=>true
  | .bool _=>true
  | .str _=>true
  | .sl ..=>true
  | .ref _=>true
  | .nilp=>true
  | .nilsl=>true
  | .nb _=>true
  | .raw _=>true
  | .rawm _=>true
def zDW (ρ:List Nat):List AV→Bool
  | []=>true
  | a::r=>ins ρ a&&zDW ρ r
end
mutual
theorem zM2 {ρ:List Nat}:∀ {a:AV},ins ρ a=true→un ρ (rn ρ a)=a
  | .agg cs,h=>by simp only [rn,un];rw [zBI (cs:=cs) (by simpa [ins] using h)]
  | .tuple cs,h=>by simp only [rn,un];rw [zBI (cs:=cs) (by simpa [ins] using h)]
  | .ptr id ..,h=>by simp only [rn,un];rw [zDl (by simpa [ins] using h)]
  | .own id _,h=>by simp only [rn,un];rw [zDl (by simpa [ins] using h)]
  | .part id ..,h=>by simp only [rn,un];rw [zDl (by simpa [ins] using h)]
  | .fn _ cs,h=>by simp only [rn,un];rw [zBI (cs:=cs) (by simpa [ins] using h)]
  | .mp id,h=>by simp only [rn,un];rw [zDl (by simpa [ins] using h)]
  | .junk,_=>rfl
  | .int ..,_=>rfl
  | .bool _,_=>rfl
  | .str _,_=>rfl
  | .sl ..,_=>rfl
  | .ref _,_=>rfl
  | .nilp,_=>rfl
  | .nilsl,_=>rfl
  | .nb _,_=>rfl
  | .raw _,_=>rfl
  | .rawm _,_=>rfl
theorem zBI {ρ:List Nat}:∀ {cs:List AV},zDW ρ cs=true→uns ρ (rns ρ cs)=cs
  | [],_=>rfl
  | a::r,h=>by
    simp only [zDW,Bool.and_eq_true] at h
    simp only [rns,uns]
    rw [zM2 h.1,zBI h.2]
end

theorem zIY (x:AV):∀ p∈lo1 x x,p:=by
  intro p hp
  cases x with
  | sl f s l =>
    have hp:p=(s=s)∨p=(l=l)∨p=((!f||f)=true):=by simpa only [lo1,List.mem_cons,List.not_mem_nil,or_false] using (show p∈[s=s,l=l,(!f||f)=true] from hp)
    rcases hp with h | h | h
    · rw [h]
    · rw [h]
    · rw [h];cases f<;>rfl
  | junk=>cases hp
  | _=>simp [lo1] at hp;exact hp
theorem zE1:∀ (xs:List AV),∀ p∈los xs xs,p:=by
  intro xs
  induction xs with
  | nil=>intro p hp;cases hp
  | cons x r ih =>
    intro p hp
    simp only [los,List.mem_append] at hp
    rcases hp with hp | hp
    · exact zIY x p hp
    · exact ih p hp
theorem zI2 (x:AV):∀ p∈loA x x,p:=by
  intro p hp
  cases x with
  | agg cs=>exact zE1 cs p hp
  | _=>simp only [loA] at hp;exact zIY _ p hp
theorem zLf:∀ (xs:List AV),∀ p∈zDj xs xs,p:=by
  intro xs
  induction xs with
  | nil=>intro p hp;cases hp
  | cons x r ih =>
    intro p hp
    simp only [zDj,List.mem_append] at hp
    rcases hp with hp | hp
    · exact zI2 x p hp
    · exact ih p hp
theorem zMV (x:AV):∀ p∈loT x x,p:=by
  intro p hp
  cases x with
  | tuple cs=>exact zLf cs p hp
  | _=>simp only [loT] at hp;exact zI2 _ p hp

/-- It names none of these. -/
def zGH (ids:List Nat):AV→Bool
  | .own id _=>!(ids.any (Nat.beq id))
  | .part id ..=>!(ids.any (Nat.beq id))
  | _=>true
def zI6 (ids:List Nat):AV→Bool
  | .agg cs=>cs.all (zGH ids)
  | v=>zGH ids v
def zKn (ids:List Nat):AV→Bool
  | .tuple vs=>vs.all (zI6 ids)
  | v=>zI6 ids v
theorem zBZ {B:Nat→zN} {ids:List Nat} {x:AV} (h:zGH ids x=true):zBr B ids x=x∧nV B ids x=[]:=by
  cases x with
  | own id n=>simp only [zGH,Bool.not_eq_true'] at h;simp [zBr,nV,h]
  | part id sz lo hi=>simp only [zGH,Bool.not_eq_true'] at h;simp [zBr,nV,h]
  | _=>exact ⟨rfl,rfl⟩
theorem zDL {α:Type} {f:α→α} {l:List α} (h:∀ x∈l,f x=x):l.map f=l:=by
  induction l with
  | nil=>rfl
  | cons a r ih=>rw [List.map_cons,h a (by simp),ih fun x hx=>h x (by simp [hx])]
theorem zCu {α β:Type} {f:α→List β} {l:List α} (h:∀ x∈l,f x=[]):l.flatMap f=[]:=by
  induction l with
  | nil=>rfl
  | cons a r ih=>rw [List.flatMap_cons,h a (by simp),ih fun x hx=>h x (by simp [hx])];rfl
theorem zFc {B:Nat→zN} {ids:List Nat} {x:AV} (h:zI6 ids x=true):zBT B ids x=x∧zB0 B ids x=[]:=by
  cases x with
  | agg cs =>
    simp only [zI6,List.all_eq_true] at h
    exact ⟨by simp only [zBT];rw [zDL fun c hc=>(zBZ (h c hc)).1],zCu fun c hc=>(zBZ (h c hc)).2⟩
  | _=>simp only [zI6] at h;exact zBZ (B:=B) h
theorem zNB {B:Nat→zN} {ids:List Nat} {x:AV} (h:zKn ids x=true):frz B ids x=x∧zBc B ids x=[]:=by
  cases x with
  | tuple vs =>
    simp only [zKn,List.all_eq_true] at h
    exact ⟨by simp only [frz];rw [zDL fun c hc=>(zFc (h c hc)).1],zCu fun c hc=>(zFc (h c hc)).2⟩
  | _=>simp only [zKn] at h;exact zFc (B:=B) h

/-- What a slot holds in the new view: what it held, or another reading of it. -/
inductive Sp where
  | s (t:Nat)
  | a (t:Nat) (v:AV)
inductive Bp where
  | s (i:Nat)
  | a (i:Nat) (b:zN)
def zMc (st:AS) (ρ:List Nat):Sp→Nat×AV
  | .s t=>(t,rn ρ (st.slot t))
  | .a t v=>(t,v)
def zNW (st:AS) (ρ ids:List Nat):Sp→Bool
  | .s t=>ins ρ (st.slot t)&&zKn ids (st.slot t)
  | .a _ _=>true
def zOp (st:AS) (ρ ids:List Nat):Sp→List Prop
  | .s _=>[]
  | .a t v=>zBc st.box ids (st.slot t)++loT (frz st.box ids (st.slot t)) (un ρ v)
def rnB (ρ:List Nat):zN→zN
  | .live (.var t cs)=>.live (.var t (rns ρ cs))
  | .live (.rowQ e s l m x)=>.live (.rowQ e s l m (rns ρ x))
  | b=>b
def okB (ρ ids:List Nat):zN→Bool
  | .live (.var _ cs)=>uO cs&&(zDW ρ cs&&cs.all (zGH ids))
  | .live (.rowQ _ _ _ _ x)=>uO x&&zDW ρ x
  | .live _=>true
  | _=>false
def zMh (st:AS) (ρ:List Nat):Bp→Nat×zN
  | .s i=>(i,rnB ρ (st.box (ρ.getD i 0)))
  | .a i b=>(i,b)
def zOb (st:AS) (ρ ids:List Nat):Bp→Bool
  | .s i=>okB ρ ids (st.box (ρ.getD i 0))
  | .a _ _=>true
def zOr (st:AS) (ρ ids:List Nat):Bp→List Prop
  | .s _=>[]
  | .a i b=>wK st.box ids ρ (st.box (ρ.getD i 0)) b
def zOf (np:Nat) (st:AS) (ρ ids:List Nat) (sl2:List (Nat×AV)) (bx2:List (Nat×zN)):Bool :=
  ((vI ρ&&zAT (ρ.take np) (List.range np))&&(ids.all fun i=>nE (st.box i)&&Nat.ble np i)) &&
      ((sl2.all fun x=>(tF ρ.length x.2&&zCd x.2)&&zCi (frz st.box ids (st.slot x.1))) &&
       (bx2.all fun x=>(Nat.blt x.1 ρ.length&&zGq ρ.length x.2)&&(match x.2 with | .live (.row ..)=>!(ids.any (Nat.beq (ρ.getD x.1 0))) | .unused=>false | _=>true)))
def wkm (np:Nat) (st:AS) (ρ ids:List Nat) (sps:List Sp) (bps:List Bp):Option (List Prop×List (Nat×AV)×List (Nat×zN)) :=
  bif zOf np st ρ ids (sps.map (zMc st ρ)) (bps.map (zMh st ρ))&&(sps.all (zNW st ρ ids)&&bps.all (zOb st ρ ids)) then
    some (sps.flatMap (zOp st ρ ids)++bps.flatMap (zOr st ρ ids),sps.map (zMc st ρ),bps.map (zMh st ρ))
  else none

theorem zEN {ρ:List Nat}:∀ {cs:List AV},uO cs=true→uO (rns ρ cs)=true
  | [],_=>rfl
  | a::r,h=>by
    simp only [uO,Bool.and_eq_true] at h
    simp only [rns,uO,Bool.and_eq_true]
    refine ⟨?_,zEN h.2⟩
    have h1:=h.1
    cases a<;>first | exact h1 | rfl

theorem zMM (np:Nat) (st:AS) (ρ ids:List Nat) (sl2:List (Nat×AV)) (bx2:List (Nat×zN)) :
    zDm np st ρ ids sl2 bx2=bif zOf np st ρ ids sl2 bx2 then some (sl2.flatMap (fun x=>zBc st.box ids (st.slot x.1)++loT (frz st.box ids (st.slot x.1)) (un ρ x.2)) ++
      bx2.flatMap (fun x=>wK st.box ids ρ (st.box (ρ.getD x.1 0)) x.2)) else none:=rfl
theorem zMl {np:Nat} {st:AS} {ρ ids:List Nat} {sps:List Sp} {bps:List Bp} {vcs:List Prop} {sl2:List (Nat×AV)} {bx2:List (Nat×zN)} (h:wkm np st ρ ids sps bps=some (vcs,sl2,bx2)) (hv:t5 vcs) :
    ∃ vcs',zDm np st ρ ids sl2 bx2=some vcs'∧t5 vcs':=by
  unfold wkm at h
  replace h:=zY h;obtain ⟨hc,h⟩:=h
  simp only [Bool.and_eq_true,List.all_eq_true] at hc
  obtain ⟨hok,hsp,hbp⟩:=hc
  simp only [Option.some.injEq,Prod.mk.injEq] at h
  obtain ⟨rfl,rfl,rfl⟩:=h
  have hv:=zDr hv
  have toAll:∀ {l:List Prop},(∀ p∈l,p)→t5 l:=by
    intro l
    induction l with
    | nil=>intro _;trivial
    | cons a r ih=>intro h;exact ⟨h a (by simp),ih fun p hp=>h p (by simp [hp])⟩
  refine ⟨_,(zMM ..).trans (by rw [hok];rfl),toAll ?_⟩
  intro p hp
  rcases List.mem_append.1 hp with hp | hp
  · obtain ⟨x,hx,hp⟩:=List.mem_flatMap.1 hp
    obtain ⟨sp,hs,rfl⟩:=List.mem_map.1 hx
    cases sp with
    | s t =>
      have h1:=hsp _ hs
      simp only [zNW,Bool.and_eq_true] at h1
      have h2:=zNB (B:=st.box) h1.2
      simp only [zMc,h2.1,h2.2,List.nil_append,zM2 h1.1] at hp
      exact zMV _ p hp
    | a t v=>exact hv p (List.mem_append_left _ (List.mem_flatMap.2 ⟨_,hs,hp⟩))
  · obtain ⟨x,hx,hp⟩:=List.mem_flatMap.1 hp
    obtain ⟨bp,hb,rfl⟩:=List.mem_map.1 hx
    cases bp with
    | s i =>
      have h1:=hbp _ hb
      simp only [zOb] at h1
      simp only [zMh] at hp
      generalize st.box (ρ.getD i 0)=b at h1 hp
      cases b with
      | unused=>cases h1
      | dead=>cases h1
      | live b =>
        cases b with
        | row e s l=>simp [rnB,wK] at hp;exact hp
        | map a k l=>simp [rnB,wK] at hp;exact hp
        | fam f=>simp [rnB,wK] at hp;exact hp
        | rowQ e s l m x =>
          simp only [okB,Bool.and_eq_true] at h1
          simp only [rnB,wK,List.mem_append,List.mem_cons,List.not_mem_nil,or_false] at hp
          rcases hp with (h | h | h | h | h) | hp
          · rw [h];trivial
          · rw [h];trivial
          · rw [h];trivial
          · rw [h];trivial
          · rw [h];exact zEN h1.1
          · rw [zBI h1.2] at hp
            exact zE1 _ p hp
        | var t cs =>
          simp only [okB,Bool.and_eq_true,List.all_eq_true] at h1
          obtain ⟨h2,h3,h4⟩:=h1
          simp only [rnB,wK,List.mem_append,List.mem_cons,List.not_mem_nil,or_false] at hp
          rcases hp with (h | h) | hp | hp
          · rw [h];trivial
          · rw [h];exact zEN h2
          · rw [zCu fun c hc=>(zBZ (h4 c hc)).2] at hp;cases hp
          · rw [zDL fun c hc=>(zBZ (h4 c hc)).1,zBI h3] at hp
            exact zE1 _ p hp
    | a i b=>exact hv p (List.mem_append_right _ (List.mem_flatMap.2 ⟨_,hb,hp⟩))

theorem zGv {np:Nat} {st:AS} (ρ ids:List Nat) (sps:List Sp) (bps:List Bp) {vcs:List Prop} {sl2:List (Nat×AV)} {bx2:List (Nat×zN)} (h:wkm np st ρ ids sps bps=some (vcs,sl2,bx2)) (hv:t5 vcs) :
    Sub np st (mk sl2 bx2 ρ.length):=by
  obtain ⟨vcs',h1,h2⟩:=zMl h hv
  exact zN0 ρ ids sl2 bx2 h1 h2

theorem an:t5 []:=trivial
theorem ac {p:Prop} {r:List Prop} (h:p) (t:t5 r):t5 (p::r):=⟨h,t⟩
end Go.Ab

/- The rules once more, in the shortest words: what the kernel computes is left to it. -/
namespace Go.Ab
open Go

abbrev Ii (x:Int):AV:=.int .i64 x
abbrev Iu (x:Int):AV:=.int .u8 x
abbrev Vb (n:Nat) (l:List AV):zN:=.live (.var n l)
abbrev Rb (n k:Nat) (l:List AV):zN:=.live (.row n k l)
abbrev Hg:xI:={ g:=false }
abbrev Ht:xI:={ b:=true }
abbrev Hf:xI:={ b:=false }
abbrev Pp (i:Nat):AV:=.ptr i 0 0 0
abbrev Mi (l:List Int):List AV:=List.map (AV.int .i64) l
abbrev Ms (l:List (List Int)):List AV:=List.map AV.str l
abbrev Mp {α:Type} (f:α→AV) (l:List α):List AV:=List.map f l
abbrev lN {α:Type} (l:List α):Int:=((l.length:Nat):Int)
theorem bft (b:Bool):b=true∨b=false:=Bool.eq_false_or_eq_true b
variable {P:Program} {N np:Nat} {K:Exit→AS→Prop} {c:Code} {st:AS}
theorem sq (h:AW P N np (Code.l c) (zJ2 P N np (Code.r c) K) st) (hc:c=.seq (Code.l c) (Code.r c):=by kernel_rfl):AW P N np c K st:=zLo hc h
theorem rt (h:K .ret st) (hc:c=.ret:=by kernel_rfl):AW P N np c K st:=zN7 hc h
theorem sk (h:K .normal st) (hc:c=.skip:=by kernel_rfl):AW P N np c K st:=zNi hc h
theorem rg {sl:List (Nat×AV)} {bx:List (Nat×zN)} {n:Nat} (hs:List (Nat×xI)) (live bl:List Nat) (n':Nat) {vcs:List Prop} (vals:List AV) (bxs:List zN) (hm:P.follows .mixedOrders=true) (hv:t5 vcs)
    (hk:K .normal (mk (live.zip vals) (bl.zip bxs) n')) (h:zFW P N np c hs sl bx n live bl n'=some (vcs,vals,bxs):=by kernel_rfl):AW P N np c K (mk sl bx n):=zGZ hs live bl n' h hm hv hk
theorem sr {sl:List (Nat×AV)} {bx:List (Nat×zN)} {n:Nat} (hs:List (Nat×xI)) (live bl:List Nat) (n':Nat) {vcs:List Prop} (vals:List AV) (bxs:List zN) (hm:P.follows .mixedOrders=true) (hv:t5 vcs)
    (hk:zJ2 P N np (Code.r c) K .normal (mk (live.zip vals) (bl.zip bxs) n')) (h:zFW P N np (Code.l c) hs sl bx n live bl n'=some (vcs,vals,bxs):=by kernel_rfl) (hc:c=.seq (Code.l c) (Code.r c):=by kernel_rfl):AW P N np c K (mk sl bx n) :=
  zLo hc (zGZ hs live bl n' h hm hv hk)
theorem sw (ρ ids:List Nat) (sps:List Sp) (bps:List Bp) {vcs:List Prop} {sl2:List (Nat×AV)} {bx2:List (Nat×zN)} (hv:t5 vcs) (h:wkm np st ρ ids sps bps=some (vcs,sl2,bx2):=by kernel_rfl):Sub np st (mk sl2 bx2 ρ.length):=zGv ρ ids sps bps h hv
theorem wk (ρ ids:List Nat) (sps:List Sp) (bps:List Bp) {vcs:List Prop} (sl2:List (Nat×AV)) (bx2:List (Nat×zN)) (hv:t5 vcs) (k:AW P N np c K (mk sl2 bx2 ρ.length)) (h:wkm np st ρ ids sps bps=some (vcs,sl2,bx2):=by kernel_rfl):AW P N np c K st:=kF (zGv ρ ids sps bps h hv) k
theorem cd (t:Nat) (b:Bool) (h1:b=true→AW P N np (Code.t c) K st) (h2:b=false→AW P N np (Code.e c) K st) (hc:c=.cond (.tmp t) (Code.t c) (Code.e c):=by kernel_rfl) (hs:st.slot t=.bool b:=by kernel_rfl):AW P N np c K st:=zNG hc hs h1 h2
theorem ar {α:Type} (x:α) {r:List Prop} (t:t5 r):t5 ((x=x)::r):=⟨rfl,t⟩
theorem ax {r:List Prop} (t:t5 r):t5 ((true=!false)::r):=⟨rfl,t⟩
end Go.Ab
