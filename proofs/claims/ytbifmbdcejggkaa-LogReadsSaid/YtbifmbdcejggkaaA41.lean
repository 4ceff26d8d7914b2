/- A layer over the model: abstract values and states, and the rules by which the printed proofs go. No conditions. -/
import Derived.Test.YtbifmbdcejggkaaA35
/- A state seen otherwise, most of it as it was. -/
namespace Go.Ab
open Go
def zGW:List Nat→Nat→Nat
 | [],_=>0
 | x::r,i=>bif Nat.beq x i then 0 else zGW r i+1
def inN (l:List Nat) (i:Nat):Bool:=l.any (Nat.beq i)
theorem zEU {l:List Nat} {i:Nat} (h:inN l i=true):l.getD (zGW l i) 0=i:=by
 induction l with
 | nil=>simp [inN] at h
 | cons x r ih =>
  simp only [zGW]
  cases hx:Nat.beq x i
  ·simp only [cond_false]
   have:inN r i=true:=by
    simp only [inN,List.any_cons,Bool.or_eq_true] at h ⊢
    rcases h with h | h
    ·rw [x8.1 h] at hx;simp at hx
    ·exact h
   have:=ih this
   simpa [List.getD] using this
  ·have:=x8.1 hx
   simp [List.getD,this]
mutual
def rn (ρ:List Nat):AV→AV
 | .agg cs=>.agg (rns ρ cs)
 | .tuple cs=>.tuple (rns ρ cs)
 | .ptr id sz i off=>.ptr (zGW ρ id) sz i off
 | .own id n=>.own (zGW ρ id) n
 | .part id sz lo hi=>.part (zGW ρ id) sz lo hi
 | .fn f cs=>.fn f (rns ρ cs)
 | .mp id=>.mp (zGW ρ id)
 | .junk=>.junk
 | .int k n=>.int k n
 | .bool b=>.bool b
 | .str l=>.str l
 | .sl f s l=>.sl f s l
 | .ref a=>.ref a
 | .nilp=>.nilp
 | .nilsl=>.nilsl
 | .nb l=>.nb l
 | .raw b=>.raw b
 | .rawm b=>.rawm b
def rns (ρ:List Nat):List AV→List AV
 | []=>[]
 | a::r=>rn ρ a::rns ρ r
end
mutual
def ins (ρ:List Nat):AV→Bool
 | .agg cs=>zFI ρ cs
 | .tuple cs=>zFI ρ cs
 | .ptr id ..=>inN ρ id
 | .own id _=>inN ρ id
 | .part id ..=>inN ρ id
 | .fn _ cs=>zFI ρ cs
 | .mp id=>inN ρ id
 | .junk=>true
 | .int ..=>true
 | .bool _=>true
 | .str _=>true
 | .sl ..=>true
 | .ref _=>true
 | .nilp=>true
 | .nilsl=>true
 | .nb _=>true
 | .raw _=>true
 | .rawm _=>true
def zFI (ρ:List Nat):List AV→Bool
 | []=>true
 | a::r=>ins ρ a&&zFI ρ r
end
mutual
theorem zPb {ρ:List Nat}:∀ {a:AV},ins ρ a=true→un ρ (rn ρ a)=a
 | .agg cs,h=>by simp only [rn,un];rw [zCZ (cs:=cs) (by simpa [ins] using h)]
 | .tuple cs,h=>by simp only [rn,un];rw [zCZ (cs:=cs) (by simpa [ins] using h)]
 | .ptr id ..,h=>by simp only [rn,un];rw [zEU (by simpa [ins] using h)]
 | .own id _,h=>by simp only [rn,un];rw [zEU (by simpa [ins] using h)]
 | .part id ..,h=>by simp only [rn,un];rw [zEU (by simpa [ins] using h)]
 | .fn _ cs,h=>by simp only [rn,un];rw [zCZ (cs:=cs) (by simpa [ins] using h)]
 | .mp id,h=>by simp only [rn,un];rw [zEU (by simpa [ins] using h)]
 | .junk,_=>rfl
 | .int ..,_=>rfl
 | .bool _,_=>rfl
 | .str _,_=>rfl
 | .sl ..,_=>rfl
 | .ref _,_=>rfl
 | .nilp,_=>rfl
 | .nilsl,_=>rfl
 | .nb _,_=>rfl
 | .raw _,_=>rfl
 | .rawm _,_=>rfl
theorem zCZ {ρ:List Nat}:∀ {cs:List AV},zFI ρ cs=true→uns ρ (rns ρ cs)=cs
 | [],_=>rfl
 | a::r,h=>by
  simp only [zFI,Bool.and_eq_true] at h
  simp only [rns,uns]
  rw [zPb h.1,zCZ h.2]
end
theorem zJO (x:AV):∀ p∈lo1 x x,p:=by
 intro p hp
 cases x with
 | sl f s l =>
  have hp:p=(s=s)∨p=(l=l)∨p=((!f||f)=true):=by simpa only [lo1,List.mem_cons,List.not_mem_nil,or_false] using (show p∈[s=s,l=l,(!f||f)=true] from hp)
  rcases hp with h | h | h
  ·rw [h]
  ·rw [h]
  ·rw [h];cases f<;>rfl
 | junk=>cases hp
 | _=>simp [lo1] at hp;exact hp
theorem zGO:∀ (xs:List AV),∀ p∈los xs xs,p:=by
 intro xs
 induction xs with
 | nil=>intro p hp;cases hp
 | cons x r ih =>
  intro p hp
  simp only [los,List.mem_append] at hp
  rcases hp with hp | hp
  ·exact zJO x p hp
  ·exact ih p hp
theorem zLa (x:AV):∀ p∈loA x x,p:=by
 intro p hp
 cases x with
 | agg cs=>exact zGO cs p hp
 | _=>simp only [loA] at hp;exact zJO _ p hp
theorem zNp:∀ (xs:List AV),∀ p∈zEs xs xs,p:=by
 intro xs
 induction xs with
 | nil=>intro p hp;cases hp
 | cons x r ih =>
  intro p hp
  simp only [zEs,List.mem_append] at hp
  rcases hp with hp | hp
  ·exact zLa x p hp
  ·exact ih p hp
theorem zO6 (x:AV):∀ p∈loT x x,p:=by
 intro p hp
 cases x with
 | tuple cs=>exact zNp cs p hp
 | _=>simp only [loT] at hp;exact zLa _ p hp
def zHX (ids:List Nat):AV→Bool
 | .own id _=>!(ids.any (Nat.beq id))
 | .part id ..=>!(ids.any (Nat.beq id))
 | _=>true
def zJL (ids:List Nat):AV→Bool
 | .agg cs=>cs.all (zHX ids)
 | v=>zHX ids v
def zMS (ids:List Nat):AV→Bool
 | .tuple vs=>vs.all (zJL ids)
 | v=>zJL ids v
theorem zDo {B:Nat→zW} {ids:List Nat} {x:AV} (h:zHX ids x=true):zCK B ids x=x∧zAN B ids x=[]:=by
 cases x with
 | own id n=>simp only [zHX,Bool.not_eq_true'] at h;simp [zCK,zAN,h]
 | part id sz lo hi=>simp only [zHX,Bool.not_eq_true'] at h;simp [zCK,zAN,h]
 | _=>exact ⟨rfl,rfl⟩
theorem zFx {α:Type} {f:α→α} {l:List α} (h:∀ x∈l,f x=x):l.map f=l:=by
 induction l with
 | nil=>rfl
 | cons a r ih=>rw [List.map_cons,h a (by simp),ih fun x hx=>h x (by simp [hx])]
theorem zDS {α β:Type} {f:α→List β} {l:List α} (h:∀ x∈l,f x=[]):l.flatMap f=[]:=by
 induction l with
 | nil=>rfl
 | cons a r ih=>rw [List.flatMap_cons,h a (by simp),ih fun x hx=>h x (by simp [hx])];rfl
theorem zGE {B:Nat→zW} {ids:List Nat} {x:AV} (h:zJL ids x=true):zDk B ids x=x∧zDh B ids x=[]:=by
 cases x with
 | agg cs =>
  simp only [zJL,List.all_eq_true] at h
  exact ⟨by simp only [zDk];rw [zFx fun c hc=>(zDo (h c hc)).1],zDS fun c hc=>(zDo (h c hc)).2⟩
 | _=>simp only [zJL] at h;exact zDo (B:=B) h
theorem zPB {B:Nat→zW} {ids:List Nat} {x:AV} (h:zMS ids x=true):frz B ids x=x∧zCk B ids x=[]:=by
 cases x with
 | tuple vs =>
  simp only [zMS,List.all_eq_true] at h
  exact ⟨by simp only [frz];rw [zFx fun c hc=>(zGE (h c hc)).1],zDS fun c hc=>(zGE (h c hc)).2⟩
 | _=>simp only [zMS] at h;exact zGE (B:=B) h
inductive Sp where
 | s (t:Nat)
 | a (t:Nat) (v:AV)
inductive Bp where
 | s (i:Nat)
 | a (i:Nat) (b:zW)
def zOu (st:AS) (ρ:List Nat):Sp→Nat×AV
 | .s t=>(t,rn ρ (st.slot t))
 | .a t v=>(t,v)
def zPX (st:AS) (ρ ids:List Nat):Sp→Bool
 | .s t=>ins ρ (st.slot t)&&zMS ids (st.slot t)
 | .a _ _=>true
def zQm (st:AS) (ρ ids:List Nat):Sp→List Prop
 | .s _=>[]
 | .a t v=>zCk st.box ids (st.slot t)++loT (frz st.box ids (st.slot t)) (un ρ v)
def rnB (ρ:List Nat):zW→zW
 | .live (.var t cs)=>.live (.var t (rns ρ cs))
 | .live (.rowQ e s l m x)=>.live (.rowQ e s l m (rns ρ x))
 | b=>b
def okB (ρ ids:List Nat):zW→Bool
 | .live (.var _ cs)=>v7 cs&&(zFI ρ cs&&cs.all (zHX ids))
 | .live (.rowQ _ _ _ _ x)=>v7 x&&zFI ρ x
 | .live _=>true
 | _=>false
def zOS (st:AS) (ρ:List Nat):Bp→Nat×zW
 | .s i=>(i,rnB ρ (st.box (ρ.getD i 0)))
 | .a i b=>(i,b)
def zP0 (st:AS) (ρ ids:List Nat):Bp→Bool
 | .s i=>okB ρ ids (st.box (ρ.getD i 0))
 | .a _ _=>true
def zQn (st:AS) (ρ ids:List Nat):Bp→List Prop
 | .s _=>[]
 | .a i b=>wV st.box ids ρ (st.box (ρ.getD i 0)) b
def zP4 (np:Nat) (st:AS) (ρ ids:List Nat) (sl2:List (Nat×AV)) (bx2:List (Nat×zW)):Bool :=
 ((vR ρ&&zCc (ρ.take np) (List.range np))&&(ids.all fun i=>zAA (st.box i)&&Nat.ble np i)) &&
   ((sl2.all fun x=>(qE ρ.length x.2&&zDu x.2)&&zEv (frz st.box ids (st.slot x.1))) &&
    (bx2.all fun x=>(Nat.blt x.1 ρ.length&&zIm ρ.length x.2)&&(match x.2 with | .live (.row ..)=>!(ids.any (Nat.beq (ρ.getD x.1 0))) | .unused=>false | _=>true)))
def wkm (np:Nat) (st:AS) (ρ ids:List Nat) (sps:List Sp) (bps:List Bp):Option (List Prop×List (Nat×AV)×List (Nat×zW)) :=
 bif zP4 np st ρ ids (sps.map (zOu st ρ)) (bps.map (zOS st ρ))&&(sps.all (zPX st ρ ids)&&bps.all (zP0 st ρ ids)) then
  some (sps.flatMap (zQm st ρ ids)++bps.flatMap (zQn st ρ ids),sps.map (zOu st ρ),bps.map (zOS st ρ))
 else none
theorem zGM {ρ:List Nat}:∀ {cs:List AV},v7 cs=true→v7 (rns ρ cs)=true
 | [],_=>rfl
 | a::r,h=>by
  simp only [v7,Bool.and_eq_true] at h
  simp only [rns,v7,Bool.and_eq_true]
  refine ⟨?_,zGM h.2⟩
  have h1:=h.1
  cases a<;>first | exact h1 | rfl
theorem zOP (np:Nat) (st:AS) (ρ ids:List Nat) (sl2:List (Nat×AV)) (bx2:List (Nat×zW)) :
  zEw np st ρ ids sl2 bx2=bif zP4 np st ρ ids sl2 bx2 then some (sl2.flatMap (fun x=>zCk st.box ids (st.slot x.1)++loT (frz st.box ids (st.slot x.1)) (un ρ x.2)) ++
   bx2.flatMap (fun x=>wV st.box ids ρ (st.box (ρ.getD x.1 0)) x.2)) else none:=rfl
theorem zOs {np:Nat} {st:AS} {ρ ids:List Nat} {sps:List Sp} {bps:List Bp} {vcs:List Prop} {sl2:List (Nat×AV)} {bx2:List (Nat×zW)} (h:wkm np st ρ ids sps bps=some (vcs,sl2,bx2)) (hv:qX vcs) :
  ∃ vcs',zEw np st ρ ids sl2 bx2=some vcs'∧qX vcs':=by
 unfold wkm at h
 replace h:=yH h;obtain ⟨hc,h⟩:=h
 simp only [Bool.and_eq_true,List.all_eq_true] at hc
 obtain ⟨hok,hsp,hbp⟩:=hc
 simp only [Option.some.injEq,Prod.mk.injEq] at h
 obtain ⟨rfl,rfl,rfl⟩:=h
 have hv:=zEo hv
 have toAll:∀ {l:List Prop},(∀ p∈l,p)→qX l:=by
  intro l
  induction l with
  | nil=>intro _;trivial
  | cons a r ih=>intro h;exact ⟨h a (by simp),ih fun p hp=>h p (by simp [hp])⟩
 refine ⟨_,(zOP ..).trans (by rw [hok];rfl),toAll ?_⟩
 intro p hp
 rcases List.mem_append.1 hp with hp | hp
 ·obtain ⟨x,hx,hp⟩:=List.mem_flatMap.1 hp
  obtain ⟨sp,hs,rfl⟩:=List.mem_map.1 hx
  cases sp with
  | s t =>
   have h1:=hsp _ hs
   simp only [zPX,Bool.and_eq_true] at h1
   have h2:=zPB (B:=st.box) h1.2
   simp only [zOu,h2.1,h2.2,List.nil_append,zPb h1.1] at hp
   exact zO6 _ p hp
  | a t v=>exact hv p (List.mem_append_left _ (List.mem_flatMap.2 ⟨_,hs,hp⟩))
 ·obtain ⟨x,hx,hp⟩:=List.mem_flatMap.1 hp
  obtain ⟨bp,hb,rfl⟩:=List.mem_map.1 hx
  cases bp with
  | s i =>
   have h1:=hbp _ hb
   simp only [zP0] at h1
   simp only [zOS] at hp
   generalize st.box (ρ.getD i 0)=b at h1 hp
   cases b with
   | unused=>cases h1
   | dead=>cases h1
   | live b =>
    cases b with
    | row e s l=>simp [rnB,wV] at hp;exact hp
    | map a k l=>simp [rnB,wV] at hp;exact hp
    | fam f=>simp [rnB,wV] at hp;exact hp
    | rowQ e s l m x =>
     simp only [okB,Bool.and_eq_true] at h1
     simp only [rnB,wV,List.mem_append,List.mem_cons,List.not_mem_nil,or_false] at hp
     rcases hp with (h | h | h | h | h) | hp
     ·rw [h];trivial
     ·rw [h];trivial
     ·rw [h];trivial
     ·rw [h];trivial
     ·rw [h];exact zGM h1.1
     ·rw [zCZ h1.2] at hp
      exact zGO _ p hp
    | var t cs =>
     simp only [okB,Bool.and_eq_true,List.all_eq_true] at h1
     obtain ⟨h2,h3,h4⟩:=h1
     simp only [rnB,wV,List.mem_append,List.mem_cons,List.not_mem_nil,or_false] at hp
     rcases hp with (h | h) | hp | hp
     ·rw [h];trivial
     ·rw [h];exact zGM h2
     ·rw [zDS fun c hc=>(zDo (h4 c hc)).2] at hp;cases hp
     ·rw [zFx fun c hc=>(zDo (h4 c hc)).1,zCZ h3] at hp
      exact zGO _ p hp
  | a i b=>exact hv p (List.mem_append_right _ (List.mem_flatMap.2 ⟨_,hb,hp⟩))
theorem zF1 {np:Nat} {st:AS} (ρ ids:List Nat) (sps:List Sp) (bps:List Bp) {vcs:List Prop} {sl2:List (Nat×AV)} {bx2:List (Nat×zW)} (h:wkm np st ρ ids sps bps=some (vcs,sl2,bx2)) (hv:qX vcs) :
  Sub np st (mk sl2 bx2 ρ.length):=by
 obtain ⟨vcs',h1,h2⟩:=zOs h hv
 exact zP8 ρ ids sl2 bx2 h1 h2
theorem an:qX []:=trivial
theorem ac {p:Prop} {r:List Prop} (h:p) (t:qX r):qX (p::r):=⟨h,t⟩
end Go.Ab

/- The rules once more, in the shortest words: what the kernel computes is left to it. -/
namespace Go.Ab
open Go
abbrev Ii (x:Int):AV:=.int .i64 x
abbrev Iu (x:Int):AV:=.int .u8 x
abbrev Vb (n:Nat) (l:List AV):zW:=.live (.var n l)
abbrev Rb (n k:Nat) (l:List AV):zW:=.live (.row n k l)
abbrev Hg:x5:={ g:=false }
abbrev Ht:x5:={ b:=true }
abbrev Hf:x5:={ b:=false }
abbrev Pp (i:Nat):AV:=.ptr i 0 0 0
abbrev Mi (l:List Int):List AV:=List.map (AV.int .i64) l
abbrev Ms (l:List (List Int)):List AV:=List.map AV.str l
abbrev Mp {α:Type} (f:α→AV) (l:List α):List AV:=List.map f l
abbrev lN {α:Type} (l:List α):Int:=((l.length:Nat):Int)
theorem bft (b:Bool):b=true∨b=false:=Bool.eq_false_or_eq_true b
variable {P:Program} {N np:Nat} {K:Exit→AS→Prop} {c:Code} {st:AS}
theorem sq (h:AW P N np (Code.l c) (zM3 P N np (Code.r c) K) st) (hc:c=.seq (Code.l c) (Code.r c):=by kernel_rfl):AW P N np c K st:=zNZ hc h
theorem rt (h:K .ret st) (hc:c=.ret:=by kernel_rfl):AW P N np c K st:=zP5 hc h
theorem sk (h:K .normal st) (hc:c=.skip:=by kernel_rfl):AW P N np c K st:=zPL hc h
theorem rg {sl:List (Nat×AV)} {bx:List (Nat×zW)} {n:Nat} (hs:List (Nat×x5)) (live bl:List Nat) (n':Nat) {vcs:List Prop} (vals:List AV) (bxs:List zW) (hm:P.follows .mixedOrders=true) (hv:qX vcs)
  (hk:K .normal (mk (live.zip vals) (bl.zip bxs) n')) (h:zHn P N np c hs sl bx n live bl n'=some (vcs,vals,bxs):=by kernel_rfl):AW P N np c K (mk sl bx n):=zIK hs live bl n' h hm hv hk
theorem sr {sl:List (Nat×AV)} {bx:List (Nat×zW)} {n:Nat} (hs:List (Nat×x5)) (live bl:List Nat) (n':Nat) {vcs:List Prop} (vals:List AV) (bxs:List zW) (hm:P.follows .mixedOrders=true) (hv:qX vcs)
  (hk:zM3 P N np (Code.r c) K .normal (mk (live.zip vals) (bl.zip bxs) n')) (h:zHn P N np (Code.l c) hs sl bx n live bl n'=some (vcs,vals,bxs):=by kernel_rfl) (hc:c=.seq (Code.l c) (Code.r c):=by kernel_rfl):AW P N np c K (mk sl bx n) :=
 zNZ hc (zIK hs live bl n' h hm hv hk)
theorem sw (ρ ids:List Nat) (sps:List Sp) (bps:List Bp) {vcs:List Prop} {sl2:List (Nat×AV)} {bx2:List (Nat×zW)} (hv:qX vcs) (h:wkm np st ρ ids sps bps=some (vcs,sl2,bx2):=by kernel_rfl):Sub np st (mk sl2 bx2 ρ.length):=zF1 ρ ids sps bps h hv
theorem wk (ρ ids:List Nat) (sps:List Sp) (bps:List Bp) {vcs:List Prop} (sl2:List (Nat×AV)) (bx2:List (Nat×zW)) (hv:qX vcs) (k:AW P N np c K (mk sl2 bx2 ρ.length)) (h:wkm np st ρ ids sps bps=some (vcs,sl2,bx2):=by kernel_rfl):AW P N np c K st:=uW (zF1 ρ ids sps bps h hv) k
theorem cd (t:Nat) (b:Bool) (h1:b=true→AW P N np (Code.t c) K st) (h2:b=false→AW P N np (Code.e c) K st) (hc:c=.cond (.tmp t) (Code.t c) (Code.e c):=by kernel_rfl) (hs:st.slot t=.bool b:=by kernel_rfl):AW P N np c K st:=zPK hc hs h1 h2
theorem ar {α:Type} (x:α) {r:List Prop} (t:qX r):qX ((x=x)::r):=⟨rfl,t⟩
theorem ax {r:List Prop} (t:qX r):qX ((true=!false)::r):=⟨rfl,t⟩
end Go.Ab
