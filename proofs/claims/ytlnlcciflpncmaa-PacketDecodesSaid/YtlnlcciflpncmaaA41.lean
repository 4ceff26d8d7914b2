/- A layer over the model: abstract values and states, and the rules by which the printed proofs go. No conditions. -/
import Derived.Test.YtlnlcciflpncmaaA37
/- A state seen otherwise, most of it as it was. -/
namespace Go.Ab
open Go
def zFD:List Nat→Nat→Nat
 | [],_=>0
 | x::r,i=>bif Nat.beq x i then 0 else zFD r i+1
def inN (l:List Nat) (i:Nat):Bool:=l.any (Nat.beq i)
theorem zDI {l:List Nat} {i:Nat} (h:inN l i=true):l.getD (zFD l i) 0=i:=by
 induction l with
 | nil=>simp [inN] at h
 | cons x r ih =>
  simp only [zFD]
  cases hx:Nat.beq x i
  ·simp only [cond_false]
   have:inN r i=true:=by
    simp only [inN,List.any_cons,Bool.or_eq_true] at h ⊢
    rcases h with h | h
    ·rw [yS.1 h] at hx;simp at hx
    ·exact h
   have:=ih this
   simpa [List.getD] using this
  ·have:=yS.1 hx
   simp [List.getD,this]
mutual
def rn (ρ:List Nat):AV→AV
 | .agg cs=>.agg (rns ρ cs)
 | .tuple cs=>.tuple (rns ρ cs)
 | .ptr id sz i off=>.ptr (zFD ρ id) sz i off
 | .own id n=>.own (zFD ρ id) n
 | .part id sz lo hi=>.part (zFD ρ id) sz lo hi
 | .fn f cs=>.fn f (rns ρ cs)
 | .mp id=>.mp (zFD ρ id)
 | .junk=>.junk
 | .int k n=>.int k n
 | .bool b=>.bool b
 | .str l=>.str l
 | .sl f s l=>.sl f s l
 | .ref a=>.ref a
 | .nilp=>.nilp
 | .nilsl=>.nilsl
 | .nb l=>.nb l
 | .raw b=>.raw b
def rns (ρ:List Nat):List AV→List AV
 | []=>[]
 | a::r=>rn ρ a::rns ρ r
end
mutual
def ins (ρ:List Nat):AV→Bool
 | .agg cs=>zFk ρ cs
 | .tuple cs=>zFk ρ cs
 | .ptr id ..=>inN ρ id
 | .own id _=>inN ρ id
 | .part id ..=>inN ρ id
 | .fn _ cs=>zFk ρ cs
 | .mp id=>inN ρ id
 | .junk=>true
 | .int ..=>true
 | .bool _=>true
 | .str _=>true
 | .sl ..=>true
 | .ref _=>true
 | .nilp=>true
 | .nilsl=>true
 | .nb _=>true
 | .raw _=>true
def zFk (ρ:List Nat):List AV→Bool
 | []=>true
 | a::r=>ins ρ a&&zFk ρ r
end
mutual
theorem zNl {ρ:List Nat}:∀ {a:AV},ins ρ a=true→un ρ (rn ρ a)=a
 | .agg cs,h=>by simp only [rn,un];rw [zDc (cs:=cs) (by simpa [ins] using h)]
 | .tuple cs,h=>by simp only [rn,un];rw [zDc (cs:=cs) (by simpa [ins] using h)]
 | .ptr id ..,h=>by simp only [rn,un];rw [zDI (by simpa [ins] using h)]
 | .own id _,h=>by simp only [rn,un];rw [zDI (by simpa [ins] using h)]
 | .part id ..,h=>by simp only [rn,un];rw [zDI (by simpa [ins] using h)]
 | .fn _ cs,h=>by simp only [rn,un];rw [zDc (cs:=cs) (by simpa [ins] using h)]
 | .mp id,h=>by simp only [rn,un];rw [zDI (by simpa [ins] using h)]
 | .junk,_=>rfl
 | .int ..,_=>rfl
 | .bool _,_=>rfl
 | .str _,_=>rfl
 | .sl ..,_=>rfl
 | .ref _,_=>rfl
 | .nilp,_=>rfl
 | .nilsl,_=>rfl
 | .nb _,_=>rfl
 | .raw _,_=>rfl
theorem zDc {ρ:List Nat}:∀ {cs:List AV},zFk ρ cs=true→uns ρ (rns ρ cs)=cs
 | [],_=>rfl
 | a::r,h=>by
  simp only [zFk,Bool.and_eq_true] at h
  simp only [rns,uns]
  rw [zNl h.1,zDc h.2]
end
theorem zIZ (x:AV):∀ p∈lo1 x x,p:=by
 intro p hp
 cases x with
 | sl f s l =>
  have hp:p=(s=s)∨p=(l=l)∨p=((!f||f)=true):=by simpa only [lo1,List.mem_cons,List.not_mem_nil,or_false] using (show p∈[s=s,l=l,(!f||f)=true] from hp)
  rcases hp with h | h | h
  ·rw [h]
  ·rw [h]
  ·rw [h];cases f<;>rfl
 | junk=>cases hp
 | _=>simp [lo1] at hp;exact hp
theorem zIN:∀ (xs:List AV),∀ p∈los xs xs,p:=by
 intro xs
 induction xs with
 | nil=>intro p hp;cases hp
 | cons x r ih =>
  intro p hp
  simp only [los,List.mem_append] at hp
  rcases hp with hp | hp
  ·exact zIZ x p hp
  ·exact ih p hp
theorem zIW (x:AV):∀ p∈loA x x,p:=by
 intro p hp
 cases x with
 | agg cs=>exact zIN cs p hp
 | _=>simp only [loA] at hp;exact zIZ _ p hp
theorem zLV:∀ (xs:List AV),∀ p∈zDr xs xs,p:=by
 intro xs
 induction xs with
 | nil=>intro p hp;cases hp
 | cons x r ih =>
  intro p hp
  simp only [zDr,List.mem_append] at hp
  rcases hp with hp | hp
  ·exact zIW x p hp
  ·exact ih p hp
theorem zMX (x:AV):∀ p∈loT x x,p:=by
 intro p hp
 cases x with
 | tuple cs=>exact zLV cs p hp
 | _=>simp only [loT] at hp;exact zIW _ p hp
def zHx (ids:List Nat):AV→Bool
 | .own id _=>!(ids.any (Nat.beq id))
 | .part id ..=>!(ids.any (Nat.beq id))
 | _=>true
def zIK (ids:List Nat):AV→Bool
 | .agg cs=>cs.all (zHx ids)
 | v=>zHx ids v
def zLq (ids:List Nat):AV→Bool
 | .tuple vs=>vs.all (zIK ids)
 | v=>zIK ids v
theorem zCA {B:Nat→zP} {ids:List Nat} {x:AV} (h:zHx ids x=true):zBX B ids x=x∧zAw B ids x=[]:=by
 cases x with
 | own id n=>simp only [zHx,Bool.not_eq_true'] at h;simp [zBX,zAw,h]
 | part id sz lo hi=>simp only [zHx,Bool.not_eq_true'] at h;simp [zBX,zAw,h]
 | _=>exact ⟨rfl,rfl⟩
theorem zEq {α:Type} {f:α→α} {l:List α} (h:∀ x∈l,f x=x):l.map f=l:=by
 induction l with
 | nil=>rfl
 | cons a r ih=>rw [List.map_cons,h a (by simp),ih fun x hx=>h x (by simp [hx])]
theorem zCZ {α β:Type} {f:α→List β} {l:List α} (h:∀ x∈l,f x=[]):l.flatMap f=[]:=by
 induction l with
 | nil=>rfl
 | cons a r ih=>rw [List.flatMap_cons,h a (by simp),ih fun x hx=>h x (by simp [hx])];rfl
theorem zFY {B:Nat→zP} {ids:List Nat} {x:AV} (h:zIK ids x=true):zCl B ids x=x∧zCo B ids x=[]:=by
 cases x with
 | agg cs =>
  simp only [zIK,List.all_eq_true] at h
  exact ⟨by simp only [zCl];rw [zEq fun c hc=>(zCA (h c hc)).1],zCZ fun c hc=>(zCA (h c hc)).2⟩
 | _=>simp only [zIK] at h;exact zCA (B:=B) h
theorem zNA {B:Nat→zP} {ids:List Nat} {x:AV} (h:zLq ids x=true):frz B ids x=x∧zBw B ids x=[]:=by
 cases x with
 | tuple vs =>
  simp only [zLq,List.all_eq_true] at h
  exact ⟨by simp only [frz];rw [zEq fun c hc=>(zFY (h c hc)).1],zCZ fun c hc=>(zFY (h c hc)).2⟩
 | _=>simp only [zLq] at h;exact zFY (B:=B) h
inductive Sp where
 | s (t:Nat)
 | a (t:Nat) (v:AV)
inductive Bp where
 | s (i:Nat)
 | a (i:Nat) (b:zP)
def zMU (st:AS) (ρ:List Nat):Sp→Nat×AV
 | .s t=>(t,rn ρ (st.slot t))
 | .a t v=>(t,v)
def zN7 (st:AS) (ρ ids:List Nat):Sp→Bool
 | .s t=>ins ρ (st.slot t)&&zLq ids (st.slot t)
 | .a _ _=>true
def zOf (st:AS) (ρ ids:List Nat):Sp→List Prop
 | .s _=>[]
 | .a t v=>zBw st.box ids (st.slot t)++loT (frz st.box ids (st.slot t)) (un ρ v)
def rnB (ρ:List Nat):zP→zP
 | .live (.var t cs)=>.live (.var t (rns ρ cs))
 | b=>b
def okB (ρ ids:List Nat):zP→Bool
 | .live (.var _ cs)=>xA cs&&(zFk ρ cs&&cs.all (zHx ids))
 | .live _=>true
 | _=>false
def zM3 (st:AS) (ρ:List Nat):Bp→Nat×zP
 | .s i=>(i,rnB ρ (st.box (ρ.getD i 0)))
 | .a i b=>(i,b)
def zNW (st:AS) (ρ ids:List Nat):Bp→Bool
 | .s i=>okB ρ ids (st.box (ρ.getD i 0))
 | .a _ _=>true
def zOd (st:AS) (ρ ids:List Nat):Bp→List Prop
 | .s _=>[]
 | .a i b=>u0 st.box ids ρ (st.box (ρ.getD i 0)) b
def zN4 (np:Nat) (st:AS) (ρ ids:List Nat) (sl2:List (Nat×AV)) (bx2:List (Nat×zP)):Bool :=
 ((u9 ρ&&zBg (ρ.take np) (List.range np))&&(ids.all fun i=>zBj (st.box i)&&Nat.ble np i)) &&
   ((sl2.all fun x=>(uE ρ.length x.2&&zCR x.2)&&zDD (frz st.box ids (st.slot x.1))) &&
    (bx2.all fun x=>(Nat.blt x.1 ρ.length&&zG3 ρ.length x.2)&&(match x.2 with | .live (.row ..)=>!(ids.any (Nat.beq (ρ.getD x.1 0))) | .unused=>false | _=>true)))
def wkm (np:Nat) (st:AS) (ρ ids:List Nat) (sps:List Sp) (bps:List Bp):Option (List Prop×List (Nat×AV)×List (Nat×zP)) :=
 bif zN4 np st ρ ids (sps.map (zMU st ρ)) (bps.map (zM3 st ρ))&&(sps.all (zN7 st ρ ids)&&bps.all (zNW st ρ ids)) then
  some (sps.flatMap (zOf st ρ ids)++bps.flatMap (zOd st ρ ids),sps.map (zMU st ρ),bps.map (zM3 st ρ))
 else none
theorem zJV {ρ:List Nat}:∀ {cs:List AV},xA cs=true→xA (rns ρ cs)=true
 | [],_=>rfl
 | a::r,h=>by
  simp only [xA,Bool.and_eq_true] at h
  simp only [rns,xA,Bool.and_eq_true]
  refine ⟨?_,zJV h.2⟩
  have h1:=h.1
  cases a<;>first | exact h1 | rfl
theorem zMJ (np:Nat) (st:AS) (ρ ids:List Nat) (sl2:List (Nat×AV)) (bx2:List (Nat×zP)) :
  zGA np st ρ ids sl2 bx2=bif zN4 np st ρ ids sl2 bx2 then some (sl2.flatMap (fun x=>zBw st.box ids (st.slot x.1)++loT (frz st.box ids (st.slot x.1)) (un ρ x.2)) ++
   bx2.flatMap (fun x=>u0 st.box ids ρ (st.box (ρ.getD x.1 0)) x.2)) else none:=rfl
theorem zNd {np:Nat} {st:AS} {ρ ids:List Nat} {sps:List Sp} {bps:List Bp} {vcs:List Prop} {sl2:List (Nat×AV)} {bx2:List (Nat×zP)} (h:wkm np st ρ ids sps bps=some (vcs,sl2,bx2)) (hv:kM vcs) :
  ∃ vcs',zGA np st ρ ids sl2 bx2=some vcs'∧kM vcs':=by
 unfold wkm at h
 replace h:=zV h;obtain ⟨hc,h⟩:=h
 simp only [Bool.and_eq_true,List.all_eq_true] at hc
 obtain ⟨hok,hsp,hbp⟩:=hc
 simp only [Option.some.injEq,Prod.mk.injEq] at h
 obtain ⟨rfl,rfl,rfl⟩:=h
 have hv:=zLl hv
 have toAll:∀ {l:List Prop},(∀ p∈l,p)→kM l:=by
  intro l
  induction l with
  | nil=>intro _;trivial
  | cons a r ih=>intro h;exact ⟨h a (by simp),ih fun p hp=>h p (by simp [hp])⟩
 refine ⟨_,(zMJ ..).trans (by rw [hok];rfl),toAll ?_⟩
 intro p hp
 rcases List.mem_append.1 hp with hp | hp
 ·obtain ⟨x,hx,hp⟩:=List.mem_flatMap.1 hp
  obtain ⟨sp,hs,rfl⟩:=List.mem_map.1 hx
  cases sp with
  | s t =>
   have h1:=hsp _ hs
   simp only [zN7,Bool.and_eq_true] at h1
   have h2:=zNA (B:=st.box) h1.2
   simp only [zMU,h2.1,h2.2,List.nil_append,zNl h1.1] at hp
   exact zMX _ p hp
  | a t v=>exact hv p (List.mem_append_left _ (List.mem_flatMap.2 ⟨_,hs,hp⟩))
 ·obtain ⟨x,hx,hp⟩:=List.mem_flatMap.1 hp
  obtain ⟨bp,hb,rfl⟩:=List.mem_map.1 hx
  cases bp with
  | s i =>
   have h1:=hbp _ hb
   simp only [zNW] at h1
   simp only [zM3] at hp
   generalize st.box (ρ.getD i 0)=b at h1 hp
   cases b with
   | unused=>cases h1
   | dead=>cases h1
   | live b =>
    cases b with
    | row e s l=>simp [rnB,u0] at hp;exact hp
    | map a k l=>simp [rnB,u0] at hp;exact hp
    | var t cs =>
     simp only [okB,Bool.and_eq_true,List.all_eq_true] at h1
     obtain ⟨h2,h3,h4⟩:=h1
     simp only [rnB,u0,List.mem_append,List.mem_cons,List.not_mem_nil,or_false] at hp
     rcases hp with (h | h) | hp | hp
     ·rw [h];trivial
     ·rw [h];exact zJV h2
     ·rw [zCZ fun c hc=>(zCA (h4 c hc)).2] at hp;cases hp
     ·rw [zEq fun c hc=>(zCA (h4 c hc)).1,zDc h3] at hp
      exact zIN _ p hp
  | a i b=>exact hv p (List.mem_append_right _ (List.mem_flatMap.2 ⟨_,hb,hp⟩))
theorem zEE {np:Nat} {st:AS} (ρ ids:List Nat) (sps:List Sp) (bps:List Bp) {vcs:List Prop} {sl2:List (Nat×AV)} {bx2:List (Nat×zP)} (h:wkm np st ρ ids sps bps=some (vcs,sl2,bx2)) (hv:kM vcs) :
  Sub np st (mk sl2 bx2 ρ.length):=by
 obtain ⟨vcs',h1,h2⟩:=zNd h hv
 exact zNY ρ ids sl2 bx2 h1 h2
theorem an:kM []:=trivial
theorem ac {p:Prop} {r:List Prop} (h:p) (t:kM r):kM (p::r):=⟨h,t⟩
end Go.Ab

/- The rules once more, in the shortest words: what the kernel computes is left to it. -/
namespace Go.Ab
open Go
abbrev Ii (x:Int):AV:=.int .i64 x
abbrev Iu (x:Int):AV:=.int .u8 x
abbrev Vb (n:Nat) (l:List AV):zP:=.live (.var n l)
abbrev Rb (n k:Nat) (l:List AV):zP:=.live (.row n k l)
abbrev Hg:yR:={ g:=false }
abbrev Ht:yR:={ b:=true }
abbrev Hf:yR:={ b:=false }
abbrev Pp (i:Nat):AV:=.ptr i 0 0 0
abbrev Mb (l:List Int):List AV:=List.map (AV.int .u8) l
abbrev Mi (l:List Int):List AV:=List.map (AV.int .i64) l
abbrev Ms (l:List (List Int)):List AV:=List.map AV.str l
abbrev Mp {α:Type} (f:α→AV) (l:List α):List AV:=List.map f l
abbrev lN {α:Type} (l:List α):Int:=((l.length:Nat):Int)
theorem bft (b:Bool):b=true∨b=false:=Bool.eq_false_or_eq_true b
variable {P:Program} {N np:Nat} {K:Exit→AS→Prop} {c:Code} {st:AS}
theorem sq (h:AW P N np (Code.l c) (zLu P N np (Code.r c) K) st) (hc:c=.seq (Code.l c) (Code.r c):=by kernel_rfl):AW P N np c K st:=zMp hc h
theorem rt (h:K .ret st) (hc:c=.ret:=by kernel_rfl):AW P N np c K st:=zN1 hc h
theorem sk (h:K .normal st) (hc:c=.skip:=by kernel_rfl):AW P N np c K st:=zNy hc h
theorem rg {sl:List (Nat×AV)} {bx:List (Nat×zP)} {n:Nat} (hs:List (Nat×yR)) (live bl:List Nat) (n':Nat) {vcs:List Prop} (vals:List AV) (bxs:List zP) (hm:P.follows .mixedOrders=true) (hv:kM vcs)
  (hk:K .normal (mk (live.zip vals) (bl.zip bxs) n')) (h:zGD P N np c hs sl bx n live bl n'=some (vcs,vals,bxs):=by kernel_rfl):AW P N np c K (mk sl bx n):=zHV hs live bl n' h hm hv hk
theorem sr {sl:List (Nat×AV)} {bx:List (Nat×zP)} {n:Nat} (hs:List (Nat×yR)) (live bl:List Nat) (n':Nat) {vcs:List Prop} (vals:List AV) (bxs:List zP) (hm:P.follows .mixedOrders=true) (hv:kM vcs)
  (hk:zLu P N np (Code.r c) K .normal (mk (live.zip vals) (bl.zip bxs) n')) (h:zGD P N np (Code.l c) hs sl bx n live bl n'=some (vcs,vals,bxs):=by kernel_rfl) (hc:c=.seq (Code.l c) (Code.r c):=by kernel_rfl):AW P N np c K (mk sl bx n) :=
 zMp hc (zHV hs live bl n' h hm hv hk)
theorem sw (ρ ids:List Nat) (sps:List Sp) (bps:List Bp) {vcs:List Prop} {sl2:List (Nat×AV)} {bx2:List (Nat×zP)} (hv:kM vcs) (h:wkm np st ρ ids sps bps=some (vcs,sl2,bx2):=by kernel_rfl):Sub np st (mk sl2 bx2 ρ.length):=zEE ρ ids sps bps h hv
theorem wk (ρ ids:List Nat) (sps:List Sp) (bps:List Bp) {vcs:List Prop} (sl2:List (Nat×AV)) (bx2:List (Nat×zP)) (hv:kM vcs) (k:AW P N np c K (mk sl2 bx2 ρ.length)) (h:wkm np st ρ ids sps bps=some (vcs,sl2,bx2):=by kernel_rfl):AW P N np c K st:=zAy (zEE ρ ids sps bps h hv) k
theorem cd (t:Nat) (b:Bool) (h1:b=true→AW P N np (Code.t c) K st) (h2:b=false→AW P N np (Code.e c) K st) (hc:c=.cond (.tmp t) (Code.t c) (Code.e c):=by kernel_rfl) (hs:st.slot t=.bool b:=by kernel_rfl):AW P N np c K st:=zNR hc hs h1 h2
theorem ar {α:Type} (x:α) {r:List Prop} (t:kM r):kM ((x=x)::r):=⟨rfl,t⟩
theorem ax {r:List Prop} (t:kM r):kM ((true=!false)::r):=⟨rfl,t⟩
end Go.Ab
