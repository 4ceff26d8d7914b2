/- A layer over the model: abstract values and states, and the rules by which the printed proofs go. No conditions. -/
import Derived.Test.YtdpgdpjoemdkjaaA35
/- A state seen otherwise, most of it as it was. -/
namespace Go.Ab
open Go
def zIm:List Nat→Nat→Nat
 | [],_=>0
 | x::r,i=>bif Nat.beq x i then 0 else zIm r i+1
def inN (l:List Nat) (i:Nat):Bool:=l.any (Nat.beq i)
theorem zFX {l:List Nat} {i:Nat} (h:inN l i=true):l.getD (zIm l i) 0=i:=by
 induction l with
 | nil=>simp [inN] at h
 | cons x r ih =>
  simp only [zIm]
  cases hx:Nat.beq x i
  ·simp only [cond_false]
   have:inN r i=true:=by
    simp only [inN,List.any_cons,Bool.or_eq_true] at h ⊢
    rcases h with h | h
    ·rw [x9.1 h] at hx;simp at hx
    ·exact h
   have:=ih this
   simpa [List.getD] using this
  ·have:=x9.1 hx
   simp [List.getD,this]
mutual
def rn (ρ:List Nat):AV→AV
 | .agg cs=>.agg (rns ρ cs)
 | .tuple cs=>.tuple (rns ρ cs)
 | .ptr id sz i off=>.ptr (zIm ρ id) sz i off
 | .own id n=>.own (zIm ρ id) n
 | .part id sz lo hi=>.part (zIm ρ id) sz lo hi
 | .fn f cs=>.fn f (rns ρ cs)
 | .mp id=>.mp (zIm ρ id)
 | .junk=>.junk
 | .int k n=>.int k n
 | .bool b=>.bool b
 | .str l=>.str l
 | .sl f s l=>.sl f s l
 | .ref a=>.ref a
 | .nilp=>.nilp
 | .nilsl=>.nilsl
 | .nb l=>.nb l
 | .raw b=>.raw b
def rns (ρ:List Nat):List AV→List AV
 | []=>[]
 | a::r=>rn ρ a::rns ρ r
end
mutual
def ins (ρ:List Nat):AV→Bool
 | .agg cs=>zIh ρ cs
 | .tuple cs=>zIh ρ cs
 | .ptr id ..=>inN ρ id
 | .own id _=>inN ρ id
 | .part id ..=>inN ρ id
 | .fn _ cs=>zIh ρ cs
 | .mp id=>inN ρ id
 | .junk=>true
 | .int ..=>true
 | .bool _=>true
 | .str _=>true
 | .sl ..=>true
 | .ref _=>true
 | .nilp=>true
 | .nilsl=>true
 | .nb _=>true
 | .raw _=>true
def zIh (ρ:List Nat):List AV→Bool
 | []=>true
 | a::r=>ins ρ a&&zIh ρ r
end
mutual
theorem zRj {ρ:List Nat}:∀ {a:AV},ins ρ a=true→un ρ (rn ρ a)=a
 | .agg cs,h=>by simp only [rn,un];rw [zFM (cs:=cs) (by simpa [ins] using h)]
 | .tuple cs,h=>by simp only [rn,un];rw [zFM (cs:=cs) (by simpa [ins] using h)]
 | .ptr id ..,h=>by simp only [rn,un];rw [zFX (by simpa [ins] using h)]
 | .own id _,h=>by simp only [rn,un];rw [zFX (by simpa [ins] using h)]
 | .part id ..,h=>by simp only [rn,un];rw [zFX (by simpa [ins] using h)]
 | .fn _ cs,h=>by simp only [rn,un];rw [zFM (cs:=cs) (by simpa [ins] using h)]
 | .mp id,h=>by simp only [rn,un];rw [zFX (by simpa [ins] using h)]
 | .junk,_=>rfl
 | .int ..,_=>rfl
 | .bool _,_=>rfl
 | .str _,_=>rfl
 | .sl ..,_=>rfl
 | .ref _,_=>rfl
 | .nilp,_=>rfl
 | .nilsl,_=>rfl
 | .nb _,_=>rfl
 | .raw _,_=>rfl
theorem zFM {ρ:List Nat}:∀ {cs:List AV},zIh ρ cs=true→uns ρ (rns ρ cs)=cs
 | [],_=>rfl
 | a::r,h=>by
  simp only [zIh,Bool.and_eq_true] at h
  simp only [rns,uns]
  rw [zRj h.1,zFM h.2]
end
theorem zLS (x:AV):∀ p∈lo1 x x,p:=by
 intro p hp
 cases x with
 | sl f s l =>
  have hp:p=(s=s)∨p=(l=l)∨p=((!f||f)=true):=by simpa only [lo1,List.mem_cons,List.not_mem_nil,or_false] using (show p∈[s=s,l=l,(!f||f)=true] from hp)
  rcases hp with h | h | h
  ·rw [h]
  ·rw [h]
  ·rw [h];cases f<;>rfl
 | junk=>cases hp
 | _=>simp [lo1] at hp;exact hp
theorem zMz:∀ (xs:List AV),∀ p∈los xs xs,p:=by
 intro xs
 induction xs with
 | nil=>intro p hp;cases hp
 | cons x r ih =>
  intro p hp
  simp only [los,List.mem_append] at hp
  rcases hp with hp | hp
  ·exact zLS x p hp
  ·exact ih p hp
theorem zNj (x:AV):∀ p∈loA x x,p:=by
 intro p hp
 cases x with
 | agg cs=>exact zMz cs p hp
 | _=>simp only [loA] at hp;exact zLS _ p hp
theorem zPd:∀ (xs:List AV),∀ p∈zGn xs xs,p:=by
 intro xs
 induction xs with
 | nil=>intro p hp;cases hp
 | cons x r ih =>
  intro p hp
  simp only [zGn,List.mem_append] at hp
  rcases hp with hp | hp
  ·exact zNj x p hp
  ·exact ih p hp
theorem zQK (x:AV):∀ p∈loT x x,p:=by
 intro p hp
 cases x with
 | tuple cs=>exact zPd cs p hp
 | _=>simp only [loT] at hp;exact zNj _ p hp
def zKd (ids:List Nat):AV→Bool
 | .own id _=>!(ids.any (Nat.beq id))
 | .part id ..=>!(ids.any (Nat.beq id))
 | _=>true
def zMi (ids:List Nat):AV→Bool
 | .agg cs=>cs.all (zKd ids)
 | v=>zKd ids v
def zOB (ids:List Nat):AV→Bool
 | .tuple vs=>vs.all (zMi ids)
 | v=>zMi ids v
theorem zE7 {B:Nat→yM} {ids:List Nat} {x:AV} (h:zKd ids x=true):zEc B ids x=x∧zCn B ids x=[]:=by
 cases x with
 | own id n=>simp only [zKd,Bool.not_eq_true'] at h;simp [zEc,zCn,h]
 | part id sz lo hi=>simp only [zKd,Bool.not_eq_true'] at h;simp [zEc,zCn,h]
 | _=>exact ⟨rfl,rfl⟩
theorem zG1 {α:Type} {f:α→α} {l:List α} (h:∀ x∈l,f x=x):l.map f=l:=by
 induction l with
 | nil=>rfl
 | cons a r ih=>rw [List.map_cons,h a (by simp),ih fun x hx=>h x (by simp [hx])]
theorem zFo {α β:Type} {f:α→List β} {l:List α} (h:∀ x∈l,f x=[]):l.flatMap f=[]:=by
 induction l with
 | nil=>rfl
 | cons a r ih=>rw [List.flatMap_cons,h a (by simp),ih fun x hx=>h x (by simp [hx])];rfl
theorem zH0 {B:Nat→yM} {ids:List Nat} {x:AV} (h:zMi ids x=true):zEM B ids x=x∧zEW B ids x=[]:=by
 cases x with
 | agg cs =>
  simp only [zMi,List.all_eq_true] at h
  exact ⟨by simp only [zEM];rw [zG1 fun c hc=>(zE7 (h c hc)).1],zFo fun c hc=>(zE7 (h c hc)).2⟩
 | _=>simp only [zMi] at h;exact zE7 (B:=B) h
theorem zRo {B:Nat→yM} {ids:List Nat} {x:AV} (h:zOB ids x=true):frz B ids x=x∧zDE B ids x=[]:=by
 cases x with
 | tuple vs =>
  simp only [zOB,List.all_eq_true] at h
  exact ⟨by simp only [frz];rw [zG1 fun c hc=>(zH0 (h c hc)).1],zFo fun c hc=>(zH0 (h c hc)).2⟩
 | _=>simp only [zOB] at h;exact zH0 (B:=B) h
inductive Sp where
 | s (t:Nat)
 | a (t:Nat) (v:AV)
inductive Bp where
 | s (i:Nat)
 | a (i:Nat) (b:yM)
def zQE (st:AS) (ρ:List Nat):Sp→Nat×AV
 | .s t=>(t,rn ρ (st.slot t))
 | .a t v=>(t,v)
def zSh (st:AS) (ρ ids:List Nat):Sp→Bool
 | .s t=>ins ρ (st.slot t)&&zOB ids (st.slot t)
 | .a _ _=>true
def zSr (st:AS) (ρ ids:List Nat):Sp→List Prop
 | .s _=>[]
 | .a t v=>zDE st.box ids (st.slot t)++loT (frz st.box ids (st.slot t)) (un ρ v)
def rnB (ρ:List Nat):yM→yM
 | .live (.var t cs)=>.live (.var t (rns ρ cs))
 | b=>b
def okB (ρ ids:List Nat):yM→Bool
 | .live (.var _ cs)=>wL cs&&(zIh ρ cs&&cs.all (zKd ids))
 | .live _=>true
 | _=>false
def zQI (st:AS) (ρ:List Nat):Bp→Nat×yM
 | .s i=>(i,rnB ρ (st.box (ρ.getD i 0)))
 | .a i b=>(i,b)
def zR1 (st:AS) (ρ ids:List Nat):Bp→Bool
 | .s i=>okB ρ ids (st.box (ρ.getD i 0))
 | .a _ _=>true
def zSq (st:AS) (ρ ids:List Nat):Bp→List Prop
 | .s _=>[]
 | .a i b=>jC st.box ids ρ (st.box (ρ.getD i 0)) b
def zSg (np:Nat) (st:AS) (ρ ids:List Nat) (sl2:List (Nat×AV)) (bx2:List (Nat×yM)):Bool :=
 ((jP ρ&&zDm (ρ.take np) (List.range np))&&(ids.all fun i=>zDy (st.box i)&&Nat.ble np i)) &&
   ((sl2.all fun x=>(qA ρ.length x.2&&zFj x.2)&&zF9 (frz st.box ids (st.slot x.1))) &&
    (bx2.all fun x=>(Nat.blt x.1 ρ.length&&zJ1 ρ.length x.2)&&(match x.2 with | .live (.row ..)=>!(ids.any (Nat.beq (ρ.getD x.1 0))) | .unused=>false | _=>true)))
def wkm (np:Nat) (st:AS) (ρ ids:List Nat) (sps:List Sp) (bps:List Bp):Option (List Prop×List (Nat×AV)×List (Nat×yM)) :=
 bif zSg np st ρ ids (sps.map (zQE st ρ)) (bps.map (zQI st ρ))&&(sps.all (zSh st ρ ids)&&bps.all (zR1 st ρ ids)) then
  some (sps.flatMap (zSr st ρ ids)++bps.flatMap (zSq st ρ ids),sps.map (zQE st ρ),bps.map (zQI st ρ))
 else none
theorem zMW {ρ:List Nat}:∀ {cs:List AV},wL cs=true→wL (rns ρ cs)=true
 | [],_=>rfl
 | a::r,h=>by
  simp only [wL,Bool.and_eq_true] at h
  simp only [rns,wL,Bool.and_eq_true]
  refine ⟨?_,zMW h.2⟩
  have h1:=h.1
  cases a<;>first | exact h1 | rfl
theorem zQN (np:Nat) (st:AS) (ρ ids:List Nat) (sl2:List (Nat×AV)) (bx2:List (Nat×yM)) :
  zJu np st ρ ids sl2 bx2=bif zSg np st ρ ids sl2 bx2 then some (sl2.flatMap (fun x=>zDE st.box ids (st.slot x.1)++loT (frz st.box ids (st.slot x.1)) (un ρ x.2)) ++
   bx2.flatMap (fun x=>jC st.box ids ρ (st.box (ρ.getD x.1 0)) x.2)) else none:=rfl
theorem zQO {np:Nat} {st:AS} {ρ ids:List Nat} {sps:List Sp} {bps:List Bp} {vcs:List Prop} {sl2:List (Nat×AV)} {bx2:List (Nat×yM)} (h:wkm np st ρ ids sps bps=some (vcs,sl2,bx2)) (hv:zAh vcs) :
  ∃ vcs',zJu np st ρ ids sl2 bx2=some vcs'∧zAh vcs':=by
 unfold wkm at h
 replace h:=yK h;obtain ⟨hc,h⟩:=h
 simp only [Bool.and_eq_true,List.all_eq_true] at hc
 obtain ⟨hok,hsp,hbp⟩:=hc
 simp only [Option.some.injEq,Prod.mk.injEq] at h
 obtain ⟨rfl,rfl,rfl⟩:=h
 have hv:=zPb hv
 have toAll:∀ {l:List Prop},(∀ p∈l,p)→zAh l:=by
  intro l
  induction l with
  | nil=>intro _;trivial
  | cons a r ih=>intro h;exact ⟨h a (by simp),ih fun p hp=>h p (by simp [hp])⟩
 refine ⟨_,(zQN ..).trans (by rw [hok];rfl),toAll ?_⟩
 intro p hp
 rcases List.mem_append.1 hp with hp | hp
 ·obtain ⟨x,hx,hp⟩:=List.mem_flatMap.1 hp
  obtain ⟨sp,hs,rfl⟩:=List.mem_map.1 hx
  cases sp with
  | s t =>
   have h1:=hsp _ hs
   simp only [zSh,Bool.and_eq_true] at h1
   have h2:=zRo (B:=st.box) h1.2
   simp only [zQE,h2.1,h2.2,List.nil_append,zRj h1.1] at hp
   exact zQK _ p hp
  | a t v=>exact hv p (List.mem_append_left _ (List.mem_flatMap.2 ⟨_,hs,hp⟩))
 ·obtain ⟨x,hx,hp⟩:=List.mem_flatMap.1 hp
  obtain ⟨bp,hb,rfl⟩:=List.mem_map.1 hx
  cases bp with
  | s i =>
   have h1:=hbp _ hb
   simp only [zR1] at h1
   simp only [zQI] at hp
   generalize st.box (ρ.getD i 0)=b at h1 hp
   cases b with
   | unused=>cases h1
   | dead=>cases h1
   | live b =>
    cases b with
    | row e s l=>simp [rnB,jC] at hp;exact hp
    | map a k l=>simp [rnB,jC] at hp;exact hp
    | var t cs =>
     simp only [okB,Bool.and_eq_true,List.all_eq_true] at h1
     obtain ⟨h2,h3,h4⟩:=h1
     simp only [rnB,jC,List.mem_append,List.mem_cons,List.not_mem_nil,or_false] at hp
     rcases hp with (h | h) | hp | hp
     ·rw [h];trivial
     ·rw [h];exact zMW h2
     ·rw [zFo fun c hc=>(zE7 (h4 c hc)).2] at hp;cases hp
     ·rw [zG1 fun c hc=>(zE7 (h4 c hc)).1,zFM h3] at hp
      exact zMz _ p hp
  | a i b=>exact hv p (List.mem_append_right _ (List.mem_flatMap.2 ⟨_,hb,hp⟩))
theorem zHm {np:Nat} {st:AS} (ρ ids:List Nat) (sps:List Sp) (bps:List Bp) {vcs:List Prop} {sl2:List (Nat×AV)} {bx2:List (Nat×yM)} (h:wkm np st ρ ids sps bps=some (vcs,sl2,bx2)) (hv:zAh vcs) :
  Sub np st (mk sl2 bx2 ρ.length):=by
 obtain ⟨vcs',h1,h2⟩:=zQO h hv
 exact zSe ρ ids sl2 bx2 h1 h2
theorem an:zAh []:=trivial
theorem ac {p:Prop} {r:List Prop} (h:p) (t:zAh r):zAh (p::r):=⟨h,t⟩
end Go.Ab

/- The rules once more, in the shortest words: what the kernel computes is left to it. -/
namespace Go.Ab
open Go
abbrev Ii (x:Int):AV:=.int .i64 x
abbrev Iu (x:Int):AV:=.int .u8 x
abbrev Vb (n:Nat) (l:List AV):yM:=.live (.var n l)
abbrev Rb (n k:Nat) (l:List AV):yM:=.live (.row n k l)
abbrev Hg:x4:={ g:=false }
abbrev Ht:x4:={ b:=true }
abbrev Hf:x4:={ b:=false }
abbrev Pp (i:Nat):AV:=.ptr i 0 0 0
abbrev Mb (l:List Int):List AV:=List.map (AV.int .u8) l
abbrev Mi (l:List Int):List AV:=List.map (AV.int .i64) l
abbrev Ms (l:List (List Int)):List AV:=List.map AV.str l
abbrev Mp {α:Type} (f:α→AV) (l:List α):List AV:=List.map f l
abbrev lN {α:Type} (l:List α):Int:=((l.length:Nat):Int)
theorem bft (b:Bool):b=true∨b=false:=Bool.eq_false_or_eq_true b
variable {P:Program} {N np:Nat} {K:Exit→AS→Prop} {c:Code} {st:AS}
theorem sq (h:AW P N np (Code.l c) (zO6 P N np (Code.r c) K) st) (hc:c=.seq (Code.l c) (Code.r c):=by kernel_rfl):AW P N np c K st:=zPJ hc h
theorem rt (h:K .ret st) (hc:c=.ret:=by kernel_rfl):AW P N np c K st:=zSa hc h
theorem sk (h:K .normal st) (hc:c=.skip:=by kernel_rfl):AW P N np c K st:=zRR hc h
theorem rg {sl:List (Nat×AV)} {bx:List (Nat×yM)} {n:Nat} (hs:List (Nat×x4)) (live bl:List Nat) (n':Nat) {vcs:List Prop} (vals:List AV) (bxs:List yM) (hm:P.follows .mixedOrders=true) (hv:zAh vcs)
  (hk:K .normal (mk (live.zip vals) (bl.zip bxs) n')) (h:zIN P N np c hs sl bx n live bl n'=some (vcs,vals,bxs):=by kernel_rfl):AW P N np c K (mk sl bx n):=zKE hs live bl n' h hm hv hk
theorem sr {sl:List (Nat×AV)} {bx:List (Nat×yM)} {n:Nat} (hs:List (Nat×x4)) (live bl:List Nat) (n':Nat) {vcs:List Prop} (vals:List AV) (bxs:List yM) (hm:P.follows .mixedOrders=true) (hv:zAh vcs)
  (hk:zO6 P N np (Code.r c) K .normal (mk (live.zip vals) (bl.zip bxs) n')) (h:zIN P N np (Code.l c) hs sl bx n live bl n'=some (vcs,vals,bxs):=by kernel_rfl) (hc:c=.seq (Code.l c) (Code.r c):=by kernel_rfl):AW P N np c K (mk sl bx n) :=
 zPJ hc (zKE hs live bl n' h hm hv hk)
theorem sw (ρ ids:List Nat) (sps:List Sp) (bps:List Bp) {vcs:List Prop} {sl2:List (Nat×AV)} {bx2:List (Nat×yM)} (hv:zAh vcs) (h:wkm np st ρ ids sps bps=some (vcs,sl2,bx2):=by kernel_rfl):Sub np st (mk sl2 bx2 ρ.length):=zHm ρ ids sps bps h hv
theorem wk (ρ ids:List Nat) (sps:List Sp) (bps:List Bp) {vcs:List Prop} (sl2:List (Nat×AV)) (bx2:List (Nat×yM)) (hv:zAh vcs) (k:AW P N np c K (mk sl2 bx2 ρ.length)) (h:wkm np st ρ ids sps bps=some (vcs,sl2,bx2):=by kernel_rfl):AW P N np c K st:=zPE (zHm ρ ids sps bps h hv) k
theorem cd (t:Nat) (b:Bool) (h1:b=true→AW P N np (Code.t c) K st) (h2:b=false→AW P N np (Code.e c) K st) (hc:c=.cond (.tmp t) (Code.t c) (Code.e c):=by kernel_rfl) (hs:st.slot t=.bool b:=by kernel_rfl):AW P N np c K st:=zRy hc hs h1 h2
theorem ar {α:Type} (x:α) {r:List Prop} (t:zAh r):zAh ((x=x)::r):=⟨rfl,t⟩
theorem ax {r:List Prop} (t:zAh r):zAh ((true=!false)::r):=⟨rfl,t⟩
theorem zne:([]:List yM)=[]:=rfl
end Go.Ab
