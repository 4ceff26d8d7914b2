/- A layer over the model: abstract values and states, and the rules by which the printed proofs go. No conditions. -/
import Derived.Test.YtdpgdpjoemdkjaaA35
/- A state seen otherwise, most of it as it was. -/
namespace Go.Ab
open Go
def zD9:List Nat→Nat→Nat
 | [],_=>0
 | x::r,i=>bif Nat.beq x i then 0 else zD9 r i+1
def inN (l:List Nat) (i:Nat):Bool:=l.any (Nat.beq i)
theorem zB4 {l:List Nat} {i:Nat} (h:inN l i=true):l.getD (zD9 l i) 0=i:=by
 induction l with
 | nil=>simp [inN] at h
 | cons x r ih =>
  simp only [zD9]
  cases hx:Nat.beq x i
  ·simp only [cond_false]
   have:inN r i=true:=by
    simp only [inN,List.any_cons,Bool.or_eq_true] at h ⊢
    rcases h with h | h
    ·rw [yL.1 h] at hx;simp at hx
    ·exact h
   have:=ih this
   simpa [List.getD] using this
  ·have:=yL.1 hx
   simp [List.getD,this]
mutual
def rn (ρ:List Nat):AV→AV
 | .agg cs=>.agg (rns ρ cs)
 | .tuple cs=>.tuple (rns ρ cs)
 | .ptr id sz i off=>.ptr (zD9 ρ id) sz i off
 | .own id n=>.own (zD9 ρ id) n
 | .part id sz lo hi=>.part (zD9 ρ id) sz lo hi
 | .fn f cs=>.fn f (rns ρ cs)
 | .mp id=>.mp (zD9 ρ id)
 | .junk=>.junk
 | .int k n=>.int k n
 | .bool b=>.bool b
 | .str l=>.str l
 | .sl f s l=>.sl f s l
 | .ref a=>.ref a
 | .nilp=>.nilp
 | .nilsl=>.nilsl
 | .nb l=>.nb l
 | .raw b=>.raw b
def rns (ρ:List Nat):List AV→List AV
 | []=>[]
 | a::r=>rn ρ a::rns ρ r
end
mutual
def ins (ρ:List Nat):AV→Bool
 | .agg cs=>zDZ ρ cs
 | .tuple cs=>zDZ ρ cs
 | .ptr id ..=>inN ρ id
 | .own id _=>inN ρ id
 | .part id ..=>inN ρ id
 | .fn _ cs=>zDZ ρ cs
 | .mp id=>inN ρ id
 | .junk=>true
 | .int ..=>true
 | .bool _=>true
 | .str _=>true
 | .sl ..=>true
 | .ref _=>true
 | .nilp=>true
 | .nilsl=>true
 | .nb _=>true
 | .raw _=>true
def zDZ (ρ:List Nat):List AV→Bool
 | []=>true
 | a::r=>ins ρ a&&zDZ ρ r
end
mutual
theorem zLF {ρ:List Nat}:∀ {a:AV},ins ρ a=true→un ρ (rn ρ a)=a
 | .agg cs,h=>by simp only [rn,un];rw [zBK (cs:=cs) (by simpa [ins] using h)]
 | .tuple cs,h=>by simp only [rn,un];rw [zBK (cs:=cs) (by simpa [ins] using h)]
 | .ptr id ..,h=>by simp only [rn,un];rw [zB4 (by simpa [ins] using h)]
 | .own id _,h=>by simp only [rn,un];rw [zB4 (by simpa [ins] using h)]
 | .part id ..,h=>by simp only [rn,un];rw [zB4 (by simpa [ins] using h)]
 | .fn _ cs,h=>by simp only [rn,un];rw [zBK (cs:=cs) (by simpa [ins] using h)]
 | .mp id,h=>by simp only [rn,un];rw [zB4 (by simpa [ins] using h)]
 | .junk,_=>rfl
 | .int ..,_=>rfl
 | .bool _,_=>rfl
 | .str _,_=>rfl
 | .sl ..,_=>rfl
 | .ref _,_=>rfl
 | .nilp,_=>rfl
 | .nilsl,_=>rfl
 | .nb _,_=>rfl
 | .raw _,_=>rfl
theorem zBK {ρ:List Nat}:∀ {cs:List AV},zDZ ρ cs=true→uns ρ (rns ρ cs)=cs
 | [],_=>rfl
 | a::r,h=>by
  simp only [zDZ,Bool.and_eq_true] at h
  simp only [rns,uns]
  rw [zLF h.1,zBK h.2]
end
theorem zHX (x:AV):∀ p∈lo1 x x,p:=by
 intro p hp
 cases x with
 | sl f s l =>
  have hp:p=(s=s)∨p=(l=l)∨p=((!f||f)=true):=by simpa only [lo1,List.mem_cons,List.not_mem_nil,or_false] using (show p∈[s=s,l=l,(!f||f)=true] from hp)
  rcases hp with h | h | h
  ·rw [h]
  ·rw [h]
  ·rw [h];cases f<;>rfl
 | junk=>cases hp
 | _=>simp [lo1] at hp;exact hp
theorem zGW:∀ (xs:List AV),∀ p∈los xs xs,p:=by
 intro xs
 induction xs with
 | nil=>intro p hp;cases hp
 | cons x r ih =>
  intro p hp
  simp only [los,List.mem_append] at hp
  rcases hp with hp | hp
  ·exact zHX x p hp
  ·exact ih p hp
theorem zGP (x:AV):∀ p∈loA x x,p:=by
 intro p hp
 cases x with
 | agg cs=>exact zGW cs p hp
 | _=>simp only [loA] at hp;exact zHX _ p hp
theorem zKv:∀ (xs:List AV),∀ p∈zBW xs xs,p:=by
 intro xs
 induction xs with
 | nil=>intro p hp;cases hp
 | cons x r ih =>
  intro p hp
  simp only [zBW,List.mem_append] at hp
  rcases hp with hp | hp
  ·exact zGP x p hp
  ·exact ih p hp
theorem zLa (x:AV):∀ p∈loT x x,p:=by
 intro p hp
 cases x with
 | tuple cs=>exact zKv cs p hp
 | _=>simp only [loT] at hp;exact zGP _ p hp
def zFA (ids:List Nat):AV→Bool
 | .own id _=>!(ids.any (Nat.beq id))
 | .part id ..=>!(ids.any (Nat.beq id))
 | _=>true
def zGM (ids:List Nat):AV→Bool
 | .agg cs=>cs.all (zFA ids)
 | v=>zFA ids v
def zJx (ids:List Nat):AV→Bool
 | .tuple vs=>vs.all (zGM ids)
 | v=>zGM ids v
theorem zA0 {B:Nat→zP} {ids:List Nat} {x:AV} (h:zFA ids x=true):zAv B ids x=x∧pE B ids x=[]:=by
 cases x with
 | own id n=>simp only [zFA,Bool.not_eq_true'] at h;simp [zAv,pE,h]
 | part id sz lo hi=>simp only [zFA,Bool.not_eq_true'] at h;simp [zAv,pE,h]
 | _=>exact ⟨rfl,rfl⟩
theorem zCD {α:Type} {f:α→α} {l:List α} (h:∀ x∈l,f x=x):l.map f=l:=by
 induction l with
 | nil=>rfl
 | cons a r ih=>rw [List.map_cons,h a (by simp),ih fun x hx=>h x (by simp [hx])]
theorem zBA {α β:Type} {f:α→List β} {l:List α} (h:∀ x∈l,f x=[]):l.flatMap f=[]:=by
 induction l with
 | nil=>rfl
 | cons a r ih=>rw [List.flatMap_cons,h a (by simp),ih fun x hx=>h x (by simp [hx])];rfl
theorem zD7 {B:Nat→zP} {ids:List Nat} {x:AV} (h:zGM ids x=true):zBi B ids x=x∧zBb B ids x=[]:=by
 cases x with
 | agg cs =>
  simp only [zGM,List.all_eq_true] at h
  exact ⟨by simp only [zBi];rw [zCD fun c hc=>(zA0 (h c hc)).1],zBA fun c hc=>(zA0 (h c hc)).2⟩
 | _=>simp only [zGM] at h;exact zA0 (B:=B) h
theorem zLT {B:Nat→zP} {ids:List Nat} {x:AV} (h:zJx ids x=true):frz B ids x=x∧n9 B ids x=[]:=by
 cases x with
 | tuple vs =>
  simp only [zJx,List.all_eq_true] at h
  exact ⟨by simp only [frz];rw [zCD fun c hc=>(zD7 (h c hc)).1],zBA fun c hc=>(zD7 (h c hc)).2⟩
 | _=>simp only [zJx] at h;exact zD7 (B:=B) h
inductive Sp where
 | s (t:Nat)
 | a (t:Nat) (v:AV)
inductive Bp where
 | s (i:Nat)
 | a (i:Nat) (b:zP)
def zLu (st:AS) (ρ:List Nat):Sp→Nat×AV
 | .s t=>(t,rn ρ (st.slot t))
 | .a t v=>(t,v)
def zMG (st:AS) (ρ ids:List Nat):Sp→Bool
 | .s t=>ins ρ (st.slot t)&&zJx ids (st.slot t)
 | .a _ _=>true
def zMS (st:AS) (ρ ids:List Nat):Sp→List Prop
 | .s _=>[]
 | .a t v=>n9 st.box ids (st.slot t)++loT (frz st.box ids (st.slot t)) (un ρ v)
def rnB (ρ:List Nat):zP→zP
 | .live (.var t cs)=>.live (.var t (rns ρ cs))
 | b=>b
def okB (ρ ids:List Nat):zP→Bool
 | .live (.var _ cs)=>wJ cs&&(zDZ ρ cs&&cs.all (zFA ids))
 | .live _=>true
 | _=>false
def zLB (st:AS) (ρ:List Nat):Bp→Nat×zP
 | .s i=>(i,rnB ρ (st.box (ρ.getD i 0)))
 | .a i b=>(i,b)
def zMt (st:AS) (ρ ids:List Nat):Bp→Bool
 | .s i=>okB ρ ids (st.box (ρ.getD i 0))
 | .a _ _=>true
def zMO (st:AS) (ρ ids:List Nat):Bp→List Prop
 | .s _=>[]
 | .a i b=>vS st.box ids ρ (st.box (ρ.getD i 0)) b
def zMy (np:Nat) (st:AS) (ρ ids:List Nat) (sl2:List (Nat×AV)) (bx2:List (Nat×zP)):Bool :=
 ((vX ρ&&nH (ρ.take np) (List.range np))&&(ids.all fun i=>nS (st.box i)&&Nat.ble np i)) &&
   ((sl2.all fun x=>(w9 ρ.length x.2&&zBp x.2)&&zCg (frz st.box ids (st.slot x.1))) &&
    (bx2.all fun x=>(Nat.blt x.1 ρ.length&&zFy ρ.length x.2)&&(match x.2 with | .live (.row ..)=>!(ids.any (Nat.beq (ρ.getD x.1 0))) | .unused=>false | _=>true)))
def wkm (np:Nat) (st:AS) (ρ ids:List Nat) (sps:List Sp) (bps:List Bp):Option (List Prop×List (Nat×AV)×List (Nat×zP)) :=
 bif zMy np st ρ ids (sps.map (zLu st ρ)) (bps.map (zLB st ρ))&&(sps.all (zMG st ρ ids)&&bps.all (zMt st ρ ids)) then
  some (sps.flatMap (zMS st ρ ids)++bps.flatMap (zMO st ρ ids),sps.map (zLu st ρ),bps.map (zLB st ρ))
 else none
theorem zG9 {ρ:List Nat}:∀ {cs:List AV},wJ cs=true→wJ (rns ρ cs)=true
 | [],_=>rfl
 | a::r,h=>by
  simp only [wJ,Bool.and_eq_true] at h
  simp only [rns,wJ,Bool.and_eq_true]
  refine ⟨?_,zG9 h.2⟩
  have h1:=h.1
  cases a<;>first | exact h1 | rfl
theorem zKV (np:Nat) (st:AS) (ρ ids:List Nat) (sl2:List (Nat×AV)) (bx2:List (Nat×zP)) :
  zEC np st ρ ids sl2 bx2=bif zMy np st ρ ids sl2 bx2 then some (sl2.flatMap (fun x=>n9 st.box ids (st.slot x.1)++loT (frz st.box ids (st.slot x.1)) (un ρ x.2)) ++
   bx2.flatMap (fun x=>vS st.box ids ρ (st.box (ρ.getD x.1 0)) x.2)) else none:=rfl
theorem zLi {np:Nat} {st:AS} {ρ ids:List Nat} {sps:List Sp} {bps:List Bp} {vcs:List Prop} {sl2:List (Nat×AV)} {bx2:List (Nat×zP)} (h:wkm np st ρ ids sps bps=some (vcs,sl2,bx2)) (hv:qQ vcs) :
  ∃ vcs',zEC np st ρ ids sl2 bx2=some vcs'∧qQ vcs':=by
 unfold wkm at h
 replace h:=zU h;obtain ⟨hc,h⟩:=h
 simp only [Bool.and_eq_true,List.all_eq_true] at hc
 obtain ⟨hok,hsp,hbp⟩:=hc
 simp only [Option.some.injEq,Prod.mk.injEq] at h
 obtain ⟨rfl,rfl,rfl⟩:=h
 have hv:=zJb hv
 have toAll:∀ {l:List Prop},(∀ p∈l,p)→qQ l:=by
  intro l
  induction l with
  | nil=>intro _;trivial
  | cons a r ih=>intro h;exact ⟨h a (by simp),ih fun p hp=>h p (by simp [hp])⟩
 refine ⟨_,(zKV ..).trans (by rw [hok];rfl),toAll ?_⟩
 intro p hp
 rcases List.mem_append.1 hp with hp | hp
 ·obtain ⟨x,hx,hp⟩:=List.mem_flatMap.1 hp
  obtain ⟨sp,hs,rfl⟩:=List.mem_map.1 hx
  cases sp with
  | s t =>
   have h1:=hsp _ hs
   simp only [zMG,Bool.and_eq_true] at h1
   have h2:=zLT (B:=st.box) h1.2
   simp only [zLu,h2.1,h2.2,List.nil_append,zLF h1.1] at hp
   exact zLa _ p hp
  | a t v=>exact hv p (List.mem_append_left _ (List.mem_flatMap.2 ⟨_,hs,hp⟩))
 ·obtain ⟨x,hx,hp⟩:=List.mem_flatMap.1 hp
  obtain ⟨bp,hb,rfl⟩:=List.mem_map.1 hx
  cases bp with
  | s i =>
   have h1:=hbp _ hb
   simp only [zMt] at h1
   simp only [zLB] at hp
   generalize st.box (ρ.getD i 0)=b at h1 hp
   cases b with
   | unused=>cases h1
   | dead=>cases h1
   | live b =>
    cases b with
    | row e s l=>simp [rnB,vS] at hp;exact hp
    | map a k l=>simp [rnB,vS] at hp;exact hp
    | var t cs =>
     simp only [okB,Bool.and_eq_true,List.all_eq_true] at h1
     obtain ⟨h2,h3,h4⟩:=h1
     simp only [rnB,vS,List.mem_append,List.mem_cons,List.not_mem_nil,or_false] at hp
     rcases hp with (h | h) | hp | hp
     ·rw [h];trivial
     ·rw [h];exact zG9 h2
     ·rw [zBA fun c hc=>(zA0 (h4 c hc)).2] at hp;cases hp
     ·rw [zCD fun c hc=>(zA0 (h4 c hc)).1,zBK h3] at hp
      exact zGW _ p hp
  | a i b=>exact hv p (List.mem_append_right _ (List.mem_flatMap.2 ⟨_,hb,hp⟩))
theorem zIy {np:Nat} {st:AS} (ρ ids:List Nat) (sps:List Sp) (bps:List Bp) {vcs:List Prop} {sl2:List (Nat×AV)} {bx2:List (Nat×zP)} (h:wkm np st ρ ids sps bps=some (vcs,sl2,bx2)) (hv:qQ vcs) :
  Sub np st (mk sl2 bx2 ρ.length):=by
 obtain ⟨vcs',h1,h2⟩:=zLi h hv
 exact zMr ρ ids sl2 bx2 h1 h2
theorem an:qQ []:=trivial
theorem ac {p:Prop} {r:List Prop} (h:p) (t:qQ r):qQ (p::r):=⟨h,t⟩
end Go.Ab

/- The rules once more, in the shortest words: what the kernel computes is left to it. -/
namespace Go.Ab
open Go
abbrev Ii (x:Int):AV:=.int .i64 x
abbrev Iu (x:Int):AV:=.int .u8 x
abbrev Vb (n:Nat) (l:List AV):zP:=.live (.var n l)
abbrev Rb (n k:Nat) (l:List AV):zP:=.live (.row n k l)
abbrev Hg:yJ:={ g:=false }
abbrev Ht:yJ:={ b:=true }
abbrev Hf:yJ:={ b:=false }
abbrev Pp (i:Nat):AV:=.ptr i 0 0 0
abbrev Mb (l:List Int):List AV:=List.map (AV.int .u8) l
abbrev Mi (l:List Int):List AV:=List.map (AV.int .i64) l
abbrev Ms (l:List (List Int)):List AV:=List.map AV.str l
abbrev Mp {α:Type} (f:α→AV) (l:List α):List AV:=List.map f l
abbrev lN {α:Type} (l:List α):Int:=((l.length:Nat):Int)
theorem bft (b:Bool):b=true∨b=false:=Bool.eq_false_or_eq_true b
variable {P:Program} {N np:Nat} {K:Exit→AS→Prop} {c:Code} {st:AS}
theorem sq (h:AW P N np (Code.l c) (zJs P N np (Code.r c) K) st) (hc:c=.seq (Code.l c) (Code.r c):=by kernel_rfl):AW P N np c K st:=zKq hc h
theorem rt (h:K .ret st) (hc:c=.ret:=by kernel_rfl):AW P N np c K st:=zMD hc h
theorem sk (h:K .normal st) (hc:c=.skip:=by kernel_rfl):AW P N np c K st:=zMh hc h
theorem rg {sl:List (Nat×AV)} {bx:List (Nat×zP)} {n:Nat} (hs:List (Nat×yJ)) (live bl:List Nat) (n':Nat) {vcs:List Prop} (vals:List AV) (bxs:List zP) (hm:P.follows .mixedOrders=true) (hv:qQ vcs)
  (hk:K .normal (mk (live.zip vals) (bl.zip bxs) n')) (h:zEp P N np c hs sl bx n live bl n'=some (vcs,vals,bxs):=by kernel_rfl):AW P N np c K (mk sl bx n):=zFF hs live bl n' h hm hv hk
theorem sr {sl:List (Nat×AV)} {bx:List (Nat×zP)} {n:Nat} (hs:List (Nat×yJ)) (live bl:List Nat) (n':Nat) {vcs:List Prop} (vals:List AV) (bxs:List zP) (hm:P.follows .mixedOrders=true) (hv:qQ vcs)
  (hk:zJs P N np (Code.r c) K .normal (mk (live.zip vals) (bl.zip bxs) n')) (h:zEp P N np (Code.l c) hs sl bx n live bl n'=some (vcs,vals,bxs):=by kernel_rfl) (hc:c=.seq (Code.l c) (Code.r c):=by kernel_rfl):AW P N np c K (mk sl bx n) :=
 zKq hc (zFF hs live bl n' h hm hv hk)
theorem sw (ρ ids:List Nat) (sps:List Sp) (bps:List Bp) {vcs:List Prop} {sl2:List (Nat×AV)} {bx2:List (Nat×zP)} (hv:qQ vcs) (h:wkm np st ρ ids sps bps=some (vcs,sl2,bx2):=by kernel_rfl):Sub np st (mk sl2 bx2 ρ.length):=zIy ρ ids sps bps h hv
theorem wk (ρ ids:List Nat) (sps:List Sp) (bps:List Bp) {vcs:List Prop} (sl2:List (Nat×AV)) (bx2:List (Nat×zP)) (hv:qQ vcs) (k:AW P N np c K (mk sl2 bx2 ρ.length)) (h:wkm np st ρ ids sps bps=some (vcs,sl2,bx2):=by kernel_rfl):AW P N np c K st:=zJT (zIy ρ ids sps bps h hv) k
theorem cd (t:Nat) (b:Bool) (h1:b=true→AW P N np (Code.t c) K st) (h2:b=false→AW P N np (Code.e c) K st) (hc:c=.cond (.tmp t) (Code.t c) (Code.e c):=by kernel_rfl) (hs:st.slot t=.bool b:=by kernel_rfl):AW P N np c K st:=zLO hc hs h1 h2
theorem ar {α:Type} (x:α) {r:List Prop} (t:qQ r):qQ ((x=x)::r):=⟨rfl,t⟩
theorem ax {r:List Prop} (t:qQ r):qQ ((true=!false)::r):=⟨rfl,t⟩
end Go.Ab
