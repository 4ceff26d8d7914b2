/- A layer over the model: abstract values and states, and the rules by which the printed proofs go. No conditions. -/
import Derived.Test.YtdpgdpjoemdkjaaA35
/- A state seen otherwise, most of it as it was. -/
namespace Go.Ab
open Go
def zDD:List Nat→Nat→Nat
 | [],_=>0
 | x::r,i=>bif Nat.beq x i then 0 else zDD r i+1
def inN (l:List Nat) (i:Nat):Bool:=l.any (Nat.beq i)
theorem zB3 {l:List Nat} {i:Nat} (h:inN l i=true):l.getD (zDD l i) 0=i:=by
 induction l with
 | nil=>simp [inN] at h
 | cons x r ih =>
  simp only [zDD]
  cases hx:Nat.beq x i
  ·simp only [cond_false]
   have:inN r i=true:=by
    simp only [inN,List.any_cons,Bool.or_eq_true] at h ⊢
    rcases h with h | h
    ·rw [yM.1 h] at hx;simp at hx
    ·exact h
   have:=ih this
   simpa [List.getD] using this
  ·have:=yM.1 hx
   simp [List.getD,this]
mutual
def rn (ρ:List Nat):AV→AV
 | .agg cs=>.agg (rns ρ cs)
 | .tuple cs=>.tuple (rns ρ cs)
 | .ptr id sz i off=>.ptr (zDD ρ id) sz i off
 | .own id n=>.own (zDD ρ id) n
 | .part id sz lo hi=>.part (zDD ρ id) sz lo hi
 | .fn f cs=>.fn f (rns ρ cs)
 | .mp id=>.mp (zDD ρ id)
 | .junk=>.junk
 | .int k n=>.int k n
 | .bool b=>.bool b
 | .str l=>.str l
 | .sl f s l=>.sl f s l
 | .ref a=>.ref a
 | .nilp=>.nilp
 | .nilsl=>.nilsl
 | .nb l=>.nb l
 | .raw b=>.raw b
def rns (ρ:List Nat):List AV→List AV
 | []=>[]
 | a::r=>rn ρ a::rns ρ r
end
mutual
def ins (ρ:List Nat):AV→Bool
 | .agg cs=>zDv ρ cs
 | .tuple cs=>zDv ρ cs
 | .ptr id ..=>inN ρ id
 | .own id _=>inN ρ id
 | .part id ..=>inN ρ id
 | .fn _ cs=>zDv ρ cs
 | .mp id=>inN ρ id
 | .junk=>true
 | .int ..=>true
 | .bool _=>true
 | .str _=>true
 | .sl ..=>true
 | .ref _=>true
 | .nilp=>true
 | .nilsl=>true
 | .nb _=>true
 | .raw _=>true
def zDv (ρ:List Nat):List AV→Bool
 | []=>true
 | a::r=>ins ρ a&&zDv ρ r
end
mutual
theorem zLz {ρ:List Nat}:∀ {a:AV},ins ρ a=true→un ρ (rn ρ a)=a
 | .agg cs,h=>by simp only [rn,un];rw [zBO (cs:=cs) (by simpa [ins] using h)]
 | .tuple cs,h=>by simp only [rn,un];rw [zBO (cs:=cs) (by simpa [ins] using h)]
 | .ptr id ..,h=>by simp only [rn,un];rw [zB3 (by simpa [ins] using h)]
 | .own id _,h=>by simp only [rn,un];rw [zB3 (by simpa [ins] using h)]
 | .part id ..,h=>by simp only [rn,un];rw [zB3 (by simpa [ins] using h)]
 | .fn _ cs,h=>by simp only [rn,un];rw [zBO (cs:=cs) (by simpa [ins] using h)]
 | .mp id,h=>by simp only [rn,un];rw [zB3 (by simpa [ins] using h)]
 | .junk,_=>rfl
 | .int ..,_=>rfl
 | .bool _,_=>rfl
 | .str _,_=>rfl
 | .sl ..,_=>rfl
 | .ref _,_=>rfl
 | .nilp,_=>rfl
 | .nilsl,_=>rfl
 | .nb _,_=>rfl
 | .raw _,_=>rfl
theorem zBO {ρ:List Nat}:∀ {cs:List AV},zDv ρ cs=true→uns ρ (rns ρ cs)=cs
 | [],_=>rfl
 | a::r,h=>by
  simp only [zDv,Bool.and_eq_true] at h
  simp only [rns,uns]
  rw [zLz h.1,zBO h.2]
end
theorem zGR (x:AV):∀ p∈lo1 x x,p:=by
 intro p hp
 cases x with
 | sl f s l =>
  have hp:p=(s=s)∨p=(l=l)∨p=((!f||f)=true):=by simpa only [lo1,List.mem_cons,List.not_mem_nil,or_false] using (show p∈[s=s,l=l,(!f||f)=true] from hp)
  rcases hp with h | h | h
  ·rw [h]
  ·rw [h]
  ·rw [h];cases f<;>rfl
 | junk=>cases hp
 | _=>simp [lo1] at hp;exact hp
theorem zHo:∀ (xs:List AV),∀ p∈los xs xs,p:=by
 intro xs
 induction xs with
 | nil=>intro p hp;cases hp
 | cons x r ih =>
  intro p hp
  simp only [los,List.mem_append] at hp
  rcases hp with hp | hp
  ·exact zGR x p hp
  ·exact ih p hp
theorem zGp (x:AV):∀ p∈loA x x,p:=by
 intro p hp
 cases x with
 | agg cs=>exact zHo cs p hp
 | _=>simp only [loA] at hp;exact zGR _ p hp
theorem zJA:∀ (xs:List AV),∀ p∈zCg xs xs,p:=by
 intro xs
 induction xs with
 | nil=>intro p hp;cases hp
 | cons x r ih =>
  intro p hp
  simp only [zCg,List.mem_append] at hp
  rcases hp with hp | hp
  ·exact zGp x p hp
  ·exact ih p hp
theorem zLb (x:AV):∀ p∈loT x x,p:=by
 intro p hp
 cases x with
 | tuple cs=>exact zJA cs p hp
 | _=>simp only [loT] at hp;exact zGp _ p hp
def zFn (ids:List Nat):AV→Bool
 | .own id _=>!(ids.any (Nat.beq id))
 | .part id ..=>!(ids.any (Nat.beq id))
 | _=>true
def zGz (ids:List Nat):AV→Bool
 | .agg cs=>cs.all (zFn ids)
 | v=>zFn ids v
def zIX (ids:List Nat):AV→Bool
 | .tuple vs=>vs.all (zGz ids)
 | v=>zGz ids v
theorem zA2 {B:Nat→zP} {ids:List Nat} {x:AV} (h:zFn ids x=true):zAx B ids x=x∧k8 B ids x=[]:=by
 cases x with
 | own id n=>simp only [zFn,Bool.not_eq_true'] at h;simp [zAx,k8,h]
 | part id sz lo hi=>simp only [zFn,Bool.not_eq_true'] at h;simp [zAx,k8,h]
 | _=>exact ⟨rfl,rfl⟩
theorem zCw {α:Type} {f:α→α} {l:List α} (h:∀ x∈l,f x=x):l.map f=l:=by
 induction l with
 | nil=>rfl
 | cons a r ih=>rw [List.map_cons,h a (by simp),ih fun x hx=>h x (by simp [hx])]
theorem zBx {α β:Type} {f:α→List β} {l:List α} (h:∀ x∈l,f x=[]):l.flatMap f=[]:=by
 induction l with
 | nil=>rfl
 | cons a r ih=>rw [List.flatMap_cons,h a (by simp),ih fun x hx=>h x (by simp [hx])];rfl
theorem zDN {B:Nat→zP} {ids:List Nat} {x:AV} (h:zGz ids x=true):zBa B ids x=x∧zAW B ids x=[]:=by
 cases x with
 | agg cs =>
  simp only [zGz,List.all_eq_true] at h
  exact ⟨by simp only [zBa];rw [zCw fun c hc=>(zA2 (h c hc)).1],zBx fun c hc=>(zA2 (h c hc)).2⟩
 | _=>simp only [zGz] at h;exact zA2 (B:=B) h
theorem zL6 {B:Nat→zP} {ids:List Nat} {x:AV} (h:zIX ids x=true):frz B ids x=x∧zAg B ids x=[]:=by
 cases x with
 | tuple vs =>
  simp only [zIX,List.all_eq_true] at h
  exact ⟨by simp only [frz];rw [zCw fun c hc=>(zDN (h c hc)).1],zBx fun c hc=>(zDN (h c hc)).2⟩
 | _=>simp only [zIX] at h;exact zDN (B:=B) h
inductive Sp where
 | s (t:Nat)
 | a (t:Nat) (v:AV)
inductive Bp where
 | s (i:Nat)
 | a (i:Nat) (b:zP)
def zKL (st:AS) (ρ:List Nat):Sp→Nat×AV
 | .s t=>(t,rn ρ (st.slot t))
 | .a t v=>(t,v)
def zMb (st:AS) (ρ ids:List Nat):Sp→Bool
 | .s t=>ins ρ (st.slot t)&&zIX ids (st.slot t)
 | .a _ _=>true
def zME (st:AS) (ρ ids:List Nat):Sp→List Prop
 | .s _=>[]
 | .a t v=>zAg st.box ids (st.slot t)++loT (frz st.box ids (st.slot t)) (un ρ v)
def rnB (ρ:List Nat):zP→zP
 | .live (.var t cs)=>.live (.var t (rns ρ cs))
 | b=>b
def okB (ρ ids:List Nat):zP→Bool
 | .live (.var _ cs)=>xH cs&&(zDv ρ cs&&cs.all (zFn ids))
 | .live _=>true
 | _=>false
def zLi (st:AS) (ρ:List Nat):Bp→Nat×zP
 | .s i=>(i,rnB ρ (st.box (ρ.getD i 0)))
 | .a i b=>(i,b)
def zL9 (st:AS) (ρ ids:List Nat):Bp→Bool
 | .s i=>okB ρ ids (st.box (ρ.getD i 0))
 | .a _ _=>true
def zMG (st:AS) (ρ ids:List Nat):Bp→List Prop
 | .s _=>[]
 | .a i b=>w8 st.box ids ρ (st.box (ρ.getD i 0)) b
def zMc (np:Nat) (st:AS) (ρ ids:List Nat) (sl2:List (Nat×AV)) (bx2:List (Nat×zP)):Bool :=
 ((vE ρ&&nK (ρ.take np) (List.range np))&&(ids.all fun i=>nT (st.box i)&&Nat.ble np i)) &&
   ((sl2.all fun x=>(wP ρ.length x.2&&zBm x.2)&&zB0 (frz st.box ids (st.slot x.1))) &&
    (bx2.all fun x=>(Nat.blt x.1 ρ.length&&zFk ρ.length x.2)&&(match x.2 with | .live (.row ..)=>!(ids.any (Nat.beq (ρ.getD x.1 0))) | .unused=>false | _=>true)))
def wkm (np:Nat) (st:AS) (ρ ids:List Nat) (sps:List Sp) (bps:List Bp):Option (List Prop×List (Nat×AV)×List (Nat×zP)) :=
 bif zMc np st ρ ids (sps.map (zKL st ρ)) (bps.map (zLi st ρ))&&(sps.all (zMb st ρ ids)&&bps.all (zL9 st ρ ids)) then
  some (sps.flatMap (zME st ρ ids)++bps.flatMap (zMG st ρ ids),sps.map (zKL st ρ),bps.map (zLi st ρ))
 else none
theorem zGl {ρ:List Nat}:∀ {cs:List AV},xH cs=true→xH (rns ρ cs)=true
 | [],_=>rfl
 | a::r,h=>by
  simp only [xH,Bool.and_eq_true] at h
  simp only [rns,xH,Bool.and_eq_true]
  refine ⟨?_,zGl h.2⟩
  have h1:=h.1
  cases a<;>first | exact h1 | rfl
theorem zLn (np:Nat) (st:AS) (ρ ids:List Nat) (sl2:List (Nat×AV)) (bx2:List (Nat×zP)) :
  zEt np st ρ ids sl2 bx2=bif zMc np st ρ ids sl2 bx2 then some (sl2.flatMap (fun x=>zAg st.box ids (st.slot x.1)++loT (frz st.box ids (st.slot x.1)) (un ρ x.2)) ++
   bx2.flatMap (fun x=>w8 st.box ids ρ (st.box (ρ.getD x.1 0)) x.2)) else none:=rfl
theorem zK5 {np:Nat} {st:AS} {ρ ids:List Nat} {sps:List Sp} {bps:List Bp} {vcs:List Prop} {sl2:List (Nat×AV)} {bx2:List (Nat×zP)} (h:wkm np st ρ ids sps bps=some (vcs,sl2,bx2)) (hv:t9 vcs) :
  ∃ vcs',zEt np st ρ ids sl2 bx2=some vcs'∧t9 vcs':=by
 unfold wkm at h
 replace h:=zU h;obtain ⟨hc,h⟩:=h
 simp only [Bool.and_eq_true,List.all_eq_true] at hc
 obtain ⟨hok,hsp,hbp⟩:=hc
 simp only [Option.some.injEq,Prod.mk.injEq] at h
 obtain ⟨rfl,rfl,rfl⟩:=h
 have hv:=zIW hv
 have toAll:∀ {l:List Prop},(∀ p∈l,p)→t9 l:=by
  intro l
  induction l with
  | nil=>intro _;trivial
  | cons a r ih=>intro h;exact ⟨h a (by simp),ih fun p hp=>h p (by simp [hp])⟩
 refine ⟨_,(zLn ..).trans (by rw [hok];rfl),toAll ?_⟩
 intro p hp
 rcases List.mem_append.1 hp with hp | hp
 ·obtain ⟨x,hx,hp⟩:=List.mem_flatMap.1 hp
  obtain ⟨sp,hs,rfl⟩:=List.mem_map.1 hx
  cases sp with
  | s t =>
   have h1:=hsp _ hs
   simp only [zMb,Bool.and_eq_true] at h1
   have h2:=zL6 (B:=st.box) h1.2
   simp only [zKL,h2.1,h2.2,List.nil_append,zLz h1.1] at hp
   exact zLb _ p hp
  | a t v=>exact hv p (List.mem_append_left _ (List.mem_flatMap.2 ⟨_,hs,hp⟩))
 ·obtain ⟨x,hx,hp⟩:=List.mem_flatMap.1 hp
  obtain ⟨bp,hb,rfl⟩:=List.mem_map.1 hx
  cases bp with
  | s i =>
   have h1:=hbp _ hb
   simp only [zL9] at h1
   simp only [zLi] at hp
   generalize st.box (ρ.getD i 0)=b at h1 hp
   cases b with
   | unused=>cases h1
   | dead=>cases h1
   | live b =>
    cases b with
    | row e s l=>simp [rnB,w8] at hp;exact hp
    | map a k l=>simp [rnB,w8] at hp;exact hp
    | var t cs =>
     simp only [okB,Bool.and_eq_true,List.all_eq_true] at h1
     obtain ⟨h2,h3,h4⟩:=h1
     simp only [rnB,w8,List.mem_append,List.mem_cons,List.not_mem_nil,or_false] at hp
     rcases hp with (h | h) | hp | hp
     ·rw [h];trivial
     ·rw [h];exact zGl h2
     ·rw [zBx fun c hc=>(zA2 (h4 c hc)).2] at hp;cases hp
     ·rw [zCw fun c hc=>(zA2 (h4 c hc)).1,zBO h3] at hp
      exact zHo _ p hp
  | a i b=>exact hv p (List.mem_append_right _ (List.mem_flatMap.2 ⟨_,hb,hp⟩))
theorem zIC {np:Nat} {st:AS} (ρ ids:List Nat) (sps:List Sp) (bps:List Bp) {vcs:List Prop} {sl2:List (Nat×AV)} {bx2:List (Nat×zP)} (h:wkm np st ρ ids sps bps=some (vcs,sl2,bx2)) (hv:t9 vcs) :
  Sub np st (mk sl2 bx2 ρ.length):=by
 obtain ⟨vcs',h1,h2⟩:=zK5 h hv
 exact zMj ρ ids sl2 bx2 h1 h2
theorem an:t9 []:=trivial
theorem ac {p:Prop} {r:List Prop} (h:p) (t:t9 r):t9 (p::r):=⟨h,t⟩
end Go.Ab

/- The rules once more, in the shortest words: what the kernel computes is left to it. -/
namespace Go.Ab
open Go
abbrev Ii (x:Int):AV:=.int .i64 x
abbrev Iu (x:Int):AV:=.int .u8 x
abbrev Vb (n:Nat) (l:List AV):zP:=.live (.var n l)
abbrev Rb (n k:Nat) (l:List AV):zP:=.live (.row n k l)
abbrev Hg:yJ:={ g:=false }
abbrev Ht:yJ:={ b:=true }
abbrev Hf:yJ:={ b:=false }
abbrev Pp (i:Nat):AV:=.ptr i 0 0 0
abbrev Mb (l:List Int):List AV:=List.map (AV.int .u8) l
abbrev Mi (l:List Int):List AV:=List.map (AV.int .i64) l
abbrev Ms (l:List (List Int)):List AV:=List.map AV.str l
abbrev Mp {α:Type} (f:α→AV) (l:List α):List AV:=List.map f l
abbrev lN {α:Type} (l:List α):Int:=((l.length:Nat):Int)
theorem bft (b:Bool):b=true∨b=false:=Bool.eq_false_or_eq_true b
variable {P:Program} {N np:Nat} {K:Exit→AS→Prop} {c:Code} {st:AS}
theorem sq (h:AW P N np (Code.l c) (zJf P N np (Code.r c) K) st) (hc:c=.seq (Code.l c) (Code.r c):=by kernel_rfl):AW P N np c K st:=zKs hc h
theorem rt (h:K .ret st) (hc:c=.ret:=by kernel_rfl):AW P N np c K st:=zMi hc h
theorem sk (h:K .normal st) (hc:c=.skip:=by kernel_rfl):AW P N np c K st:=zLN hc h
theorem rg {sl:List (Nat×AV)} {bx:List (Nat×zP)} {n:Nat} (hs:List (Nat×yJ)) (live bl:List Nat) (n':Nat) {vcs:List Prop} (vals:List AV) (bxs:List zP) (hm:P.follows .mixedOrders=true) (hv:t9 vcs)
  (hk:K .normal (mk (live.zip vals) (bl.zip bxs) n')) (h:zD5 P N np c hs sl bx n live bl n'=some (vcs,vals,bxs):=by kernel_rfl):AW P N np c K (mk sl bx n):=zFM hs live bl n' h hm hv hk
theorem sr {sl:List (Nat×AV)} {bx:List (Nat×zP)} {n:Nat} (hs:List (Nat×yJ)) (live bl:List Nat) (n':Nat) {vcs:List Prop} (vals:List AV) (bxs:List zP) (hm:P.follows .mixedOrders=true) (hv:t9 vcs)
  (hk:zJf P N np (Code.r c) K .normal (mk (live.zip vals) (bl.zip bxs) n')) (h:zD5 P N np (Code.l c) hs sl bx n live bl n'=some (vcs,vals,bxs):=by kernel_rfl) (hc:c=.seq (Code.l c) (Code.r c):=by kernel_rfl):AW P N np c K (mk sl bx n) :=
 zKs hc (zFM hs live bl n' h hm hv hk)
theorem sw (ρ ids:List Nat) (sps:List Sp) (bps:List Bp) {vcs:List Prop} {sl2:List (Nat×AV)} {bx2:List (Nat×zP)} (hv:t9 vcs) (h:wkm np st ρ ids sps bps=some (vcs,sl2,bx2):=by kernel_rfl):Sub np st (mk sl2 bx2 ρ.length):=zIC ρ ids sps bps h hv
theorem wk (ρ ids:List Nat) (sps:List Sp) (bps:List Bp) {vcs:List Prop} (sl2:List (Nat×AV)) (bx2:List (Nat×zP)) (hv:t9 vcs) (k:AW P N np c K (mk sl2 bx2 ρ.length)) (h:wkm np st ρ ids sps bps=some (vcs,sl2,bx2):=by kernel_rfl):AW P N np c K st:=zJO (zIC ρ ids sps bps h hv) k
theorem cd (t:Nat) (b:Bool) (h1:b=true→AW P N np (Code.t c) K st) (h2:b=false→AW P N np (Code.e c) K st) (hc:c=.cond (.tmp t) (Code.t c) (Code.e c):=by kernel_rfl) (hs:st.slot t=.bool b:=by kernel_rfl):AW P N np c K st:=zLK hc hs h1 h2
theorem ar {α:Type} (x:α) {r:List Prop} (t:t9 r):t9 ((x=x)::r):=⟨rfl,t⟩
theorem ax {r:List Prop} (t:t9 r):t9 ((true=!false)::r):=⟨rfl,t⟩
end Go.Ab
