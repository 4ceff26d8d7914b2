/- A layer over the model: abstract values and states, and the rules by which the printed proofs go. No conditions. -/
import Derived.Test.YtdpgdpjoemdkjaaA35
/- A state seen otherwise, most of it as it was. -/
namespace Go.Ab
open Go
def zFi:List Nat→Nat→Nat
 | [],_=>0
 | x::r,i=>bif Nat.beq x i then 0 else zFi r i+1
def inN (l:List Nat) (i:Nat):Bool:=l.any (Nat.beq i)
theorem zDH {l:List Nat} {i:Nat} (h:inN l i=true):l.getD (zFi l i) 0=i:=by
 induction l with
 | nil=>simp [inN] at h
 | cons x r ih =>
  simp only [zFi]
  cases hx:Nat.beq x i
  ·simp only [cond_false]
   have:inN r i=true:=by
    simp only [inN,List.any_cons,Bool.or_eq_true] at h ⊢
    rcases h with h | h
    ·rw [xE.1 h] at hx;simp at hx
    ·exact h
   have:=ih this
   simpa [List.getD] using this
  ·have:=xE.1 hx
   simp [List.getD,this]
mutual
def rn (ρ:List Nat):AV→AV
 | .agg cs=>.agg (rns ρ cs)
 | .tuple cs=>.tuple (rns ρ cs)
 | .ptr id sz i off=>.ptr (zFi ρ id) sz i off
 | .own id n=>.own (zFi ρ id) n
 | .part id sz lo hi=>.part (zFi ρ id) sz lo hi
 | .fn f cs=>.fn f (rns ρ cs)
 | .mp id=>.mp (zFi ρ id)
 | .junk=>.junk
 | .int k n=>.int k n
 | .bool b=>.bool b
 | .str l=>.str l
 | .sl f s l=>.sl f s l
 | .ref a=>.ref a
 | .nilp=>.nilp
 | .nilsl=>.nilsl
 | .nb l=>.nb l
 | .raw b=>.raw b
def rns (ρ:List Nat):List AV→List AV
 | []=>[]
 | a::r=>rn ρ a::rns ρ r
end
mutual
def ins (ρ:List Nat):AV→Bool
 | .agg cs=>zFD ρ cs
 | .tuple cs=>zFD ρ cs
 | .ptr id ..=>inN ρ id
 | .own id _=>inN ρ id
 | .part id ..=>inN ρ id
 | .fn _ cs=>zFD ρ cs
 | .mp id=>inN ρ id
 | .junk=>true
 | .int ..=>true
 | .bool _=>true
 | .str _=>true
 | .sl ..=>true
 | .ref _=>true
 | .nilp=>true
 | .nilsl=>true
 | .nb _=>true
 | .raw _=>true
def zFD (ρ:List Nat):List AV→Bool
 | []=>true
 | a::r=>ins ρ a&&zFD ρ r
end
mutual
theorem zNs {ρ:List Nat}:∀ {a:AV},ins ρ a=true→un ρ (rn ρ a)=a
 | .agg cs,h=>by simp only [rn,un];rw [zDr (cs:=cs) (by simpa [ins] using h)]
 | .tuple cs,h=>by simp only [rn,un];rw [zDr (cs:=cs) (by simpa [ins] using h)]
 | .ptr id ..,h=>by simp only [rn,un];rw [zDH (by simpa [ins] using h)]
 | .own id _,h=>by simp only [rn,un];rw [zDH (by simpa [ins] using h)]
 | .part id ..,h=>by simp only [rn,un];rw [zDH (by simpa [ins] using h)]
 | .fn _ cs,h=>by simp only [rn,un];rw [zDr (cs:=cs) (by simpa [ins] using h)]
 | .mp id,h=>by simp only [rn,un];rw [zDH (by simpa [ins] using h)]
 | .junk,_=>rfl
 | .int ..,_=>rfl
 | .bool _,_=>rfl
 | .str _,_=>rfl
 | .sl ..,_=>rfl
 | .ref _,_=>rfl
 | .nilp,_=>rfl
 | .nilsl,_=>rfl
 | .nb _,_=>rfl
 | .raw _,_=>rfl
theorem zDr {ρ:List Nat}:∀ {cs:List AV},zFD ρ cs=true→uns ρ (rns ρ cs)=cs
 | [],_=>rfl
 | a::r,h=>by
  simp only [zFD,Bool.and_eq_true] at h
  simp only [rns,uns]
  rw [zNs h.1,zDr h.2]
end
theorem zJa (x:AV):∀ p∈lo1 x x,p:=by
 intro p hp
 cases x with
 | sl f s l =>
  have hp:p=(s=s)∨p=(l=l)∨p=((!f||f)=true):=by simpa only [lo1,List.mem_cons,List.not_mem_nil,or_false] using (show p∈[s=s,l=l,(!f||f)=true] from hp)
  rcases hp with h | h | h
  ·rw [h]
  ·rw [h]
  ·rw [h];cases f<;>rfl
 | junk=>cases hp
 | _=>simp [lo1] at hp;exact hp
theorem zIF:∀ (xs:List AV),∀ p∈los xs xs,p:=by
 intro xs
 induction xs with
 | nil=>intro p hp;cases hp
 | cons x r ih =>
  intro p hp
  simp only [los,List.mem_append] at hp
  rcases hp with hp | hp
  ·exact zJa x p hp
  ·exact ih p hp
theorem zIn (x:AV):∀ p∈loA x x,p:=by
 intro p hp
 cases x with
 | agg cs=>exact zIF cs p hp
 | _=>simp only [loA] at hp;exact zJa _ p hp
theorem zMk:∀ (xs:List AV),∀ p∈zDA xs xs,p:=by
 intro xs
 induction xs with
 | nil=>intro p hp;cases hp
 | cons x r ih =>
  intro p hp
  simp only [zDA,List.mem_append] at hp
  rcases hp with hp | hp
  ·exact zIn x p hp
  ·exact ih p hp
theorem zMS (x:AV):∀ p∈loT x x,p:=by
 intro p hp
 cases x with
 | tuple cs=>exact zMk cs p hp
 | _=>simp only [loT] at hp;exact zIn _ p hp
def zGP (ids:List Nat):AV→Bool
 | .own id _=>!(ids.any (Nat.beq id))
 | .part id ..=>!(ids.any (Nat.beq id))
 | _=>true
def zIv (ids:List Nat):AV→Bool
 | .agg cs=>cs.all (zGP ids)
 | v=>zGP ids v
def zK9 (ids:List Nat):AV→Bool
 | .tuple vs=>vs.all (zIv ids)
 | v=>zIv ids v
theorem zCM {B:Nat→zU} {ids:List Nat} {x:AV} (h:zGP ids x=true):zB8 B ids x=x∧zAC B ids x=[]:=by
 cases x with
 | own id n=>simp only [zGP,Bool.not_eq_true'] at h;simp [zB8,zAC,h]
 | part id sz lo hi=>simp only [zGP,Bool.not_eq_true'] at h;simp [zB8,zAC,h]
 | _=>exact ⟨rfl,rfl⟩
theorem zEc {α:Type} {f:α→α} {l:List α} (h:∀ x∈l,f x=x):l.map f=l:=by
 induction l with
 | nil=>rfl
 | cons a r ih=>rw [List.map_cons,h a (by simp),ih fun x hx=>h x (by simp [hx])]
theorem zC2 {α β:Type} {f:α→List β} {l:List α} (h:∀ x∈l,f x=[]):l.flatMap f=[]:=by
 induction l with
 | nil=>rfl
 | cons a r ih=>rw [List.flatMap_cons,h a (by simp),ih fun x hx=>h x (by simp [hx])];rfl
theorem zFz {B:Nat→zU} {ids:List Nat} {x:AV} (h:zIv ids x=true):zCy B ids x=x∧zCP B ids x=[]:=by
 cases x with
 | agg cs =>
  simp only [zIv,List.all_eq_true] at h
  exact ⟨by simp only [zCy];rw [zEc fun c hc=>(zCM (h c hc)).1],zC2 fun c hc=>(zCM (h c hc)).2⟩
 | _=>simp only [zIv] at h;exact zCM (B:=B) h
theorem zNX {B:Nat→zU} {ids:List Nat} {x:AV} (h:zK9 ids x=true):frz B ids x=x∧zBO B ids x=[]:=by
 cases x with
 | tuple vs =>
  simp only [zK9,List.all_eq_true] at h
  exact ⟨by simp only [frz];rw [zEc fun c hc=>(zFz (h c hc)).1],zC2 fun c hc=>(zFz (h c hc)).2⟩
 | _=>simp only [zK9] at h;exact zFz (B:=B) h
inductive Sp where
 | s (t:Nat)
 | a (t:Nat) (v:AV)
inductive Bp where
 | s (i:Nat)
 | a (i:Nat) (b:zU)
def zMY (st:AS) (ρ:List Nat):Sp→Nat×AV
 | .s t=>(t,rn ρ (st.slot t))
 | .a t v=>(t,v)
def zN8 (st:AS) (ρ ids:List Nat):Sp→Bool
 | .s t=>ins ρ (st.slot t)&&zK9 ids (st.slot t)
 | .a _ _=>true
def zOA (st:AS) (ρ ids:List Nat):Sp→List Prop
 | .s _=>[]
 | .a t v=>zBO st.box ids (st.slot t)++loT (frz st.box ids (st.slot t)) (un ρ v)
def rnB (ρ:List Nat):zU→zU
 | .live (.var t cs)=>.live (.var t (rns ρ cs))
 | b=>b
def okB (ρ ids:List Nat):zU→Bool
 | .live (.var _ cs)=>vI cs&&(zFD ρ cs&&cs.all (zGP ids))
 | .live _=>true
 | _=>false
def zMO (st:AS) (ρ:List Nat):Bp→Nat×zU
 | .s i=>(i,rnB ρ (st.box (ρ.getD i 0)))
 | .a i b=>(i,b)
def zN2 (st:AS) (ρ ids:List Nat):Bp→Bool
 | .s i=>okB ρ ids (st.box (ρ.getD i 0))
 | .a _ _=>true
def zOB (st:AS) (ρ ids:List Nat):Bp→List Prop
 | .s _=>[]
 | .a i b=>u9 st.box ids ρ (st.box (ρ.getD i 0)) b
def zOn (np:Nat) (st:AS) (ρ ids:List Nat) (sl2:List (Nat×AV)) (bx2:List (Nat×zU)):Bool :=
 ((tH ρ&&zBn (ρ.take np) (List.range np))&&(ids.all fun i=>zBz (st.box i)&&Nat.ble np i)) &&
   ((sl2.all fun x=>(uI ρ.length x.2&&zCV x.2)&&zDR (frz st.box ids (st.slot x.1))) &&
    (bx2.all fun x=>(Nat.blt x.1 ρ.length&&zG5 ρ.length x.2)&&(match x.2 with | .live (.row ..)=>!(ids.any (Nat.beq (ρ.getD x.1 0))) | .unused=>false | _=>true)))
def wkm (np:Nat) (st:AS) (ρ ids:List Nat) (sps:List Sp) (bps:List Bp):Option (List Prop×List (Nat×AV)×List (Nat×zU)) :=
 bif zOn np st ρ ids (sps.map (zMY st ρ)) (bps.map (zMO st ρ))&&(sps.all (zN8 st ρ ids)&&bps.all (zN2 st ρ ids)) then
  some (sps.flatMap (zOA st ρ ids)++bps.flatMap (zOB st ρ ids),sps.map (zMY st ρ),bps.map (zMO st ρ))
 else none
theorem zIt {ρ:List Nat}:∀ {cs:List AV},vI cs=true→vI (rns ρ cs)=true
 | [],_=>rfl
 | a::r,h=>by
  simp only [vI,Bool.and_eq_true] at h
  simp only [rns,vI,Bool.and_eq_true]
  refine ⟨?_,zIt h.2⟩
  have h1:=h.1
  cases a<;>first | exact h1 | rfl
theorem zMD (np:Nat) (st:AS) (ρ ids:List Nat) (sl2:List (Nat×AV)) (bx2:List (Nat×zU)) :
  zGa np st ρ ids sl2 bx2=bif zOn np st ρ ids sl2 bx2 then some (sl2.flatMap (fun x=>zBO st.box ids (st.slot x.1)++loT (frz st.box ids (st.slot x.1)) (un ρ x.2)) ++
   bx2.flatMap (fun x=>u9 st.box ids ρ (st.box (ρ.getD x.1 0)) x.2)) else none:=rfl
theorem zMV {np:Nat} {st:AS} {ρ ids:List Nat} {sps:List Sp} {bps:List Bp} {vcs:List Prop} {sl2:List (Nat×AV)} {bx2:List (Nat×zU)} (h:wkm np st ρ ids sps bps=some (vcs,sl2,bx2)) (hv:kW vcs) :
  ∃ vcs',zGa np st ρ ids sl2 bx2=some vcs'∧kW vcs':=by
 unfold wkm at h
 replace h:=z7 h;obtain ⟨hc,h⟩:=h
 simp only [Bool.and_eq_true,List.all_eq_true] at hc
 obtain ⟨hok,hsp,hbp⟩:=hc
 simp only [Option.some.injEq,Prod.mk.injEq] at h
 obtain ⟨rfl,rfl,rfl⟩:=h
 have hv:=zKB hv
 have toAll:∀ {l:List Prop},(∀ p∈l,p)→kW l:=by
  intro l
  induction l with
  | nil=>intro _;trivial
  | cons a r ih=>intro h;exact ⟨h a (by simp),ih fun p hp=>h p (by simp [hp])⟩
 refine ⟨_,(zMD ..).trans (by rw [hok];rfl),toAll ?_⟩
 intro p hp
 rcases List.mem_append.1 hp with hp | hp
 ·obtain ⟨x,hx,hp⟩:=List.mem_flatMap.1 hp
  obtain ⟨sp,hs,rfl⟩:=List.mem_map.1 hx
  cases sp with
  | s t =>
   have h1:=hsp _ hs
   simp only [zN8,Bool.and_eq_true] at h1
   have h2:=zNX (B:=st.box) h1.2
   simp only [zMY,h2.1,h2.2,List.nil_append,zNs h1.1] at hp
   exact zMS _ p hp
  | a t v=>exact hv p (List.mem_append_left _ (List.mem_flatMap.2 ⟨_,hs,hp⟩))
 ·obtain ⟨x,hx,hp⟩:=List.mem_flatMap.1 hp
  obtain ⟨bp,hb,rfl⟩:=List.mem_map.1 hx
  cases bp with
  | s i =>
   have h1:=hbp _ hb
   simp only [zN2] at h1
   simp only [zMO] at hp
   generalize st.box (ρ.getD i 0)=b at h1 hp
   cases b with
   | unused=>cases h1
   | dead=>cases h1
   | live b =>
    cases b with
    | row e s l=>simp [rnB,u9] at hp;exact hp
    | map a k l=>simp [rnB,u9] at hp;exact hp
    | var t cs =>
     simp only [okB,Bool.and_eq_true,List.all_eq_true] at h1
     obtain ⟨h2,h3,h4⟩:=h1
     simp only [rnB,u9,List.mem_append,List.mem_cons,List.not_mem_nil,or_false] at hp
     rcases hp with (h | h) | hp | hp
     ·rw [h];trivial
     ·rw [h];exact zIt h2
     ·rw [zC2 fun c hc=>(zCM (h4 c hc)).2] at hp;cases hp
     ·rw [zEc fun c hc=>(zCM (h4 c hc)).1,zDr h3] at hp
      exact zIF _ p hp
  | a i b=>exact hv p (List.mem_append_right _ (List.mem_flatMap.2 ⟨_,hb,hp⟩))
theorem zKr {np:Nat} {st:AS} (ρ ids:List Nat) (sps:List Sp) (bps:List Bp) {vcs:List Prop} {sl2:List (Nat×AV)} {bx2:List (Nat×zU)} (h:wkm np st ρ ids sps bps=some (vcs,sl2,bx2)) (hv:kW vcs) :
  Sub np st (mk sl2 bx2 ρ.length):=by
 obtain ⟨vcs',h1,h2⟩:=zMV h hv
 exact zOa ρ ids sl2 bx2 h1 h2
theorem an:kW []:=trivial
theorem ac {p:Prop} {r:List Prop} (h:p) (t:kW r):kW (p::r):=⟨h,t⟩
end Go.Ab

/- The rules once more, in the shortest words: what the kernel computes is left to it. -/
namespace Go.Ab
open Go
abbrev Ii (x:Int):AV:=.int .i64 x
abbrev Iu (x:Int):AV:=.int .u8 x
abbrev Vb (n:Nat) (l:List AV):zU:=.live (.var n l)
abbrev Rb (n k:Nat) (l:List AV):zU:=.live (.row n k l)
abbrev Hg:xA:={ g:=false }
abbrev Ht:xA:={ b:=true }
abbrev Hf:xA:={ b:=false }
abbrev Pp (i:Nat):AV:=.ptr i 0 0 0
abbrev Mb (l:List Int):List AV:=List.map (AV.int .u8) l
abbrev Mi (l:List Int):List AV:=List.map (AV.int .i64) l
abbrev Ms (l:List (List Int)):List AV:=List.map AV.str l
abbrev Mp {α:Type} (f:α→AV) (l:List α):List AV:=List.map f l
abbrev lN {α:Type} (l:List α):Int:=((l.length:Nat):Int)
theorem bft (b:Bool):b=true∨b=false:=Bool.eq_false_or_eq_true b
variable {P:Program} {N np:Nat} {K:Exit→AS→Prop} {c:Code} {st:AS}
theorem sq (h:AW P N np (Code.l c) (zLp P N np (Code.r c) K) st) (hc:c=.seq (Code.l c) (Code.r c):=by kernel_rfl):AW P N np c K st:=zLL hc h
theorem rt (h:K .ret st) (hc:c=.ret:=by kernel_rfl):AW P N np c K st:=zOh hc h
theorem sk (h:K .normal st) (hc:c=.skip:=by kernel_rfl):AW P N np c K st:=zNN hc h
theorem rg {sl:List (Nat×AV)} {bx:List (Nat×zU)} {n:Nat} (hs:List (Nat×xA)) (live bl:List Nat) (n':Nat) {vcs:List Prop} (vals:List AV) (bxs:List zU) (hm:P.follows .mixedOrders=true) (hv:kW vcs)
  (hk:K .normal (mk (live.zip vals) (bl.zip bxs) n')) (h:zGj P N np c hs sl bx n live bl n'=some (vcs,vals,bxs):=by kernel_rfl):AW P N np c K (mk sl bx n):=zHr hs live bl n' h hm hv hk
theorem sr {sl:List (Nat×AV)} {bx:List (Nat×zU)} {n:Nat} (hs:List (Nat×xA)) (live bl:List Nat) (n':Nat) {vcs:List Prop} (vals:List AV) (bxs:List zU) (hm:P.follows .mixedOrders=true) (hv:kW vcs)
  (hk:zLp P N np (Code.r c) K .normal (mk (live.zip vals) (bl.zip bxs) n')) (h:zGj P N np (Code.l c) hs sl bx n live bl n'=some (vcs,vals,bxs):=by kernel_rfl) (hc:c=.seq (Code.l c) (Code.r c):=by kernel_rfl):AW P N np c K (mk sl bx n) :=
 zLL hc (zHr hs live bl n' h hm hv hk)
theorem sw (ρ ids:List Nat) (sps:List Sp) (bps:List Bp) {vcs:List Prop} {sl2:List (Nat×AV)} {bx2:List (Nat×zU)} (hv:kW vcs) (h:wkm np st ρ ids sps bps=some (vcs,sl2,bx2):=by kernel_rfl):Sub np st (mk sl2 bx2 ρ.length):=zKr ρ ids sps bps h hv
theorem wk (ρ ids:List Nat) (sps:List Sp) (bps:List Bp) {vcs:List Prop} (sl2:List (Nat×AV)) (bx2:List (Nat×zU)) (hv:kW vcs) (k:AW P N np c K (mk sl2 bx2 ρ.length)) (h:wkm np st ρ ids sps bps=some (vcs,sl2,bx2):=by kernel_rfl):AW P N np c K st:=zMg (zKr ρ ids sps bps h hv) k
theorem cd (t:Nat) (b:Bool) (h1:b=true→AW P N np (Code.t c) K st) (h2:b=false→AW P N np (Code.e c) K st) (hc:c=.cond (.tmp t) (Code.t c) (Code.e c):=by kernel_rfl) (hs:st.slot t=.bool b:=by kernel_rfl):AW P N np c K st:=zNH hc hs h1 h2
theorem ar {α:Type} (x:α) {r:List Prop} (t:kW r):kW ((x=x)::r):=⟨rfl,t⟩
theorem ax {r:List Prop} (t:kW r):kW ((true=!false)::r):=⟨rfl,t⟩
end Go.Ab
