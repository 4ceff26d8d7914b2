/- A layer over the model: abstract values and states, and the rules by which the printed proofs go. No conditions. -/
import Derived.Test.YtdpgdpjoemdkjaaA35
/- A state seen otherwise, most of it as it was. -/
namespace Go.Ab
open Go
def zH4:List Nat→Nat→Nat
 | [],_=>0
 | x::r,i=>bif Nat.beq x i then 0 else zH4 r i+1
def inN (l:List Nat) (i:Nat):Bool:=l.any (Nat.beq i)
theorem zFY {l:List Nat} {i:Nat} (h:inN l i=true):l.getD (zH4 l i) 0=i:=by
 induction l with
 | nil=>simp [inN] at h
 | cons x r ih =>
  simp only [zH4]
  cases hx:Nat.beq x i
  ·simp only [cond_false]
   have:inN r i=true:=by
    simp only [inN,List.any_cons,Bool.or_eq_true] at h ⊢
    rcases h with h | h
    ·rw [x6.1 h] at hx;simp at hx
    ·exact h
   have:=ih this
   simpa [List.getD] using this
  ·have:=x6.1 hx
   simp [List.getD,this]
mutual
def rn (ρ:List Nat):AV→AV
 | .agg cs=>.agg (rns ρ cs)
 | .tuple cs=>.tuple (rns ρ cs)
 | .ptr id sz i off=>.ptr (zH4 ρ id) sz i off
 | .own id n=>.own (zH4 ρ id) n
 | .part id sz lo hi=>.part (zH4 ρ id) sz lo hi
 | .fn f cs=>.fn f (rns ρ cs)
 | .mp id=>.mp (zH4 ρ id)
 | .junk=>.junk
 | .int k n=>.int k n
 | .bool b=>.bool b
 | .str l=>.str l
 | .sl f s l=>.sl f s l
 | .ref a=>.ref a
 | .nilp=>.nilp
 | .nilsl=>.nilsl
 | .nb l=>.nb l
 | .raw b=>.raw b
def rns (ρ:List Nat):List AV→List AV
 | []=>[]
 | a::r=>rn ρ a::rns ρ r
end
mutual
def ins (ρ:List Nat):AV→Bool
 | .agg cs=>zIm ρ cs
 | .tuple cs=>zIm ρ cs
 | .ptr id ..=>inN ρ id
 | .own id _=>inN ρ id
 | .part id ..=>inN ρ id
 | .fn _ cs=>zIm ρ cs
 | .mp id=>inN ρ id
 | .junk=>true
 | .int ..=>true
 | .bool _=>true
 | .str _=>true
 | .sl ..=>true
 | .ref _=>true
 | .nilp=>true
 | .nilsl=>true
 | .nb _=>true
 | .raw _=>true
def zIm (ρ:List Nat):List AV→Bool
 | []=>true
 | a::r=>ins ρ a&&zIm ρ r
end
mutual
theorem zQS {ρ:List Nat}:∀ {a:AV},ins ρ a=true→un ρ (rn ρ a)=a
 | .agg cs,h=>by simp only [rn,un];rw [zFw (cs:=cs) (by simpa [ins] using h)]
 | .tuple cs,h=>by simp only [rn,un];rw [zFw (cs:=cs) (by simpa [ins] using h)]
 | .ptr id ..,h=>by simp only [rn,un];rw [zFY (by simpa [ins] using h)]
 | .own id _,h=>by simp only [rn,un];rw [zFY (by simpa [ins] using h)]
 | .part id ..,h=>by simp only [rn,un];rw [zFY (by simpa [ins] using h)]
 | .fn _ cs,h=>by simp only [rn,un];rw [zFw (cs:=cs) (by simpa [ins] using h)]
 | .mp id,h=>by simp only [rn,un];rw [zFY (by simpa [ins] using h)]
 | .junk,_=>rfl
 | .int ..,_=>rfl
 | .bool _,_=>rfl
 | .str _,_=>rfl
 | .sl ..,_=>rfl
 | .ref _,_=>rfl
 | .nilp,_=>rfl
 | .nilsl,_=>rfl
 | .nb _,_=>rfl
 | .raw _,_=>rfl
theorem zFw {ρ:List Nat}:∀ {cs:List AV},zIm ρ cs=true→uns ρ (rns ρ cs)=cs
 | [],_=>rfl
 | a::r,h=>by
  simp only [zIm,Bool.and_eq_true] at h
  simp only [rns,uns]
  rw [zQS h.1,zFw h.2]
end
theorem zMu (x:AV):∀ p∈lo1 x x,p:=by
 intro p hp
 cases x with
 | sl f s l =>
  have hp:p=(s=s)∨p=(l=l)∨p=((!f||f)=true):=by simpa only [lo1,List.mem_cons,List.not_mem_nil,or_false] using (show p∈[s=s,l=l,(!f||f)=true] from hp)
  rcases hp with h | h | h
  ·rw [h]
  ·rw [h]
  ·rw [h];cases f<;>rfl
 | junk=>cases hp
 | _=>simp [lo1] at hp;exact hp
theorem zLM:∀ (xs:List AV),∀ p∈los xs xs,p:=by
 intro xs
 induction xs with
 | nil=>intro p hp;cases hp
 | cons x r ih =>
  intro p hp
  simp only [los,List.mem_append] at hp
  rcases hp with hp | hp
  ·exact zMu x p hp
  ·exact ih p hp
theorem zM2 (x:AV):∀ p∈loA x x,p:=by
 intro p hp
 cases x with
 | agg cs=>exact zLM cs p hp
 | _=>simp only [loA] at hp;exact zMu _ p hp
theorem zPt:∀ (xs:List AV),∀ p∈zFV xs xs,p:=by
 intro xs
 induction xs with
 | nil=>intro p hp;cases hp
 | cons x r ih =>
  intro p hp
  simp only [zFV,List.mem_append] at hp
  rcases hp with hp | hp
  ·exact zM2 x p hp
  ·exact ih p hp
theorem zQk (x:AV):∀ p∈loT x x,p:=by
 intro p hp
 cases x with
 | tuple cs=>exact zPt cs p hp
 | _=>simp only [loT] at hp;exact zM2 _ p hp
def zJw (ids:List Nat):AV→Bool
 | .own id _=>!(ids.any (Nat.beq id))
 | .part id ..=>!(ids.any (Nat.beq id))
 | _=>true
def zMB (ids:List Nat):AV→Bool
 | .agg cs=>cs.all (zJw ids)
 | v=>zJw ids v
def zOk (ids:List Nat):AV→Bool
 | .tuple vs=>vs.all (zMB ids)
 | v=>zMB ids v
theorem zEU {B:Nat→yI} {ids:List Nat} {x:AV} (h:zJw ids x=true):zD7 B ids x=x∧zCf B ids x=[]:=by
 cases x with
 | own id n=>simp only [zJw,Bool.not_eq_true'] at h;simp [zD7,zCf,h]
 | part id sz lo hi=>simp only [zJw,Bool.not_eq_true'] at h;simp [zD7,zCf,h]
 | _=>exact ⟨rfl,rfl⟩
theorem zGI {α:Type} {f:α→α} {l:List α} (h:∀ x∈l,f x=x):l.map f=l:=by
 induction l with
 | nil=>rfl
 | cons a r ih=>rw [List.map_cons,h a (by simp),ih fun x hx=>h x (by simp [hx])]
theorem zFn {α β:Type} {f:α→List β} {l:List α} (h:∀ x∈l,f x=[]):l.flatMap f=[]:=by
 induction l with
 | nil=>rfl
 | cons a r ih=>rw [List.flatMap_cons,h a (by simp),ih fun x hx=>h x (by simp [hx])];rfl
theorem zHY {B:Nat→yI} {ids:List Nat} {x:AV} (h:zMB ids x=true):zEM B ids x=x∧zEV B ids x=[]:=by
 cases x with
 | agg cs =>
  simp only [zMB,List.all_eq_true] at h
  exact ⟨by simp only [zEM];rw [zGI fun c hc=>(zEU (h c hc)).1],zFn fun c hc=>(zEU (h c hc)).2⟩
 | _=>simp only [zMB] at h;exact zEU (B:=B) h
theorem zRf {B:Nat→yI} {ids:List Nat} {x:AV} (h:zOk ids x=true):frz B ids x=x∧zDI B ids x=[]:=by
 cases x with
 | tuple vs =>
  simp only [zOk,List.all_eq_true] at h
  exact ⟨by simp only [frz];rw [zGI fun c hc=>(zHY (h c hc)).1],zFn fun c hc=>(zHY (h c hc)).2⟩
 | _=>simp only [zOk] at h;exact zHY (B:=B) h
inductive Sp where
 | s (t:Nat)
 | a (t:Nat) (v:AV)
inductive Bp where
 | s (i:Nat)
 | a (i:Nat) (b:yI)
def zP6 (st:AS) (ρ:List Nat):Sp→Nat×AV
 | .s t=>(t,rn ρ (st.slot t))
 | .a t v=>(t,v)
def zRH (st:AS) (ρ ids:List Nat):Sp→Bool
 | .s t=>ins ρ (st.slot t)&&zOk ids (st.slot t)
 | .a _ _=>true
def zR1 (st:AS) (ρ ids:List Nat):Sp→List Prop
 | .s _=>[]
 | .a t v=>zDI st.box ids (st.slot t)++loT (frz st.box ids (st.slot t)) (un ρ v)
def rnB (ρ:List Nat):yI→yI
 | .live (.var t cs)=>.live (.var t (rns ρ cs))
 | b=>b
def okB (ρ ids:List Nat):yI→Bool
 | .live (.var _ cs)=>wW cs&&(zIm ρ cs&&cs.all (zJw ids))
 | .live _=>true
 | _=>false
def zQg (st:AS) (ρ:List Nat):Bp→Nat×yI
 | .s i=>(i,rnB ρ (st.box (ρ.getD i 0)))
 | .a i b=>(i,b)
def zRJ (st:AS) (ρ ids:List Nat):Bp→Bool
 | .s i=>okB ρ ids (st.box (ρ.getD i 0))
 | .a _ _=>true
def zR0 (st:AS) (ρ ids:List Nat):Bp→List Prop
 | .s _=>[]
 | .a i b=>qH st.box ids ρ (st.box (ρ.getD i 0)) b
def zRy (np:Nat) (st:AS) (ρ ids:List Nat) (sl2:List (Nat×AV)) (bx2:List (Nat×yI)):Bool :=
 ((qT ρ&&zDt (ρ.take np) (List.range np))&&(ids.all fun i=>zDu (st.box i)&&Nat.ble np i)) &&
   ((sl2.all fun x=>(tL ρ.length x.2&&zFb x.2)&&zFO (frz st.box ids (st.slot x.1))) &&
    (bx2.all fun x=>(Nat.blt x.1 ρ.length&&zJP ρ.length x.2)&&(match x.2 with | .live (.row ..)=>!(ids.any (Nat.beq (ρ.getD x.1 0))) | .unused=>false | _=>true)))
def wkm (np:Nat) (st:AS) (ρ ids:List Nat) (sps:List Sp) (bps:List Bp):Option (List Prop×List (Nat×AV)×List (Nat×yI)) :=
 bif zRy np st ρ ids (sps.map (zP6 st ρ)) (bps.map (zQg st ρ))&&(sps.all (zRH st ρ ids)&&bps.all (zRJ st ρ ids)) then
  some (sps.flatMap (zR1 st ρ ids)++bps.flatMap (zR0 st ρ ids),sps.map (zP6 st ρ),bps.map (zQg st ρ))
 else none
theorem zLK {ρ:List Nat}:∀ {cs:List AV},wW cs=true→wW (rns ρ cs)=true
 | [],_=>rfl
 | a::r,h=>by
  simp only [wW,Bool.and_eq_true] at h
  simp only [rns,wW,Bool.and_eq_true]
  refine ⟨?_,zLK h.2⟩
  have h1:=h.1
  cases a<;>first | exact h1 | rfl
theorem zQt (np:Nat) (st:AS) (ρ ids:List Nat) (sl2:List (Nat×AV)) (bx2:List (Nat×yI)) :
  zIw np st ρ ids sl2 bx2=bif zRy np st ρ ids sl2 bx2 then some (sl2.flatMap (fun x=>zDI st.box ids (st.slot x.1)++loT (frz st.box ids (st.slot x.1)) (un ρ x.2)) ++
   bx2.flatMap (fun x=>qH st.box ids ρ (st.box (ρ.getD x.1 0)) x.2)) else none:=rfl
theorem zQM {np:Nat} {st:AS} {ρ ids:List Nat} {sps:List Sp} {bps:List Bp} {vcs:List Prop} {sl2:List (Nat×AV)} {bx2:List (Nat×yI)} (h:wkm np st ρ ids sps bps=some (vcs,sl2,bx2)) (hv:nP vcs) :
  ∃ vcs',zIw np st ρ ids sl2 bx2=some vcs'∧nP vcs':=by
 unfold wkm at h
 replace h:=yG h;obtain ⟨hc,h⟩:=h
 simp only [Bool.and_eq_true,List.all_eq_true] at hc
 obtain ⟨hok,hsp,hbp⟩:=hc
 simp only [Option.some.injEq,Prod.mk.injEq] at h
 obtain ⟨rfl,rfl,rfl⟩:=h
 have hv:=zOb hv
 have toAll:∀ {l:List Prop},(∀ p∈l,p)→nP l:=by
  intro l
  induction l with
  | nil=>intro _;trivial
  | cons a r ih=>intro h;exact ⟨h a (by simp),ih fun p hp=>h p (by simp [hp])⟩
 refine ⟨_,(zQt ..).trans (by rw [hok];rfl),toAll ?_⟩
 intro p hp
 rcases List.mem_append.1 hp with hp | hp
 ·obtain ⟨x,hx,hp⟩:=List.mem_flatMap.1 hp
  obtain ⟨sp,hs,rfl⟩:=List.mem_map.1 hx
  cases sp with
  | s t =>
   have h1:=hsp _ hs
   simp only [zRH,Bool.and_eq_true] at h1
   have h2:=zRf (B:=st.box) h1.2
   simp only [zP6,h2.1,h2.2,List.nil_append,zQS h1.1] at hp
   exact zQk _ p hp
  | a t v=>exact hv p (List.mem_append_left _ (List.mem_flatMap.2 ⟨_,hs,hp⟩))
 ·obtain ⟨x,hx,hp⟩:=List.mem_flatMap.1 hp
  obtain ⟨bp,hb,rfl⟩:=List.mem_map.1 hx
  cases bp with
  | s i =>
   have h1:=hbp _ hb
   simp only [zRJ] at h1
   simp only [zQg] at hp
   generalize st.box (ρ.getD i 0)=b at h1 hp
   cases b with
   | unused=>cases h1
   | dead=>cases h1
   | live b =>
    cases b with
    | row e s l=>simp [rnB,qH] at hp;exact hp
    | map a k l=>simp [rnB,qH] at hp;exact hp
    | var t cs =>
     simp only [okB,Bool.and_eq_true,List.all_eq_true] at h1
     obtain ⟨h2,h3,h4⟩:=h1
     simp only [rnB,qH,List.mem_append,List.mem_cons,List.not_mem_nil,or_false] at hp
     rcases hp with (h | h) | hp | hp
     ·rw [h];trivial
     ·rw [h];exact zLK h2
     ·rw [zFn fun c hc=>(zEU (h4 c hc)).2] at hp;cases hp
     ·rw [zGI fun c hc=>(zEU (h4 c hc)).1,zFw h3] at hp
      exact zLM _ p hp
  | a i b=>exact hv p (List.mem_append_right _ (List.mem_flatMap.2 ⟨_,hb,hp⟩))
theorem zG1 {np:Nat} {st:AS} (ρ ids:List Nat) (sps:List Sp) (bps:List Bp) {vcs:List Prop} {sl2:List (Nat×AV)} {bx2:List (Nat×yI)} (h:wkm np st ρ ids sps bps=some (vcs,sl2,bx2)) (hv:nP vcs) :
  Sub np st (mk sl2 bx2 ρ.length):=by
 obtain ⟨vcs',h1,h2⟩:=zQM h hv
 exact zRB ρ ids sl2 bx2 h1 h2
theorem an:nP []:=trivial
theorem ac {p:Prop} {r:List Prop} (h:p) (t:nP r):nP (p::r):=⟨h,t⟩
end Go.Ab

/- The rules once more, in the shortest words: what the kernel computes is left to it. -/
namespace Go.Ab
open Go
abbrev Ii (x:Int):AV:=.int .i64 x
abbrev Iu (x:Int):AV:=.int .u8 x
abbrev Vb (n:Nat) (l:List AV):yI:=.live (.var n l)
abbrev Rb (n k:Nat) (l:List AV):yI:=.live (.row n k l)
abbrev Hg:xX:={ g:=false }
abbrev Ht:xX:={ b:=true }
abbrev Hf:xX:={ b:=false }
abbrev Pp (i:Nat):AV:=.ptr i 0 0 0
abbrev Mb (l:List Int):List AV:=List.map (AV.int .u8) l
abbrev Mi (l:List Int):List AV:=List.map (AV.int .i64) l
abbrev Ms (l:List (List Int)):List AV:=List.map AV.str l
abbrev Mp {α:Type} (f:α→AV) (l:List α):List AV:=List.map f l
abbrev lN {α:Type} (l:List α):Int:=((l.length:Nat):Int)
theorem bft (b:Bool):b=true∨b=false:=Bool.eq_false_or_eq_true b
variable {P:Program} {N np:Nat} {K:Exit→AS→Prop} {c:Code} {st:AS}
theorem sq (h:AW P N np (Code.l c) (zOz P N np (Code.r c) K) st) (hc:c=.seq (Code.l c) (Code.r c):=by kernel_rfl):AW P N np c K st:=zO2 hc h
theorem rt (h:K .ret st) (hc:c=.ret:=by kernel_rfl):AW P N np c K st:=zRD hc h
theorem sk (h:K .normal st) (hc:c=.skip:=by kernel_rfl):AW P N np c K st:=zRb hc h
theorem rg {sl:List (Nat×AV)} {bx:List (Nat×yI)} {n:Nat} (hs:List (Nat×xX)) (live bl:List Nat) (n':Nat) {vcs:List Prop} (vals:List AV) (bxs:List yI) (hm:P.follows .mixedOrders=true) (hv:nP vcs)
  (hk:K .normal (mk (live.zip vals) (bl.zip bxs) n')) (h:zJc P N np c hs sl bx n live bl n'=some (vcs,vals,bxs):=by kernel_rfl):AW P N np c K (mk sl bx n):=zKm hs live bl n' h hm hv hk
theorem sr {sl:List (Nat×AV)} {bx:List (Nat×yI)} {n:Nat} (hs:List (Nat×xX)) (live bl:List Nat) (n':Nat) {vcs:List Prop} (vals:List AV) (bxs:List yI) (hm:P.follows .mixedOrders=true) (hv:nP vcs)
  (hk:zOz P N np (Code.r c) K .normal (mk (live.zip vals) (bl.zip bxs) n')) (h:zJc P N np (Code.l c) hs sl bx n live bl n'=some (vcs,vals,bxs):=by kernel_rfl) (hc:c=.seq (Code.l c) (Code.r c):=by kernel_rfl):AW P N np c K (mk sl bx n) :=
 zO2 hc (zKm hs live bl n' h hm hv hk)
theorem sw (ρ ids:List Nat) (sps:List Sp) (bps:List Bp) {vcs:List Prop} {sl2:List (Nat×AV)} {bx2:List (Nat×yI)} (hv:nP vcs) (h:wkm np st ρ ids sps bps=some (vcs,sl2,bx2):=by kernel_rfl):Sub np st (mk sl2 bx2 ρ.length):=zG1 ρ ids sps bps h hv
theorem wk (ρ ids:List Nat) (sps:List Sp) (bps:List Bp) {vcs:List Prop} (sl2:List (Nat×AV)) (bx2:List (Nat×yI)) (hv:nP vcs) (k:AW P N np c K (mk sl2 bx2 ρ.length)) (h:wkm np st ρ ids sps bps=some (vcs,sl2,bx2):=by kernel_rfl):AW P N np c K st:=zPf (zG1 ρ ids sps bps h hv) k
theorem cd (t:Nat) (b:Bool) (h1:b=true→AW P N np (Code.t c) K st) (h2:b=false→AW P N np (Code.e c) K st) (hc:c=.cond (.tmp t) (Code.t c) (Code.e c):=by kernel_rfl) (hs:st.slot t=.bool b:=by kernel_rfl):AW P N np c K st:=zRk hc hs h1 h2
theorem ar {α:Type} (x:α) {r:List Prop} (t:nP r):nP ((x=x)::r):=⟨rfl,t⟩
theorem ax {r:List Prop} (t:nP r):nP ((true=!false)::r):=⟨rfl,t⟩
theorem zne:([]:List yI)=[]:=rfl
end Go.Ab
