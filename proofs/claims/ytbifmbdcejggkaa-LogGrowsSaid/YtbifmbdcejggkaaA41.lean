/- A layer over the model: abstract values and states, and the rules by which the printed proofs go. No conditions. -/
import Derived.Test.YtbifmbdcejggkaaA37
/- A state seen otherwise, most of it as it was. -/
namespace Go.Ab
open Go

/-- Where a name stands in a list. -/
def zEE:List Nat→Nat→Nat
  | [],_=>0
  | x::r,i=>bif Nat.beq x i then 0 else zEE r i+1
def inN (l:List Nat) (i:Nat):Bool:=l.any (Nat.beq i)
theorem zC8 {l:List Nat} {i:Nat} (h:inN l i=true):l.getD (zEE l i) 0=i:=by
  induction l with
  | nil=>simp [inN] at h
  | cons x r ih =>
    simp only [zEE]
    cases hx:Nat.beq x i
    · simp only [cond_false]
      have:inN r i=true:=by
        simp only [inN,List.any_cons,Bool.or_eq_true] at h ⊢
        rcases h with h | h
        · rw [xO.1 h] at hx;simp at hx
        · exact h
      have:=ih this
      simpa [List.getD] using this
    · have:=xO.1 hx
      simp [List.getD,this]
mutual
def rn (ρ:List Nat):AV→AV
  | .agg cs=>.agg (rns ρ cs)
  | .tuple cs=>.tuple (rns ρ cs)
  | .ptr id sz i off=>.ptr (zEE ρ id) sz i off
  | .own id n=>.own (zEE ρ id) n
  | .part id sz lo hi=>.part (zEE ρ id) sz lo hi
  | .fn f cs=>.fn f (rns ρ cs)
  | .mp id=>.mp (zEE ρ id)
  | .junk=>.junk
  | .int k n=>.int k n
  | .bool b=>.bool b
  | .str l=>.str l
  | .sl f s l=>.sl f s l
  | .ref a=>.ref a
  | .nilp=>.nilp
  | .nilsl=>.nilsl
  | .nb l=>.nb l
  | .raw b=>.raw b
  | .rawm b=>.rawm b
def rns (ρ:List Nat):List AV→List AV
  | []=>[]
  | a::r=>rn ρ a::rns ρ r
end
mutual
/-- Its names are among these. -/
def ins (ρ:List Nat):AV→Bool
  | .agg cs=>zDE ρ cs
  | .tuple cs=>zDE ρ cs
  | .ptr id ..=>inN ρ id
  | .own id _=>inN ρ id
  | .part id ..=>inN ρ id
  | .fn _ cs=>zDE ρ cs
  | .mp id=>inN ρ id
  | .junk=>true
  | .int ..=>true
  | .bool _=>true
  | .str _=>true
  | .sl ..=>true
  | .ref _=>true
  | .nilp=>true
  | .nilsl=>true
  | .nb _=>true
  | .raw _=>true
  | .rawm _=>true
def zDE (ρ:List Nat):List AV→Bool
  | []=>true
  | a::r=>ins ρ a&&zDE ρ r
end
mutual
theorem zMn {ρ:List Nat}:∀ {a:AV},ins ρ a=true→un ρ (rn ρ a)=a
  | .agg cs,h=>by simp only [rn,un];rw [zBt (cs:=cs) (by simpa [ins] using h)]
  | .tuple cs,h=>by simp only [rn,un];rw [zBt (cs:=cs) (by simpa [ins] using h)]
  | .ptr id ..,h=>by simp only [rn,un];rw [zC8 (by simpa [ins] using h)]
  | .own id _,h=>by simp only [rn,un];rw [zC8 (by simpa [ins] using h)]
  | .part id ..,h=>by simp only [rn,un];rw [zC8 (by simpa [ins] using h)]
  | .fn _ cs,h=>by simp only [rn,un];rw [zBt (cs:=cs) (by simpa [ins] using h)]
  | .mp id,h=>by simp only [rn,un];rw [zC8 (by simpa [ins] using h)]
  | .junk,_=>rfl
  | .int ..,_=>rfl
  | .bool _,_=>rfl
  | .str _,_=>rfl
  | .sl ..,_=>rfl
  | .ref _,_=>rfl
  | .nilp,_=>rfl
  | .nilsl,_=>rfl
  | .nb _,_=>rfl
  | .raw _,_=>rfl
  | .rawm _,_=>rfl
theorem zBt {ρ:List Nat}:∀ {cs:List AV},zDE ρ cs=true→uns ρ (rns ρ cs)=cs
  | [],_=>rfl
  | a::r,h=>by
    simp only [zDE,Bool.and_eq_true] at h
    simp only [rns,uns]
    rw [zMn h.1,zBt h.2]
end

theorem zHH (x:AV):∀ p∈lo1 x x,p:=by
  intro p hp
  cases x with
  | sl f s l =>
    have hp:p=(s=s)∨p=(l=l)∨p=((!f||f)=true):=by simpa only [lo1,List.mem_cons,List.not_mem_nil,or_false] using (show p∈[s=s,l=l,(!f||f)=true] from hp)
    rcases hp with h | h | h
    · rw [h]
    · rw [h]
    · rw [h];cases f<;>rfl
  | junk=>cases hp
  | _=>simp [lo1] at hp;exact hp
theorem zEq:∀ (xs:List AV),∀ p∈los xs xs,p:=by
  intro xs
  induction xs with
  | nil=>intro p hp;cases hp
  | cons x r ih =>
    intro p hp
    simp only [los,List.mem_append] at hp
    rcases hp with hp | hp
    · exact zHH x p hp
    · exact ih p hp
theorem zHE (x:AV):∀ p∈loA x x,p:=by
  intro p hp
  cases x with
  | agg cs=>exact zEq cs p hp
  | _=>simp only [loA] at hp;exact zHH _ p hp
theorem zKQ:∀ (xs:List AV),∀ p∈zC6 xs xs,p:=by
  intro xs
  induction xs with
  | nil=>intro p hp;cases hp
  | cons x r ih =>
    intro p hp
    simp only [zC6,List.mem_append] at hp
    rcases hp with hp | hp
    · exact zHE x p hp
    · exact ih p hp
theorem zLo (x:AV):∀ p∈loT x x,p:=by
  intro p hp
  cases x with
  | tuple cs=>exact zKQ cs p hp
  | _=>simp only [loT] at hp;exact zHE _ p hp

/-- It names none of these. -/
def zF3 (ids:List Nat):AV→Bool
  | .own id _=>!(ids.any (Nat.beq id))
  | .part id ..=>!(ids.any (Nat.beq id))
  | _=>true
def zIK (ids:List Nat):AV→Bool
  | .agg cs=>cs.all (zF3 ids)
  | v=>zF3 ids v
def zKf (ids:List Nat):AV→Bool
  | .tuple vs=>vs.all (zIK ids)
  | v=>zIK ids v
theorem zBO {B:Nat→zO} {ids:List Nat} {x:AV} (h:zF3 ids x=true):zBb B ids x=x∧nB B ids x=[]:=by
  cases x with
  | own id n=>simp only [zF3,Bool.not_eq_true'] at h;simp [zBb,nB,h]
  | part id sz lo hi=>simp only [zF3,Bool.not_eq_true'] at h;simp [zBb,nB,h]
  | _=>exact ⟨rfl,rfl⟩
theorem zDH {α:Type} {f:α→α} {l:List α} (h:∀ x∈l,f x=x):l.map f=l:=by
  induction l with
  | nil=>rfl
  | cons a r ih=>rw [List.map_cons,h a (by simp),ih fun x hx=>h x (by simp [hx])]
theorem zCl {α β:Type} {f:α→List β} {l:List α} (h:∀ x∈l,f x=[]):l.flatMap f=[]:=by
  induction l with
  | nil=>rfl
  | cons a r ih=>rw [List.flatMap_cons,h a (by simp),ih fun x hx=>h x (by simp [hx])];rfl
theorem zET {B:Nat→zO} {ids:List Nat} {x:AV} (h:zIK ids x=true):zBA B ids x=x∧zBR B ids x=[]:=by
  cases x with
  | agg cs =>
    simp only [zIK,List.all_eq_true] at h
    exact ⟨by simp only [zBA];rw [zDH fun c hc=>(zBO (h c hc)).1],zCl fun c hc=>(zBO (h c hc)).2⟩
  | _=>simp only [zIK] at h;exact zBO (B:=B) h
theorem zM0 {B:Nat→zO} {ids:List Nat} {x:AV} (h:zKf ids x=true):frz B ids x=x∧zAR B ids x=[]:=by
  cases x with
  | tuple vs =>
    simp only [zKf,List.all_eq_true] at h
    exact ⟨by simp only [frz];rw [zDH fun c hc=>(zET (h c hc)).1],zCl fun c hc=>(zET (h c hc)).2⟩
  | _=>simp only [zKf] at h;exact zET (B:=B) h

/-- What a slot holds in the new view: what it held, or another reading of it. -/
inductive Sp where
  | s (t:Nat)
  | a (t:Nat) (v:AV)
inductive Bp where
  | s (i:Nat)
  | a (i:Nat) (b:zO)
def zMg (st:AS) (ρ:List Nat):Sp→Nat×AV
  | .s t=>(t,rn ρ (st.slot t))
  | .a t v=>(t,v)
def zNo (st:AS) (ρ ids:List Nat):Sp→Bool
  | .s t=>ins ρ (st.slot t)&&zKf ids (st.slot t)
  | .a _ _=>true
def zND (st:AS) (ρ ids:List Nat):Sp→List Prop
  | .s _=>[]
  | .a t v=>zAR st.box ids (st.slot t)++loT (frz st.box ids (st.slot t)) (un ρ v)
def rnB (ρ:List Nat):zO→zO
  | .live (.var t cs)=>.live (.var t (rns ρ cs))
  | .live (.rowQ e s l m x)=>.live (.rowQ e s l m (rns ρ x))
  | b=>b
def okB (ρ ids:List Nat):zO→Bool
  | .live (.var _ cs)=>uJ cs&&(zDE ρ cs&&cs.all (zF3 ids))
  | .live (.rowQ _ _ _ _ x)=>uJ x&&zDE ρ x
  | .live _=>true
  | _=>false
def zL6 (st:AS) (ρ:List Nat):Bp→Nat×zO
  | .s i=>(i,rnB ρ (st.box (ρ.getD i 0)))
  | .a i b=>(i,b)
def zM9 (st:AS) (ρ ids:List Nat):Bp→Bool
  | .s i=>okB ρ ids (st.box (ρ.getD i 0))
  | .a _ _=>true
def zNG (st:AS) (ρ ids:List Nat):Bp→List Prop
  | .s _=>[]
  | .a i b=>wP st.box ids ρ (st.box (ρ.getD i 0)) b
def zM8 (np:Nat) (st:AS) (ρ ids:List Nat) (sl2:List (Nat×AV)) (bx2:List (Nat×zO)):Bool :=
  ((vO ρ&&zAI (ρ.take np) (List.range np))&&(ids.all fun i=>pJ (st.box i)&&Nat.ble np i)) &&
      ((sl2.all fun x=>(tG ρ.length x.2&&zB6 x.2)&&zB5 (frz st.box ids (st.slot x.1))) &&
       (bx2.all fun x=>(Nat.blt x.1 ρ.length&&zGj ρ.length x.2)&&(match x.2 with | .live (.row ..)=>!(ids.any (Nat.beq (ρ.getD x.1 0))) | .unused=>false | _=>true)))
def wkm (np:Nat) (st:AS) (ρ ids:List Nat) (sps:List Sp) (bps:List Bp):Option (List Prop×List (Nat×AV)×List (Nat×zO)) :=
  bif zM8 np st ρ ids (sps.map (zMg st ρ)) (bps.map (zL6 st ρ))&&(sps.all (zNo st ρ ids)&&bps.all (zM9 st ρ ids)) then
    some (sps.flatMap (zND st ρ ids)++bps.flatMap (zNG st ρ ids),sps.map (zMg st ρ),bps.map (zL6 st ρ))
  else none

theorem zEG {ρ:List Nat}:∀ {cs:List AV},uJ cs=true→uJ (rns ρ cs)=true
  | [],_=>rfl
  | a::r,h=>by
    simp only [uJ,Bool.and_eq_true] at h
    simp only [rns,uJ,Bool.and_eq_true]
    refine ⟨?_,zEG h.2⟩
    have h1:=h.1
    cases a<;>first | exact h1 | rfl

theorem zLL (np:Nat) (st:AS) (ρ ids:List Nat) (sl2:List (Nat×AV)) (bx2:List (Nat×zO)) :
    zCO np st ρ ids sl2 bx2=bif zM8 np st ρ ids sl2 bx2 then some (sl2.flatMap (fun x=>zAR st.box ids (st.slot x.1)++loT (frz st.box ids (st.slot x.1)) (un ρ x.2)) ++
      bx2.flatMap (fun x=>wP st.box ids ρ (st.box (ρ.getD x.1 0)) x.2)) else none:=rfl
theorem zLG {np:Nat} {st:AS} {ρ ids:List Nat} {sps:List Sp} {bps:List Bp} {vcs:List Prop} {sl2:List (Nat×AV)} {bx2:List (Nat×zO)} (h:wkm np st ρ ids sps bps=some (vcs,sl2,bx2)) (hv:tY vcs) :
    ∃ vcs',zCO np st ρ ids sl2 bx2=some vcs'∧tY vcs':=by
  unfold wkm at h
  replace h:=zY h;obtain ⟨hc,h⟩:=h
  simp only [Bool.and_eq_true,List.all_eq_true] at hc
  obtain ⟨hok,hsp,hbp⟩:=hc
  simp only [Option.some.injEq,Prod.mk.injEq] at h
  obtain ⟨rfl,rfl,rfl⟩:=h
  have hv:=zC7 hv
  have toAll:∀ {l:List Prop},(∀ p∈l,p)→tY l:=by
    intro l
    induction l with
    | nil=>intro _;trivial
    | cons a r ih=>intro h;exact ⟨h a (by simp),ih fun p hp=>h p (by simp [hp])⟩
  refine ⟨_,(zLL ..).trans (by rw [hok];rfl),toAll ?_⟩
  intro p hp
  rcases List.mem_append.1 hp with hp | hp
  · obtain ⟨x,hx,hp⟩:=List.mem_flatMap.1 hp
    obtain ⟨sp,hs,rfl⟩:=List.mem_map.1 hx
    cases sp with
    | s t =>
      have h1:=hsp _ hs
      simp only [zNo,Bool.and_eq_true] at h1
      have h2:=zM0 (B:=st.box) h1.2
      simp only [zMg,h2.1,h2.2,List.nil_append,zMn h1.1] at hp
      exact zLo _ p hp
    | a t v=>exact hv p (List.mem_append_left _ (List.mem_flatMap.2 ⟨_,hs,hp⟩))
  · obtain ⟨x,hx,hp⟩:=List.mem_flatMap.1 hp
    obtain ⟨bp,hb,rfl⟩:=List.mem_map.1 hx
    cases bp with
    | s i =>
      have h1:=hbp _ hb
      simp only [zM9] at h1
      simp only [zL6] at hp
      generalize st.box (ρ.getD i 0)=b at h1 hp
      cases b with
      | unused=>cases h1
      | dead=>cases h1
      | live b =>
        cases b with
        | row e s l=>simp [rnB,wP] at hp;exact hp
        | map a k l=>simp [rnB,wP] at hp;exact hp
        | fam f=>simp [rnB,wP] at hp;exact hp
        | rowQ e s l m x =>
          simp only [okB,Bool.and_eq_true] at h1
          simp only [rnB,wP,List.mem_append,List.mem_cons,List.not_mem_nil,or_false] at hp
          rcases hp with (h | h | h | h | h) | hp
          · rw [h];trivial
          · rw [h];trivial
          · rw [h];trivial
          · rw [h];trivial
          · rw [h];exact zEG h1.1
          · rw [zBt h1.2] at hp
            exact zEq _ p hp
        | var t cs =>
          simp only [okB,Bool.and_eq_true,List.all_eq_true] at h1
          obtain ⟨h2,h3,h4⟩:=h1
          simp only [rnB,wP,List.mem_append,List.mem_cons,List.not_mem_nil,or_false] at hp
          rcases hp with (h | h) | hp | hp
          · rw [h];trivial
          · rw [h];exact zEG h2
          · rw [zCl fun c hc=>(zBO (h4 c hc)).2] at hp;cases hp
          · rw [zDH fun c hc=>(zBO (h4 c hc)).1,zBt h3] at hp
            exact zEq _ p hp
    | a i b=>exact hv p (List.mem_append_right _ (List.mem_flatMap.2 ⟨_,hb,hp⟩))

theorem zF4 {np:Nat} {st:AS} (ρ ids:List Nat) (sps:List Sp) (bps:List Bp) {vcs:List Prop} {sl2:List (Nat×AV)} {bx2:List (Nat×zO)} (h:wkm np st ρ ids sps bps=some (vcs,sl2,bx2)) (hv:tY vcs) :
    Sub np st (mk sl2 bx2 ρ.length):=by
  obtain ⟨vcs',h1,h2⟩:=zLG h hv
  exact zNf ρ ids sl2 bx2 h1 h2

theorem an:tY []:=trivial
theorem ac {p:Prop} {r:List Prop} (h:p) (t:tY r):tY (p::r):=⟨h,t⟩
end Go.Ab

/- The rules once more, in the shortest words: what the kernel computes is left to it. -/
namespace Go.Ab
open Go

abbrev Ii (x:Int):AV:=.int .i64 x
abbrev Iu (x:Int):AV:=.int .u8 x
abbrev Vb (n:Nat) (l:List AV):zO:=.live (.var n l)
abbrev Rb (n k:Nat) (l:List AV):zO:=.live (.row n k l)
abbrev Hg:xK:={ g:=false }
abbrev Ht:xK:={ b:=true }
abbrev Hf:xK:={ b:=false }
abbrev Pp (i:Nat):AV:=.ptr i 0 0 0
abbrev Mi (l:List Int):List AV:=List.map (AV.int .i64) l
abbrev Ms (l:List (List Int)):List AV:=List.map AV.str l
abbrev Mp {α:Type} (f:α→AV) (l:List α):List AV:=List.map f l
abbrev lN {α:Type} (l:List α):Int:=((l.length:Nat):Int)
theorem bft (b:Bool):b=true∨b=false:=Bool.eq_false_or_eq_true b
variable {P:Program} {N np:Nat} {K:Exit→AS→Prop} {c:Code} {st:AS}
theorem sq (h:AW P N np (Code.l c) (zJN P N np (Code.r c) K) st) (hc:c=.seq (Code.l c) (Code.r c):=by kernel_rfl):AW P N np c K st:=zKO hc h
theorem rt (h:K .ret st) (hc:c=.ret:=by kernel_rfl):AW P N np c K st:=zNn hc h
theorem sk (h:K .normal st) (hc:c=.skip:=by kernel_rfl):AW P N np c K st:=zMz hc h
theorem rg {sl:List (Nat×AV)} {bx:List (Nat×zO)} {n:Nat} (hs:List (Nat×xK)) (live bl:List Nat) (n':Nat) {vcs:List Prop} (vals:List AV) (bxs:List zO) (hm:P.follows .mixedOrders=true) (hv:tY vcs)
    (hk:K .normal (mk (live.zip vals) (bl.zip bxs) n')) (h:zFL P N np c hs sl bx n live bl n'=some (vcs,vals,bxs):=by kernel_rfl):AW P N np c K (mk sl bx n):=zGJ hs live bl n' h hm hv hk
theorem sr {sl:List (Nat×AV)} {bx:List (Nat×zO)} {n:Nat} (hs:List (Nat×xK)) (live bl:List Nat) (n':Nat) {vcs:List Prop} (vals:List AV) (bxs:List zO) (hm:P.follows .mixedOrders=true) (hv:tY vcs)
    (hk:zJN P N np (Code.r c) K .normal (mk (live.zip vals) (bl.zip bxs) n')) (h:zFL P N np (Code.l c) hs sl bx n live bl n'=some (vcs,vals,bxs):=by kernel_rfl) (hc:c=.seq (Code.l c) (Code.r c):=by kernel_rfl):AW P N np c K (mk sl bx n) :=
  zKO hc (zGJ hs live bl n' h hm hv hk)
theorem sw (ρ ids:List Nat) (sps:List Sp) (bps:List Bp) {vcs:List Prop} {sl2:List (Nat×AV)} {bx2:List (Nat×zO)} (hv:tY vcs) (h:wkm np st ρ ids sps bps=some (vcs,sl2,bx2):=by kernel_rfl):Sub np st (mk sl2 bx2 ρ.length):=zF4 ρ ids sps bps h hv
theorem wk (ρ ids:List Nat) (sps:List Sp) (bps:List Bp) {vcs:List Prop} (sl2:List (Nat×AV)) (bx2:List (Nat×zO)) (hv:tY vcs) (k:AW P N np c K (mk sl2 bx2 ρ.length)) (h:wkm np st ρ ids sps bps=some (vcs,sl2,bx2):=by kernel_rfl):AW P N np c K st:=qM (zF4 ρ ids sps bps h hv) k
theorem cd (t:Nat) (b:Bool) (h1:b=true→AW P N np (Code.t c) K st) (h2:b=false→AW P N np (Code.e c) K st) (hc:c=.cond (.tmp t) (Code.t c) (Code.e c):=by kernel_rfl) (hs:st.slot t=.bool b:=by kernel_rfl):AW P N np c K st:=zMZ hc hs h1 h2
theorem ar {α:Type} (x:α) {r:List Prop} (t:tY r):tY ((x=x)::r):=⟨rfl,t⟩
theorem ax {r:List Prop} (t:tY r):tY ((true=!false)::r):=⟨rfl,t⟩
end Go.Ab
