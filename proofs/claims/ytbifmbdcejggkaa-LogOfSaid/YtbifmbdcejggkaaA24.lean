/- A layer over the model: abstract values and states, and the rules by which the printed proofs go. No conditions. -/
import Derived.Test.YtbifmbdcejggkaaA23
/- Words for the printed functions and their proofs. -/
namespace Go.Ab
open Go
abbrev zR (x:Int):Int:=IntKind.i64.wrap x
def xD {α:Type} (l:List α) (i:Int):Option α:=if 0≤i then l[i.toNat]? else none
def sub {α:Type} (l:List α) (a b:Int):List α:=(l.take b.toNat).drop a.toNat
def need (p:Prop) [Decidable p]:Option Unit:=if p then some () else none
theorem wN {p:Prop} [Decidable p] {u:Unit} (h:need p=some u):p:=by
 unfold need at h;split at h
 ·assumption
 ·cases h
theorem yP {α:Type} {e:α→AV} {l:List α} {i:Int} {x:α} (h:xD l i=some x):xG (l.map e) i=some (e x):=by
 unfold xD at h;unfold xG
 split at h
 ·rename_i h0;rw [if_pos h0,List.getElem?_map,h];rfl
 ·cases h
theorem z9 {α:Type} {e:α→AV} (l:List α):(l.map e).length=l.length:=List.length_map _
theorem zDM {α:Type} {e:α→AV} {l:List α} {b:Int} (h:b≤l.length):b≤(l.map e).length:=by rw [List.length_map];exact h
theorem zI1 {α:Type} {e:α→AV} (l:List α) (a b:Int):(sub l a b).map e=((l.map e).take b.toNat).drop a.toNat:=by simp [sub,List.map_drop,List.map_take]
theorem zDy {α:Type} {e:α→AV} (l m:List α):(l++m).map e=l.map e++m.map e:=List.map_append
theorem zCt {α:Type} {e:α→AV} {l:List α} {i:Int} {x:α} (h:xD l i=some x):(l.map e)[i.toNat]?=some (e x):=by
 unfold xD at h
 split at h
 ·rw [List.getElem?_map,h];rfl
 ·cases h
theorem zBr {α:Type} {l:List α} {i:Int} {x:α} (h:xD l i=some x):0≤i:=by
 unfold xD at h;split at h
 ·assumption
 ·cases h
theorem zBn {α:Type} {l:List α} {i:Int} {x:α} (h:xD l i=some x):i<l.length:=by
 unfold xD at h;split at h
 ·rename_i h0
  rcases Nat.lt_or_ge i.toNat l.length with h' | h'
  ·omega
  ·rw [List.getElem?_eq_none h'] at h;cases h
 ·cases h
theorem bind_some {α β:Type} {x:Option α} {f:α→Option β} {r:β} (h:x.bind f=some r):∃ a,x=some a∧f a=some r:=by
 cases x with
 | none=>cases h
 | some a=>exact ⟨a,rfl,h⟩
theorem zP {α:Type} {b:Bool} {x y z:α} (hb:b=true) (h:(bif b then x else y)=z):x=z:=by rw [hb] at h;exact h
theorem zO {α:Type} {b:Bool} {x y z:α} (hb:b=false) (h:(bif b then x else y)=z):y=z:=by rw [hb] at h;exact h
def KS (np:Nat) (K:Exit→AS→Prop) (e:Exit) (st:AS):Prop:=∃ st2,Sub np st st2∧K e st2
theorem wK {P:Program} {N np:Nat} {c:Code} {K K1:Exit→AS→Prop} {st:AS} (h:AW P N np c K1 st) (hk:∀ e st,K1 e st→KS np K e st):AW P N np c K st:=by
 intro G a w hN hnp hR
 refine Code.wp_mono ?_ (h G a w hN hnp hR)
 rintro e a' w' ⟨st',h1,h2⟩
 obtain ⟨st2,h3,h4⟩:=hk e st' h1
 exact ⟨st2,h4,h3 G a' w' hnp h2⟩
theorem y9 {P:Program} {N np:Nat} {c:Code} {K:Exit→AS→Prop} {st:AS} (S:AS) (h1:AW P N np c (fun e st'=>e=.normal∧Sub np st' S) st) (h2:K .normal S):AW P N np c K st :=
 wK h1 (by rintro e st' ⟨rfl,hs⟩;exact ⟨S,hs,h2⟩)
theorem Sub.refl (np:Nat) (st:AS):Sub np st st:=fun _ _ _ _ h=>h
theorem xH {P:Program} {N np:Nat} {c:Code} {K:Exit→AS→Prop} {st:AS} (I:Nat→AS→Prop) (n:Nat) (hc:c=.loop (Code.b c)) (h0:I n st) (hz:∀ st,¬ I 0 st)
  (h:∀ n st,I (n+1) st→AW P N np (Code.b c) (fun e st'=>match e with | .normal=>KS np (fun _ s=>I n s) .normal st' | e=>K e st') st):AW P N np c K st:=by
 refine zOq (fun n st=>∃ st2,Sub np st st2∧I n st2) n hc ⟨st,Sub.refl _ _,h0⟩ ?_
 rintro n st ⟨st2,hs,hI⟩
 cases n with
 | zero=>exact absurd hI (hz st2)
 | succ n =>
  refine uI hs (zOs (h n st2 hI) ?_)
  intro e st' hk
  cases e with
  | normal=>exact ⟨n,Nat.lt_succ_self n,hk⟩
  | _=>exact hk
end Go.Ab

/- More words for the printed proofs. -/
namespace Go.Ab
open Go
def xC (f:Func):Code:=match f.body with | some c=>c | none=>.skip
def uF (P:Program) (fn:Func) (np:Nat) (post:List Box) (res:AV) (st:AS):Prop :=
 np≤post.length∧zI5 P fn post.length st=some (res,post.map zT.live)
theorem ctr {α:Type} {g:Bool} {v x y:α} (h:g=true) (e:v=x):v=(bif g then x else y):=by rw [h];exact e
theorem cfr {α:Type} {g:Bool} {v x y:α} (h:g=false) (e:v=y):v=(bif g then x else y):=by rw [h];exact e
theorem uP {g v w:Bool} (h:g=true) (e:v=w):v=(g&&w):=by rw [h];simpa using e
theorem j7 {g w:Bool} (h:g=false):false=(g&&w):=by rw [h];rfl
theorem ort {g w:Bool} (h:g=true):true=(g||w):=by rw [h];rfl
theorem orf {g v w:Bool} (h:g=false) (e:v=w):v=(g||w):=by rw [h];simpa using e
theorem zN9 {α:Type} {e:α→AV} (l:List α) (a:Int):(sub l a (((l.length:Nat):Int))).map e=((l.map e).take ((((l.map e).length:Nat):Int)).toNat).drop a.toNat:=by
 simp only [sub,Int.toNat_natCast,List.take_length,List.map_drop]
theorem xX {α:Type} {a:α} {p:Prop} (h:(none:Option α)=some a):p:=by cases h
theorem zAM {P:Program} {f:FuncId} {pre giv:List Box} {args args':List AV} {post:List Box} {res:AV} (h:zW P f pre giv args' post res) (h1:args'.all zC9=true) (hl:qL (zDO args args')) :
  zW P f pre giv args post res:=by
 intro w I foot gp vals a1 a0 a2 a3 a4 a5 a6 a7
 obtain ⟨hlen,hr⟩:=zH4 (zEf hl)
 refine h w I foot gp vals a1 a0 a2 a3 a4 a5 (a6.trans hlen) ?_
 intro j av hj
 have hlt:j<args.length:=by
  rw [hlen]
  rcases Nat.lt_or_ge j args'.length with h' | h'
  ·exact h'
  ·rw [List.getElem?_eq_none h'] at hj;cases hj
 exact zHF (a7 j _ (List.getElem?_eq_getElem hlt)) (hr j _ av (List.getElem?_eq_getElem hlt) hj) (List.all_eq_true.1 h1 av (List.mem_of_getElem? hj))
end Go.Ab
