/- A layer over the model: abstract values and states, and the rules by which the printed proofs go. No conditions. -/
import Derived.Test.YtdpgdpjoemdkjaaA23
/- Words for the printed functions and their proofs. -/
namespace Go.Ab
open Go
abbrev zJ (x:Int):Int:=IntKind.i64.wrap x
abbrev wK (x:Int):Int:=IntKind.u8.wrap x
abbrev yR (x:Int):Int:=IntKind.u64.wrap x
def y7 {α:Type} (l:List α) (i:Int):Option α:=if 0≤i then l[i.toNat]? else none
def sub {α:Type} (l:List α) (a b:Int):List α:=(l.take b.toNat).drop a.toNat
def need (p:Prop) [Decidable p]:Option Unit:=if p then some () else none
theorem yU {p:Prop} [Decidable p] {u:Unit} (h:need p=some u):p:=by
 unfold need at h;split at h
 ·assumption
 ·cases h
theorem xN {α:Type} {e:α→AV} {l:List α} {i:Int} {x:α} (h:y7 l i=some x):wF (l.map e) i=some (e x):=by
 unfold y7 at h;unfold wF
 split at h
 ·rename_i h0;rw [if_pos h0,List.getElem?_map,h];rfl
 ·cases h
theorem yO {α:Type} {e:α→AV} (l:List α):(l.map e).length=l.length:=List.length_map _
theorem kR {α:Type} {e:α→AV} {l:List α} {b:Int} (h:b≤l.length):b≤(l.map e).length:=by rw [List.length_map];exact h
theorem zBv {α:Type} {e:α→AV} {l:List α} {b:Nat} (h:b≤l.length):b≤(l.map e).length:=by rw [List.length_map];exact h
theorem zEU {α:Type} {e:α→AV} (l:List α) (a b:Int):(sub l a b).map e=((l.map e).take b.toNat).drop a.toNat:=by simp [sub,List.map_drop,List.map_take]
theorem qH {α:Type} {e:α→AV} (l m:List α):(l++m).map e=l.map e++m.map e:=List.map_append
theorem zJa {α:Type} {e:α→AV} {n:Nat} {x:α}:(List.replicate n x).map e=List.replicate n (e x):=by simp
theorem zEL {α:Type} {e:α→AV} (l:List α) (i:Nat) (x:α):(l.set i x).map e=(l.map e).set i (e x):=by simp [List.map_set]
theorem xL {α:Type} {e:α→AV} {l:List α} {i:Int} {x:α} (h:y7 l i=some x):(l.map e)[i.toNat]?=some (e x):=by
 unfold y7 at h
 split at h
 ·rw [List.getElem?_map,h];rfl
 ·cases h
theorem xA {α:Type} {l:List α} {i:Int} {x:α} (h:y7 l i=some x):0≤i:=by
 unfold y7 at h;split at h
 ·assumption
 ·cases h
theorem y9 {α:Type} {l:List α} {i:Int} {x:α} (h:y7 l i=some x):i<l.length:=by
 unfold y7 at h;split at h
 ·rename_i h0
  rcases Nat.lt_or_ge i.toNat l.length with h' | h'
  ·omega
  ·rw [List.getElem?_eq_none h'] at h;cases h
 ·cases h
def cpy {α:Type} (L:List α) (lo hi:Nat) (m:List α):List α:=L.take lo++m.take (min m.length (hi - lo))++L.drop (lo+min m.length (hi - lo))
theorem zAD {α:Type} {L m:List α} {lo hi:Nat} (h1:lo≤hi) (h2:hi≤L.length):(cpy L lo hi m).length=L.length:=by
 simp only [cpy,List.length_append,List.length_take,List.length_drop];omega
theorem zF {α β:Type} {x:Option α} {f:α→Option β} {r:β} (h:x.bind f=some r):∃ a,x=some a∧f a=some r:=by
 cases x with
 | none=>cases h
 | some a=>exact ⟨a,rfl,h⟩
theorem zP {α:Type} {b:Bool} {x y z:α} (hb:b=true) (h:(bif b then x else y)=z):x=z:=by rw [hb] at h;exact h
theorem zQ {α:Type} {b:Bool} {x y z:α} (hb:b=false) (h:(bif b then x else y)=z):y=z:=by rw [hb] at h;exact h
def KS (np:Nat) (K:Exit→AS→Prop) (e:Exit) (st:AS):Prop:=∃ st2,Sub np st st2∧K e st2
theorem xX {P:Program} {N np:Nat} {c:Code} {K K1:Exit→AS→Prop} {st:AS} (h:AW P N np c K1 st) (hk:∀ e st,K1 e st→KS np K e st):AW P N np c K st:=by
 intro G a w hN hnp hR
 refine Code.wp_mono ?_ (h G a w hN hnp hR)
 rintro e a' w' ⟨st',h1,h2⟩
 obtain ⟨st2,h3,h4⟩:=hk e st' h1
 exact ⟨st2,h4,h3 G a' w' hnp h2⟩
theorem yN {P:Program} {N np:Nat} {c:Code} {K:Exit→AS→Prop} {st:AS} (S:AS) (h1:AW P N np c (fun e st'=>e=.normal∧Sub np st' S) st) (h2:K .normal S):AW P N np c K st :=
 xX h1 (by rintro e st' ⟨rfl,hs⟩;exact ⟨S,hs,h2⟩)
theorem Sub.refl (np:Nat) (st:AS):Sub np st st:=fun _ _ _ _ h=>h
theorem xK {P:Program} {N np:Nat} {c:Code} {K:Exit→AS→Prop} {st:AS} (I:Nat→AS→Prop) (n:Nat) (hc:c=.loop (Code.b c)) (h0:I n st) (hz:∀ st,¬ I 0 st)
  (h:∀ n st,I (n+1) st→AW P N np (Code.b c) (fun e st'=>match e with | .normal=>KS np (fun _ s=>I n s) .normal st' | e=>K e st') st):AW P N np c K st:=by
 refine zRn (fun n st=>∃ st2,Sub np st st2∧I n st2) n hc ⟨st,Sub.refl _ _,h0⟩ ?_
 rintro n st ⟨st2,hs,hI⟩
 cases n with
 | zero=>exact absurd hI (hz st2)
 | succ n =>
  refine zPE hs (zRQ (h n st2 hI) ?_)
  intro e st' hk
  cases e with
  | normal=>exact ⟨n,Nat.lt_succ_self n,hk⟩
  | _=>exact hk
end Go.Ab

/- More words for the printed proofs. -/
namespace Go.Ab
open Go
def yZ (f:Func):Code:=match f.body with | some c=>c | none=>.skip
def uG (P:Program) (fn:Func) (np:Nat) (post:List Box) (res:AV) (st:AS):Prop :=
 np≤post.length∧zMl P fn post.length st=some (res,post.map yM.live)
theorem ctr {α:Type} {g:Bool} {v x y:α} (h:g=true) (e:v=x):v=(bif g then x else y):=by rw [h];exact e
theorem cfr {α:Type} {g:Bool} {v x y:α} (h:g=false) (e:v=y):v=(bif g then x else y):=by rw [h];exact e
theorem tX {g v w:Bool} (h:g=true) (e:v=w):v=(g&&w):=by rw [h];simpa using e
theorem pA {g w:Bool} (h:g=false):false=(g&&w):=by rw [h];rfl
theorem ort {g w:Bool} (h:g=true):true=(g||w):=by rw [h];rfl
theorem orf {g v w:Bool} (h:g=false) (e:v=w):v=(g||w):=by rw [h];simpa using e
theorem zKf {α:Type} {e:α→AV} {l:List α} {i:Nat} {x:α} (h:l[i]?=some x):(l.map e)[i]?=some (e x):=by rw [List.getElem?_map,h];rfl
theorem zEq {α:Type} {e:α→AV} (l:List α) (a:Int):(sub l a (((l.length:Nat):Int))).map e=((l.map e).take ((((l.map e).length:Nat):Int)).toNat).drop a.toNat:=by
 simp only [sub,Int.toNat_natCast,List.take_length,List.map_drop]
theorem zNN {α:Type} {e:α→AV} (l m:List α) (a b:Nat):(l++(m.take a).drop b).map e=l.map e++((m.map e).take a).drop b:=by rw [List.map_append,List.map_drop,List.map_take]
theorem xU {α:Type} {a:α} {p:Prop} (h:(none:Option α)=some a):p:=by cases h
theorem wM {P:Program} {f:FuncId} {pre giv:List Box} {args args':List AV} {post:List Box} {res:AV} (h:zR P f pre giv args' post res) (h1:args'.all zFi=true) (hl:zAh (zGn args args')) :
  zR P f pre giv args post res:=by
 intro w I foot gp vals a1 a0 a2 a3 a4 a5 a6 a7
 obtain ⟨hlen,hr⟩:=zKy (zPb hl)
 refine h w I foot gp vals a1 a0 a2 a3 a4 a5 (a6.trans hlen) ?_
 intro j av hj
 have hlt:j<args.length:=by
  rw [hlen]
  rcases Nat.lt_or_ge j args'.length with h' | h'
  ·exact h'
  ·rw [List.getElem?_eq_none h'] at hj;cases hj
 exact zJZ (a7 j _ (List.getElem?_eq_getElem hlt)) (hr j _ av (List.getElem?_eq_getElem hlt) hj) (List.all_eq_true.1 h1 av (List.mem_of_getElem? hj))
end Go.Ab
