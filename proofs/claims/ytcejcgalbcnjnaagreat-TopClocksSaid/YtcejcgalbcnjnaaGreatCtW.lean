/- Lemmas. No conditions but those that they name. -/
import Derived.Test.YtcejcgalbcnjnaaGreatA37
namespace Go.Ab
open Go
def Ok {α:Type} (o:Option α) (P:α->Prop):Prop:=∃ a,o=some a/\P a
section
variable {α β:Type} {o:Option α} {P Q:α->Prop} {R:β->Prop} {f:α->Option β}
theorem yX (h:Ok o P) (hf:∀ a,P a->Ok (f a) R):Ok (o.bind f) R:=by
 obtain ⟨a,rfl,ha⟩:=h;exact hf a ha
theorem yB {a:α} (h:P a):Ok (some a) P:=⟨a,rfl,h⟩
theorem zLI (h:Ok o P) (hq:∀ a,P a->Q a):Ok o Q:=by
 obtain ⟨a,e,ha⟩:=h;exact ⟨a,e,hq a ha⟩
theorem zAl {a:α} (h:Ok o P) (e:o=some a):P a:=by
 obtain ⟨b,e',hb⟩:=h;rw [e] at e';injection e' with e';exact e' ▸ hb
theorem zI8 {a:α} (h:o=some a) (hp:P a):Ok o P:=⟨a,h,hp⟩
theorem pU {a:α} (h:o=some a) (hf:Ok (f a) R):Ok (o.bind f) R:=by rw [h];exact hf
theorem wP {p:Prop} [Decidable p] {f:Unit->Option β} (h:p) (hf:Ok (f ()) R):Ok ((need p).bind f) R:=by rw [tB h];exact hf
theorem vK {l:List α} {i:Int} (h0:0<=i) (h1:i<l.length) (hf:∀ x,l[i.toNat]?=some x->Ok (f x) R):Ok ((z0 l i).bind f) R:=by
 rw [WS h0]
 have:i.toNat<l.length:=by omega
 rw [w7 this];exact hf _ (w7 this)
theorem wO {l:List α} {i:Int} (hf:∀ x,l[i.toNat]?=some x->Ok (f x) R) (h0:0<=i:=by omega) (h1:i<l.length:=by omega):Ok ((z0 l i).bind f) R:=vK h0 h1 hf
theorem zJu {l:List α} {i:Nat} (h1:i<l.length) (hf:∀ x,l[i]?=some x->Ok (f x) R):Ok ((l[i]?).bind f) R:=by
 rw [w7 h1];exact hf _ (w7 h1)
theorem xV {p:Prop} [Decidable p] {a b:Option α} (h1:p->Ok a P) (h2:¬p->Ok b P):Ok (bif decide p then a else b) P:=by
 by_cases h:p
 ·rw [wE h];exact h1 h
 ·rw [xN h];exact h2 h
theorem vZ {c:Bool} {a b:Option α} (h1:c=true->Ok a P) (h2:c=false->Ok b P):Ok (bif c then a else b) P:=by
 cases c
 ·exact h2 rfl
 ·exact h1 rfl
end
theorem gN {σ R:Type} (L:Nat->σ->Option R) (Inv:σ->Prop) (Post:R->Prop) (μ:σ->Nat)
  (h:∀ n s,Inv s->(∀ s',Inv s'->μ s'<μ s->Ok (L n s') Post)->Ok (L (n+1) s) Post):∀ n s,Inv s->μ s<n->Ok (L n s) Post:=by
 intro n
 induction n with
 | zero=>intro s _ h;omega
 | succ n ih=>exact fun s hI hm=>h n s hI fun s' hI' hlt=>ih s' hI' (by omega)
theorem w5 {i:Int} (h0:0<=i:=by omega) (h:i<9000000000000000000:=by omega):zG (i+1)=i+1:=w64 (by omega) (by omega)
theorem o8 {i:Int} (h0:0<=i:=by omega) (h:i<9000000000000000000:=by omega):zG (i - 1)=i - 1:=w64 (by omega) (by omega)
theorem qT {α:Type} {l:List α} {i p:Nat} {v d:α} (h:i<l.length):(l.set i v).getD p d=if p=i then v else l.getD p d:=by
 rw [vQ,vQ,GG]
 by_cases e:i=p
 ·subst e;simp [h]
 ·rw [if_neg e,if_neg (fun h=>e h.symm)]
theorem getD_some {α:Type} {l:List α} {i:Nat} {x d:α} (h:l[i]?=some x):l.getD i d=x:=by rw [vQ,h];rfl
theorem jG {α:Type} {l:List α} {i:Nat} (d:α) (h:i<l.length):l[i]?=some (l.getD i d):=by
 rw [vQ,w7 h];rfl
end Go.Ab
