/- Lemmas. No conditions but those that they name. -/
import Derived.Test.YtcejcgalbcnjnaaGreatA37
namespace Go.Ab
open Go
theorem J2 {α:Type} [DecidableEq α] {a b:List α} (L:Nat->Int->Option (Unit⊕Bool)) (hab:a.length=b.length) (hl:a.length<=140737488355328)
  (h0:∀ n i,a.length<=i->L (n+1) (i:Nat)=some (.inl ()))
  (h1:∀ n i x y r r2,a.drop i=x::r->b.drop i=y::r2->i<a.length->L (n+1) (i:Nat)=if x=y then L n ((i+1:Nat):Int) else some (.inr false)) :
  L 281474976710656 0=some (if a=b then .inl () else .inr false):=by
 have key:∀ (n i:Nat),(a.drop i).length<n->L n (i:Int)=some (if a.drop i=b.drop i then .inl () else .inr false):=by
  intro n
  induction n with
  | zero=>intro i h;omega
  | succ n ih =>
   intro i hn;rcases hd:a.drop i with _ | ⟨x,r⟩
   ·have:=fM hd
    rw [h0 n i this,zBz (show b.length<=i by omega),if_pos rfl]
   rcases hd2:b.drop i with _ | ⟨y,r2⟩
   ·have:=fM hd2;have:=fL hd;omega
   rw [hd] at hn;simp only [zlc] at hn;rw [h1 n i x y r r2 hd hd2 (fL hd)]
   have:=ih (i+1) (by rw [nN hd];omega)
   rw [nN hd,nN hd2] at this
   by_cases hxy:x=y
   ·rw [if_pos hxy,this];simp [hxy]
   ·rw [if_neg hxy,if_neg (by simp [hxy])]
 have:=key 281474976710656 0 (by simp;omega)
 simpa using this
end Go.Ab
