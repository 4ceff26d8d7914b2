/- Structs and arrays compared. -/
import Derived.Test.YtdpgdpjoemdkjaaA33
import Derived.DeepKeys4
namespace Go.Ab
open Go
structure zCh (P:Program) (t:TypeId) (ks:List KSh):Prop where
 key:zAc P t true ks
 guard:P.eqGuardType P.depth t=false
 eq:∀ (w:World) (x y:Value) (lx ly:Lit),keyOf P t x=some lx→keyOf P t y=some ly→∃ r:Bool,(Op.equal t x y).run P w=.ok r w∧(r=true↔lx=ly)
theorem zMK {P:Program} {t:TypeId} {ks:List KSh} (K:zAc P t true ks) (hk:(P.keyTypeAt 100 t&&!(P.eqGuardType P.depth t))=true)
  (hw:(match P.underlying t with | some (.array _ _) | some (.struct _)=>true | _=>false)=true):zCh P t ks:=by
 simp only [Bool.and_eq_true,Bool.not_eq_true'] at hk
 exact ⟨K,hk.2,fun w x y lx ly hx hy=>run_equal_deep w (m:=100) (by omega) hk.1 hw hx hy⟩
def zQP (P:Program) (op:BinOp) (t:TypeId) (x y:AV) (h:x4):Option (List Prop×AV) :=
 match x,y with
 | .agg cs,.agg ds =>
  bif kcs h.mks cs&&kcs h.mks ds then
   match op with
   | .eql=>some ([zCh P t h.mks,(h.b=true↔AV.agg cs=AV.agg ds)],.bool h.b)
   | .neq=>some ([zCh P t h.mks,(h.b=true↔AV.agg cs=AV.agg ds)],.bool !h.b)
   | _=>none
  else none
 | _,_=>none
theorem zHE {P:Program} {op:BinOp} {t:TypeId} {x y:Operand} {w:World} {X Y:Array Value} (h:P.eqGuardType P.depth t=false) :
  (eqGuard op t x y (.agg X) (.agg Y)).run P w=.ok () w:=by
 unfold eqGuard
 cases op<;>simp [h]
theorem zNp {P:Program} {N np:Nat} {o:Oper} {op:BinOp} {t yT:TypeId} {x y:Operand} {rs:List (Nat×AV)} {hn:x4} {r:List Prop×AV}
  (ho:o.op=.binOp op t x y yT) (hx:xG x=true) (hy:xG y=true)
  (h:zQP P op t (yY rs x) (yY rs y) hn=some r) (hv:∀ p∈r.1,p) (hd:tB N o.dst=true) :
  vZ P N np o { rs:=rs,dst:=o.dst.map fun d=>(d,r.2) }:=by
 intro G st a w hN hnp hE ⟨T,hT⟩
 have hrx:=xI hT hE.1 hx
 have hry:=xI hT hE.1 hy
 unfold zQP at h
 split at h
 case h_2=>cases h
 rename_i cs ds hX hY
 rw [hX] at hrx
 rw [hY] at hry
 replace h:=yK h;obtain ⟨hc,h⟩:=h
 simp only [Bool.and_eq_true] at hc
 have m1:nQ true hn.mks (.agg cs)=true:=by simp [nQ,hc.1]
 have m2:nQ true hn.mks (.agg ds)=true:=by simp [nQ,hc.2]
 have key:∀ (K:zCh P t hn.mks),(hn.b=true↔AV.agg cs=AV.agg ds)→∃ X Y,a.eval x=.agg X∧a.eval y=.agg Y∧(Op.equal t (a.eval x) (a.eval y)).run P w=.ok hn.b w:=by
  intro K hb
  obtain ⟨lx,hlx⟩:=K.key.reads _ _ _ _ _ hrx m1
  obtain ⟨ly,hly⟩:=K.key.reads _ _ _ _ _ hry m2
  obtain ⟨q,hq,hiff⟩:=K.eq w _ _ lx ly hlx hly
  have e:q=hn.b:=by
   rw [Bool.eq_iff_iff,hiff,hb,← zGL hrx hry m1 m2]
   constructor
   ·intro h;subst h;exact K.key.keyed.inj hlx hly
   ·intro h;rw [h,hly] at hlx;injection hlx with hlx;exact hlx.symm
  generalize hvx:a.eval x=vx at *
  generalize hvy:a.eval y=vy at *
  cases hrx with
  | agg _ _ _ =>
   cases hry with
   | agg _ _ _=>exact ⟨_,_,rfl,rfl,e ▸ hq⟩
 split at h
 ·injection h with h;subst h
  have K:zCh P t hn.mks:=hv _ (by simp)
  obtain ⟨X,Y,e1,e2,hrun⟩:=key K (hv _ (by simp))
  rw [e1,e2] at hrun
  refine vD (t7 (v:=.bool hn.b) ho e1 e2 (zHE K.guard) (by simp [binOp,hrun,Result.andThen])) (hT.quiet (uJ w) rfl (by simp [Option.map_map,Function.comp_def]) ?_)
  intro d av' he'
  obtain ⟨hlt,rfl⟩:=uD hd he'
  exact ⟨by omega,.bool⟩
 ·injection h with h;subst h
  have K:zCh P t hn.mks:=hv _ (by simp)
  obtain ⟨X,Y,e1,e2,hrun⟩:=key K (hv _ (by simp))
  rw [e1,e2] at hrun
  refine vD (t7 (v:=.bool !hn.b) ho e1 e2 (zHE K.guard) (by simp [binOp,hrun,Result.andThen])) (hT.quiet (uJ w) rfl (by simp [Option.map_map,Function.comp_def]) ?_)
  intro d av' he'
  obtain ⟨hlt,rfl⟩:=uD hd he'
  exact ⟨by omega,.bool⟩
 ·cases h
end Go.Ab
