/- Structs and arrays compared. -/
import Derived.Test.YtldkljbmhfiboaaA33
import Derived.DeepKeys4
namespace Go.Ab
open Go

/-- What is asked of a type whose values are compared. -/
structure EqOk (P : Program) (t : TypeId) (ks : List KSh) : Prop where
  key : KeyOk P t true ks
  guard : P.eqGuardType P.depth t = false
  eq : ∀ (w : World) (x y : Value) (lx ly : Lit), keyOf P t x = some lx → keyOf P t y = some ly → ∃ r : Bool, (Op.equal t x y).run P w = .ok r w ∧ (r = true ↔ lx = ly)

theorem eqOk_agg {P : Program} {t : TypeId} {ks : List KSh} (K : KeyOk P t true ks) (hk : (P.keyTypeAt 100 t && !(P.eqGuardType P.depth t)) = true)
    (hw : (match P.underlying t with | some (.array _ _) | some (.struct _) => true | _ => false) = true) : EqOk P t ks := by
  simp only [Bool.and_eq_true, Bool.not_eq_true'] at hk
  exact ⟨K, hk.2, fun w x y lx ly hx hy => run_equal_deep w (m := 100) (by omega) hk.1 hw hx hy⟩

def beq2 (P : Program) (op : BinOp) (t : TypeId) (x y : AV) (h : Hint) : Option (List Prop × AV) :=
  match x, y with
  | .agg cs, .agg ds =>
    bif kcs h.mks cs && kcs h.mks ds then
      match op with
      | .eql => some ([EqOk P t h.mks, (h.b = true ↔ AV.agg cs = AV.agg ds)], .bool h.b)
      | .neq => some ([EqOk P t h.mks, (h.b = true ↔ AV.agg cs = AV.agg ds)], .bool !h.b)
      | _ => none
    else none
  | _, _ => none

theorem eqGuard_agg {P : Program} {op : BinOp} {t : TypeId} {x y : Operand} {w : World} {X Y : Array Value} (h : P.eqGuardType P.depth t = false) :
    (eqGuard op t x y (.agg X) (.agg Y)).run P w = .ok () w := by
  unfold eqGuard
  cases op <;> simp [h]

theorem beq2_opSound {P : Program} {N np : Nat} {o : Oper} {op : BinOp} {t yT : TypeId} {x y : Operand} {rs : List (Nat × AV)} {hn : Hint} {r : List Prop × AV}
    (ho : o.op = .binOp op t x y yT) (hx : opOk x = true) (hy : opOk y = true)
    (h : beq2 P op t (evalIn rs x) (evalIn rs y) hn = some r) (hv : ∀ p ∈ r.1, p) (hd : dstOk N o.dst = true) :
    OpSound P N np o { rs := rs, dst := o.dst.map fun d => (d, r.2) } := by
  intro G st a w hN hnp hE ⟨T, hT⟩
  have hrx := evalIn_rep hT hE.1 hx
  have hry := evalIn_rep hT hE.1 hy
  unfold beq2 at h
  split at h
  case h_2 => cases h
  rename_i cs ds hX hY
  rw [hX] at hrx
  rw [hY] at hry
  replace h := bif_some h; obtain ⟨hc, h⟩ := h
  simp only [Bool.and_eq_true] at hc
  have m1 : keyM true hn.mks (.agg cs) = true := by simp [keyM, hc.1]
  have m2 : keyM true hn.mks (.agg ds) = true := by simp [keyM, hc.2]
  have key : ∀ (K : EqOk P t hn.mks), (hn.b = true ↔ AV.agg cs = AV.agg ds) → ∃ X Y, a.eval x = .agg X ∧ a.eval y = .agg Y ∧ (Op.equal t (a.eval x) (a.eval y)).run P w = .ok hn.b w := by
    intro K hb
    obtain ⟨lx, hlx⟩ := K.key.reads _ _ _ _ _ hrx m1
    obtain ⟨ly, hly⟩ := K.key.reads _ _ _ _ _ hry m2
    obtain ⟨q, hq, hiff⟩ := K.eq w _ _ lx ly hlx hly
    have e : q = hn.b := by
      rw [Bool.eq_iff_iff, hiff, hb, ← key_eq hrx hry m1 m2]
      constructor
      · intro h; subst h; exact K.key.keyed.inj hlx hly
      · intro h; rw [h, hly] at hlx; injection hlx with hlx; exact hlx.symm
    generalize hvx : a.eval x = vx at *
    generalize hvy : a.eval y = vy at *
    cases hrx with
    | agg _ _ _ =>
      cases hry with
      | agg _ _ _ => exact ⟨_, _, rfl, rfl, e ▸ hq⟩
  split at h
  · injection h with h; subst h
    have K : EqOk P t hn.mks := hv _ (by simp)
    obtain ⟨X, Y, e1, e2, hrun⟩ := key K (hv _ (by simp))
    rw [e1, e2] at hrun
    refine wp_value (run_exec_bin (v := .bool hn.b) ho e1 e2 (eqGuard_agg K.guard) (by simp [binOp, hrun, Result.andThen])) (hT.quiet (grown_refl w) rfl (by simp [Option.map_map, Function.comp_def]) ?_)
    intro d av' he'
    obtain ⟨hlt, rfl⟩ := dst_lt hd he'
    exact ⟨by omega, .bool⟩
  · injection h with h; subst h
    have K : EqOk P t hn.mks := hv _ (by simp)
    obtain ⟨X, Y, e1, e2, hrun⟩ := key K (hv _ (by simp))
    rw [e1, e2] at hrun
    refine wp_value (run_exec_bin (v := .bool !hn.b) ho e1 e2 (eqGuard_agg K.guard) (by simp [binOp, hrun, Result.andThen])) (hT.quiet (grown_refl w) rfl (by simp [Option.map_map, Function.comp_def]) ?_)
    intro d av' he'
    obtain ⟨hlt, rfl⟩ := dst_lt hd he'
    exact ⟨by omega, .bool⟩
  · cases h
end Go.Ab
