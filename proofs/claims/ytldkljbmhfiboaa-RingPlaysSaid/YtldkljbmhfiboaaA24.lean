/- Words for the printed functions and their proofs. -/
import Derived.Test.YtldkljbmhfiboaaA23
namespace Go.Ab
open Go

abbrev w_i8 (x : Int) : Int := IntKind.i8.wrap x
abbrev w_i16 (x : Int) : Int := IntKind.i16.wrap x
abbrev w_i32 (x : Int) : Int := IntKind.i32.wrap x
abbrev w_i64 (x : Int) : Int := IntKind.i64.wrap x
abbrev w_u8 (x : Int) : Int := IntKind.u8.wrap x
abbrev w_u16 (x : Int) : Int := IntKind.u16.wrap x
abbrev w_u32 (x : Int) : Int := IntKind.u32.wrap x
abbrev w_u64 (x : Int) : Int := IntKind.u64.wrap x

def idxL {α : Type} (l : List α) (i : Int) : Option α := if 0 ≤ i then l[i.toNat]? else none
def sub {α : Type} (l : List α) (a b : Int) : List α := (l.take b.toNat).drop a.toNat
def need (p : Prop) [Decidable p] : Option Unit := if p then some () else none

theorem need_some {p : Prop} [Decidable p] {u : Unit} (h : need p = some u) : p := by
  unfold need at h; split at h
  · assumption
  · cases h

theorem vc_idx {α : Type} {e : α → AV} {l : List α} {i : Int} {x : α} (h : idxL l i = some x) : idxA (l.map e) i = some (e x) := by
  unfold idxL at h; unfold idxA
  split at h
  · rename_i h0; rw [if_pos h0, List.getElem?_map, h]; rfl
  · cases h

theorem vc_idxI {l : List Int} {i : Int} {x : Int} (h : idxL l i = some x) : idxI l i = some x := h

theorem vc_len {α : Type} {e : α → AV} (l : List α) : (l.map e).length = l.length := List.length_map _
theorem vc_lenle {α : Type} {e : α → AV} {l : List α} {b : Int} (h : b ≤ l.length) : b ≤ (l.map e).length := by rw [List.length_map]; exact h
theorem vc_lenle' {α : Type} {e : α → AV} {l : List α} {b : Nat} (h : b ≤ l.length) : b ≤ (l.map e).length := by rw [List.length_map]; exact h
theorem vc_leneq {α : Type} {e : α → AV} {l : List α} {b : Nat} (h : b = l.length) : b = (l.map e).length := by rw [List.length_map]; exact h
theorem vc_sub {α : Type} {e : α → AV} (l : List α) (a b : Int) : (sub l a b).map e = ((l.map e).take b.toNat).drop a.toNat := by simp [sub, List.map_drop, List.map_take]
theorem vc_app {α : Type} {e : α → AV} (l m : List α) : (l ++ m).map e = l.map e ++ m.map e := List.map_append
theorem vc_app1 {α : Type} {e : α → AV} (l : List α) (x : α) : (l ++ [x]).map e = l.map e ++ [e x] := by simp
theorem vc_room {α β : Type} {e : α → AV} {f : β → AV} {l : List α} {m : List β} {k c : Nat} (h : (l.length + m.length) * k ≤ c) : ((l.map e).length + (m.map f).length) * k ≤ c := by simpa using h
theorem vc_rep {α : Type} {e : α → AV} {n : Nat} {x : α} : (List.replicate n x).map e = List.replicate n (e x) := by simp
theorem vc_set {α : Type} {e : α → AV} (l : List α) (i : Nat) (x : α) : (l.set i x).map e = (l.map e).set i (e x) := by simp [List.map_set]
theorem vc_get {α : Type} {e : α → AV} {l : List α} {i : Int} {x : α} (h : idxL l i = some x) : (l.map e)[i.toNat]? = some (e x) := by
  unfold idxL at h
  split at h
  · rw [List.getElem?_map, h]; rfl
  · cases h
theorem idxL_lo {α : Type} {l : List α} {i : Int} {x : α} (h : idxL l i = some x) : 0 ≤ i := by
  unfold idxL at h; split at h
  · assumption
  · cases h
theorem idxL_hi {α : Type} {l : List α} {i : Int} {x : α} (h : idxL l i = some x) : i < l.length := by
  unfold idxL at h; split at h
  · rename_i h0
    rcases Nat.lt_or_ge i.toNat l.length with h' | h'
    · omega
    · rw [List.getElem?_eq_none h'] at h; cases h
  · cases h

/-- A part of a list written over. -/
def cpy {α : Type} (L : List α) (lo hi : Nat) (m : List α) : List α := L.take lo ++ m.take (min m.length (hi - lo)) ++ L.drop (lo + min m.length (hi - lo))
theorem cpy_len {α : Type} {L m : List α} {lo hi : Nat} (h1 : lo ≤ hi) (h2 : hi ≤ L.length) : (cpy L lo hi m).length = L.length := by
  simp only [cpy, List.length_append, List.length_take, List.length_drop]; omega
theorem set_len {α : Type} {l : List α} {i : Nat} {a : α} : (l.set i a).length = l.length := List.length_set

theorem bind_some {α β : Type} {x : Option α} {f : α → Option β} {r : β} (h : x.bind f = some r) : ∃ a, x = some a ∧ f a = some r := by
  cases x with
  | none => cases h
  | some a => exact ⟨a, rfl, h⟩

theorem cond_t {α : Type} {b : Bool} {x y z : α} (hb : b = true) (h : (bif b then x else y) = z) : x = z := by rw [hb] at h; exact h
theorem cond_f {α : Type} {b : Bool} {x y z : α} (hb : b = false) (h : (bif b then x else y) = z) : y = z := by rw [hb] at h; exact h

/-- An end that is seen otherwise. -/
def KS (np : Nat) (K : Exit → AS → Prop) (e : Exit) (st : AS) : Prop := ∃ st2, Sub np st st2 ∧ K e st2

theorem aw_conv {P : Program} {N np : Nat} {c : Code} {K K1 : Exit → AS → Prop} {st : AS} (h : AW P N np c K1 st) (hk : ∀ e st, K1 e st → KS np K e st) : AW P N np c K st := by
  intro G a w hN hnp hR
  refine Code.wp_mono ?_ (h G a w hN hnp hR)
  rintro e a' w' ⟨st', h1, h2⟩
  obtain ⟨st2, h3, h4⟩ := hk e st' h1
  exact ⟨st2, h4, h3 G a' w' hnp h2⟩

/-- Ways meet again. -/
theorem aw_mid {P : Program} {N np : Nat} {c : Code} {K : Exit → AS → Prop} {st : AS} (S : AS) (h1 : AW P N np c (fun e st' => e = .normal ∧ Sub np st' S) st) (h2 : K .normal S) : AW P N np c K st :=
  aw_conv h1 (by rintro e st' ⟨rfl, hs⟩; exact ⟨S, hs, h2⟩)

theorem Sub.refl (np : Nat) (st : AS) : Sub np st st := fun _ _ _ _ h => h

/-- A loop, its rounds counted by fuel. -/
theorem aw_loopF {P : Program} {N np : Nat} {c : Code} {K : Exit → AS → Prop} {st : AS} (I : Nat → AS → Prop) (n : Nat) (hc : c = .loop (Code.b c)) (h0 : I n st) (hz : ∀ st, ¬ I 0 st)
    (h : ∀ n st, I (n + 1) st → AW P N np (Code.b c) (fun e st' => match e with | .normal => KS np (fun _ s => I n s) .normal st' | e => K e st') st) : AW P N np c K st := by
  refine aw_loop (fun n st => ∃ st2, Sub np st st2 ∧ I n st2) n hc ⟨st, Sub.refl _ _, h0⟩ ?_
  rintro n st ⟨st2, hs, hI⟩
  cases n with
  | zero => exact absurd hI (hz st2)
  | succ n =>
    refine aw_sub hs (aw_mono (h n st2 hI) ?_)
    intro e st' hk
    cases e with
    | normal => exact ⟨n, Nat.lt_succ_self n, hk⟩
    | _ => exact hk
end Go.Ab
