/- A layer over the model: abstract values and states, and the rules by which the printed proofs go. No conditions. -/
import Derived.Test.YtlnlcciflpncmaaA30
/- Loops over lists, as the printed functions have them. -/
namespace Go.Ab
open Go

/-- A loop over a list by its index: what it gives is a function of what is left. -/
theorem loopL {α σ R : Type} {l : List α} (L : Nat → Int → σ → Option R) (G : Nat → List α → σ → R) (Inv : Nat → σ → Prop)
    (he : ∀ n i s, l.length ≤ i → Inv i s → L (n + 1) (i : Nat) s = some (G i [] s))
    (hs : ∀ n i s x r, l.drop i = x :: r → i < l.length → Inv i s → (∀ s', Inv (i + 1) s' → L n ((i + 1 : Nat) : Int) s' = some (G (i + 1) r s')) → L (n + 1) (i : Nat) s = some (G i (x :: r) s)) :
    ∀ n i s, Inv i s → (l.drop i).length < n → L n (i : Nat) s = some (G i (l.drop i) s) := by
  intro n
  induction n with
  | zero => intro i s _ h; omega
  | succ n ih =>
    intro i s hI hn
    rcases hd : l.drop i with _ | ⟨x, r⟩
    · exact he n i s (drop_nil hd) hI
    · refine hs n i s x r hd (drop_lt hd) hI fun s' hI' => ?_
      have := ih (i + 1) s' hI' (by rw [drop_step hd]; rw [hd] at hn; simp only [List.length_cons] at hn; omega)
      rwa [drop_step hd] at this

/-- The same from the beginning. -/
theorem loopL0 {α σ R : Type} {l : List α} (L : Nat → Int → σ → Option R) (G : Nat → List α → σ → R) (Inv : Nat → σ → Prop)
    (he : ∀ n i s, l.length ≤ i → Inv i s → L (n + 1) (i : Nat) s = some (G i [] s))
    (hs : ∀ n i s x r, l.drop i = x :: r → i < l.length → Inv i s → (∀ s', Inv (i + 1) s' → L n ((i + 1 : Nat) : Int) s' = some (G (i + 1) r s')) → L (n + 1) (i : Nat) s = some (G i (x :: r) s))
    {n : Nat} {s : σ} (hI : Inv 0 s) (hn : l.length < n) : L n 0 s = some (G 0 l s) := by
  have := loopL L G Inv he hs n 0 s hI (by simpa using hn)
  simpa using this

theorem step64 {i : Nat} (h : i < 9223372036854775807) : w_i64 ((i : Int) + 1) = ((i + 1 : Nat) : Int) := by
  rw [w64 (by omega) (by omega)]; omega
theorem mem_drop {α : Type} {l : List α} {i : Nat} {x : α} {r : List α} (h : l.drop i = x :: r) : x ∈ l := List.mem_of_mem_drop (h ▸ List.mem_cons_self)
theorem idxL_prev {α : Type} {l : List α} {i : Nat} (h0 : 0 < i) (h : i < 9223372036854775807) : idxL l (w_i64 ((i : Int) - 1)) = l[i - 1]? := by
  rw [w64 (by omega) (by omega), show (i : Int) - 1 = ((i - 1 : Nat) : Int) by omega, idxL_nat]
/-- A search for the first that fails. -/
def firstBad {α : Type} {β : Type} (f : Nat → α → Option β) : Nat → List α → Unit ⊕ β
  | _, [] => .inl ()
  | i, x :: r => match f i x with
    | none => firstBad f (i + 1) r
    | some b => .inr b
end Go.Ab

/- Maps of the call's own: typed tables, and what the layer asks of them. -/
namespace Go.Ab
open Go

/-- An entry, as abstract values. -/
def mpE {α β : Type} (f : α → AV) (g : β → AV) (p : α × β) : AV × AV := (f p.1, g p.2)
/-- The value at a key. -/
def mget {α β : Type} [DecidableEq α] : List (α × β) → α → Option β
  | [], _ => none
  | p :: l, k => if p.1 = k then some p.2 else mget l k
/-- The table with a value at a key. -/
def mput {α β : Type} [DecidableEq α] : List (α × β) → α → β → List (α × β)
  | [], k, v => [(k, v)]
  | p :: l, k, v => if p.1 = k then (k, v) :: l else p :: mput l k v

section
variable {α β : Type} [DecidableEq α] {f : α → AV} {g : β → AV}
theorem mget_none {l : List (α × β)} {k : α} (h : mget l k = none) : ∀ p ∈ l, p.1 ≠ k := by
  induction l with
  | nil => intro p hp; cases hp
  | cons q l ih =>
    unfold mget at h
    split at h
    · cases h
    · rename_i hq
      intro p hp
      rcases List.mem_cons.1 hp with rfl | hp
      · exact hq
      · exact ih h p hp
theorem mget_some {l : List (α × β)} {k : α} {v : β} (h : mget l k = some v) : ∃ (i : Nat) (p : α × β), l[i]? = some p ∧ p.1 = k ∧ p.2 = v ∧ ∀ w, mput l k w = l.set i (k, w) := by
  induction l with
  | nil => cases h
  | cons q l ih =>
    unfold mget at h
    split at h
    · rename_i hq
      injection h with h
      exact ⟨0, q, rfl, hq, h, fun w => by simp [mput, hq]⟩
    · rename_i hq
      obtain ⟨i, p, h1, h2, h3, h4⟩ := ih h
      exact ⟨i + 1, p, by simpa using h1, h2, h3, fun w => by simp [mput, hq, h4]⟩
theorem mput_none {l : List (α × β)} {k : α} (h : ∀ p ∈ l, p.1 ≠ k) (v : β) : mput l k v = l ++ [(k, v)] := by
  induction l with
  | nil => rfl
  | cons q l ih =>
    unfold mput
    rw [if_neg (h q (List.mem_cons_self ..)), ih fun p hp => h p (List.mem_cons_of_mem _ hp)]; rfl
theorem mlook_map (hf : ∀ a b, f a = f b → a = b) (l : List (α × β)) (k : α) (z : β) : MLook (l.map (mpE f g)) (f k) (g z) (g ((mget l k).getD z)) (mget l k).isSome := by
  cases h : mget l k with
  | none =>
    refine .inr ⟨fun x hx => ?_, rfl, rfl⟩
    obtain ⟨p, hp, rfl⟩ := List.mem_map.1 hx
    exact fun e => mget_none h p hp (hf _ _ e)
  | some v =>
    obtain ⟨i, p, h1, h2, h3, _⟩ := mget_some h
    exact .inl ⟨i, mpE f g p, by rw [List.getElem?_map, h1]; rfl, by simp [mpE, h2], by simp [mpE, h3], rfl⟩
theorem mput_map (hf : ∀ a b, f a = f b → a = b) (l : List (α × β)) (k : α) (v : β) : MPut (l.map (mpE f g)) (f k) (g v) ((mput l k v).map (mpE f g)) := by
  cases h : mget l k with
  | none =>
    refine .inr ⟨fun x hx => ?_, ?_⟩
    · obtain ⟨p, hp, rfl⟩ := List.mem_map.1 hx
      exact fun e => mget_none h p hp (hf _ _ e)
    · rw [mput_none (mget_none h)]; simp [mpE]
  | some v0 =>
    obtain ⟨i, p, h1, h2, h3, h4⟩ := mget_some h
    exact .inl ⟨i, mpE f g p, by rw [List.getElem?_map, h1]; rfl, by simp [mpE, h2], by rw [h4, List.map_set]; rfl⟩
omit [DecidableEq α] in
theorem mlen_lt {l : List (α × β)} (h : l.length < 140737488355328) : (l.map (mpE f g)).length < maxLen := by
  rw [List.length_map, maxLen_eq]; omega
end

theorem vc_eqA {α : Type} [DecidableEq α] {f : α → AV} (hf : ∀ a b, f a = f b → a = b) (a b : α) : decide (a = b) = true ↔ f a = f b := by
  rw [decide_eq_true_iff]; exact ⟨fun h => by rw [h], hf a b⟩

theorem inj_str : ∀ a b : List Int, AV.str a = AV.str b → a = b := fun _ _ h => AV.str.inj h
theorem wf_of_wrap {k : IntKind} {n : Int} (h : k.wrap n = n) : (Lit.int k n).wf = true := by
  have := wrap_minmax h
  simp only [Lit.wf, Bool.and_eq_true, decide_eq_true_eq]; exact this
theorem keyOk_str {P : Program} {k : TypeId} (h : P.underlying k = some .string) : KeyOk P k false [.str] := by
  refine ⟨Maps.string_keyed h, fun w I T v a hr hm => ?_⟩
  cases a <;> simp [keyM, kcs, kc] at hm
  cases hr with
  | str h1 h2 => exact ⟨_, by simp [keyOf, h, mapKey, toBA, ByteArray.size, h2]; rfl⟩
end Go.Ab
