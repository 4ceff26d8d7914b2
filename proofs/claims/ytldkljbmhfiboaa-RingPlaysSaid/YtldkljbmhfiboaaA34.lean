/- Maps of the call's own: typed tables, and what the layer asks of them. -/
import Derived.Test.YtldkljbmhfiboaaA32
namespace Go.Ab
open Go

/-- An entry, as abstract values. -/
def mpE {α β : Type} (f : α → AV) (g : β → AV) (p : α × β) : AV × AV := (f p.1, g p.2)
/-- The value at a key. -/
def mget {α β : Type} [DecidableEq α] : List (α × β) → α → Option β
  | [], _ => none
  | p :: l, k => if p.1 = k then some p.2 else mget l k
/-- The table with a value at a key. -/
def mput {α β : Type} [DecidableEq α] : List (α × β) → α → β → List (α × β)
  | [], k, v => [(k, v)]
  | p :: l, k, v => if p.1 = k then (k, v) :: l else p :: mput l k v

section
variable {α β : Type} [DecidableEq α] {f : α → AV} {g : β → AV}
theorem mget_none {l : List (α × β)} {k : α} (h : mget l k = none) : ∀ p ∈ l, p.1 ≠ k := by
  induction l with
  | nil => intro p hp; cases hp
  | cons q l ih =>
    unfold mget at h
    split at h
    · cases h
    · rename_i hq
      intro p hp
      rcases List.mem_cons.1 hp with rfl | hp
      · exact hq
      · exact ih h p hp
theorem mget_some {l : List (α × β)} {k : α} {v : β} (h : mget l k = some v) : ∃ (i : Nat) (p : α × β), l[i]? = some p ∧ p.1 = k ∧ p.2 = v ∧ ∀ w, mput l k w = l.set i (k, w) := by
  induction l with
  | nil => cases h
  | cons q l ih =>
    unfold mget at h
    split at h
    · rename_i hq
      injection h with h
      exact ⟨0, q, rfl, hq, h, fun w => by simp [mput, hq]⟩
    · rename_i hq
      obtain ⟨i, p, h1, h2, h3, h4⟩ := ih h
      exact ⟨i + 1, p, by simpa using h1, h2, h3, fun w => by simp [mput, hq, h4]⟩
theorem mput_none {l : List (α × β)} {k : α} (h : ∀ p ∈ l, p.1 ≠ k) (v : β) : mput l k v = l ++ [(k, v)] := by
  induction l with
  | nil => rfl
  | cons q l ih =>
    unfold mput
    rw [if_neg (h q (List.mem_cons_self ..)), ih fun p hp => h p (List.mem_cons_of_mem _ hp)]; rfl
theorem mlook_map (hf : ∀ a b, f a = f b → a = b) (l : List (α × β)) (k : α) (z : β) : MLook (l.map (mpE f g)) (f k) (g z) (g ((mget l k).getD z)) (mget l k).isSome := by
  cases h : mget l k with
  | none =>
    refine .inr ⟨fun x hx => ?_, rfl, rfl⟩
    obtain ⟨p, hp, rfl⟩ := List.mem_map.1 hx
    exact fun e => mget_none h p hp (hf _ _ e)
  | some v =>
    obtain ⟨i, p, h1, h2, h3, _⟩ := mget_some h
    exact .inl ⟨i, mpE f g p, by rw [List.getElem?_map, h1]; rfl, by simp [mpE, h2], by simp [mpE, h3], rfl⟩
theorem mput_map (hf : ∀ a b, f a = f b → a = b) (l : List (α × β)) (k : α) (v : β) : MPut (l.map (mpE f g)) (f k) (g v) ((mput l k v).map (mpE f g)) := by
  cases h : mget l k with
  | none =>
    refine .inr ⟨fun x hx => ?_, ?_⟩
    · obtain ⟨p, hp, rfl⟩ := List.mem_map.1 hx
      exact fun e => mget_none h p hp (hf _ _ e)
    · rw [mput_none (mget_none h)]; simp [mpE]
  | some v0 =>
    obtain ⟨i, p, h1, h2, h3, h4⟩ := mget_some h
    exact .inl ⟨i, mpE f g p, by rw [List.getElem?_map, h1]; rfl, by simp [mpE, h2], by rw [h4, List.map_set]; rfl⟩
omit [DecidableEq α] in
theorem mlen_lt {l : List (α × β)} (h : l.length < 140737488355328) : (l.map (mpE f g)).length < maxLen := by
  rw [List.length_map, maxLen_eq]; omega
end

theorem vc_eqA {α : Type} [DecidableEq α] {f : α → AV} (hf : ∀ a b, f a = f b → a = b) (a b : α) : decide (a = b) = true ↔ f a = f b := by
  rw [decide_eq_true_iff]; exact ⟨fun h => by rw [h], hf a b⟩

theorem inj_int {k : IntKind} : ∀ a b : Int, AV.int k a = AV.int k b → a = b := fun _ _ h => (AV.int.inj h).2
theorem inj_str : ∀ a b : List Int, AV.str a = AV.str b → a = b := fun _ _ h => AV.str.inj h
theorem inj_bool : ∀ a b : Bool, AV.bool a = AV.bool b → a = b := fun _ _ h => AV.bool.inj h

theorem wf_of_wrap {k : IntKind} {n : Int} (h : k.wrap n = n) : (Lit.int k n).wf = true := by
  have := wrap_minmax h
  simp only [Lit.wf, Bool.and_eq_true, decide_eq_true_eq]; exact this
theorem keyOk_int {P : Program} {k : TypeId} {q : IntKind} (h : P.underlying k = some (.int q)) : KeyOk P k false [.int q] := by
  refine ⟨Maps.int_keyed h, fun w I T v a hr hm => ?_⟩
  cases a <;> simp [keyM, kcs, kc] at hm
  subst hm
  cases hr with
  | int hw => exact ⟨_, Maps.keyOf_int_mk h (wf_of_wrap hw)⟩
theorem keyOk_bool {P : Program} {k : TypeId} (h : P.underlying k = some .bool) : KeyOk P k false [.bool] := by
  refine ⟨Maps.bool_keyed h, fun w I T v a hr hm => ?_⟩
  cases a <;> simp [keyM, kcs, kc] at hm
  cases hr
  exact ⟨_, Maps.keyOf_bool_mk h _⟩
theorem keyOk_str {P : Program} {k : TypeId} (h : P.underlying k = some .string) : KeyOk P k false [.str] := by
  refine ⟨Maps.string_keyed h, fun w I T v a hr hm => ?_⟩
  cases a <;> simp [keyM, kcs, kc] at hm
  cases hr with
  | str h1 h2 => exact ⟨_, by simp [keyOf, h, mapKey, toBA, ByteArray.size, h2]; rfl⟩
end Go.Ab
