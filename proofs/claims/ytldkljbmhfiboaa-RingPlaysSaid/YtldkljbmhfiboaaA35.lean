/- Keys that are arrays or structs. -/
import Derived.Test.YtldkljbmhfiboaaA34
import Derived.DeepKeys4
namespace Go.Ab
open Go

def shFs (g : TypeId → Option (List KSh)) (cell : TypeId → Nat) : Nat → List Field → Option (List KSh)
  | _, [] => some []
  | o, f :: r =>
    match g f.type, shFs g cell (o + cell f.type) r with
    | some a, some b => bif Nat.beq f.offset o && (Nat.beq (cell f.type) a.length && (f.name != "_")) then some (a ++ b) else none
    | _, _ => none
/-- The kinds of a key's cells. -/
def keySh (P : Program) : Nat → TypeId → Option (List KSh)
  | 0, _ => none
  | d + 1, t =>
    match P.underlying t with
    | some .bool => some [.bool]
    | some (.int q) => some [.int q]
    | some .string => some [.str]
    | some (.array n e) =>
      match keySh P d e with
      | some ks => bif Nat.beq (P.cellsOf e) ks.length && Nat.beq (P.cellsOf t) (n * ks.length) then some (List.replicate n ks).flatten else none
      | none => none
    | some (.struct fs) =>
      match shFs (keySh P d) P.cellsOf 0 fs.toList with
      | some ks => bif Nat.beq (P.cellsOf t) ks.length then some ks else none
      | none => none
    | _ => none

def vk : KSh → Value → Prop
  | .int q, .int q' n => q' = q ∧ (Lit.int q n).wf = true
  | .bool, .bool _ => True
  | .str, .string s => s.size ≤ maxLen
  | _, _ => False
inductive VM : List KSh → List Value → Prop
  | nil : VM [] []
  | cons {k v ks vs} : vk k v → VM ks vs → VM (k :: ks) (v :: vs)

theorem VM.len {ks : List KSh} {cs : List Value} (h : VM ks cs) : ks.length = cs.length := by
  induction h with
  | nil => rfl
  | cons _ _ ih => simp [ih]
theorem VM.app {a b : List KSh} {cs : List Value} (h : VM (a ++ b) cs) : VM a (cs.take a.length) ∧ VM b (cs.drop a.length) := by
  induction a generalizing cs with
  | nil => exact ⟨by simpa using VM.nil, by simpa using h⟩
  | cons x a ih =>
    cases h with
    | cons h1 h2 =>
      obtain ⟨i1, i2⟩ := ih h2
      exact ⟨by simpa using VM.cons h1 i1, by simpa using i2⟩
theorem VM.part {ks : List KSh} : ∀ {n : Nat} {cs : List Value} {i : Nat}, VM (List.replicate n ks).flatten cs → i < n → VM ks ((cs.drop (i * ks.length)).take ks.length) := by
  intro n
  induction n with
  | zero => intro cs i _ h; omega
  | succ n ih =>
    intro cs i h hi
    rw [List.replicate_succ, List.flatten_cons] at h
    obtain ⟨h1, h2⟩ := h.app
    cases i with
    | zero => simpa using h1
    | succ i =>
      have := ih (i := i) h2 (by omega)
      rw [List.drop_drop] at this
      rw [Nat.add_mul, Nat.one_mul, Nat.add_comm]
      exact this
theorem mapM_some {α β : Type} {f : α → Option β} : ∀ (l : List α), (∀ x ∈ l, ∃ b, f x = some b) → ∃ bs, l.mapM f = some bs := by
  intro l
  induction l with
  | nil => intro _; exact ⟨[], rfl⟩
  | cons x l ih =>
    intro h
    obtain ⟨b, hb⟩ := h x (List.mem_cons_self ..)
    obtain ⟨bs, hbs⟩ := ih fun y hy => h y (List.mem_cons_of_mem _ hy)
    exact ⟨b :: bs, by simp [List.mapM_cons, hb, hbs]⟩
theorem shFs_spec {g : TypeId → Option (List KSh)} {cell : TypeId → Nat} : ∀ (fs : List Field) (o : Nat) (ks : List KSh) (cs : List Value), shFs g cell o fs = some ks → o ≤ cs.length → VM ks (cs.drop o) →
    ∀ f ∈ fs, (f.name != "_") = true ∧ ∃ a, g f.type = some a ∧ VM a ((cs.drop f.offset).take (cell f.type)) := by
  intro fs
  induction fs with
  | nil => intro o ks cs _ _ _ f hf; cases hf
  | cons x r ih =>
    intro o ks cs h ho hv f hf
    unfold shFs at h
    split at h
    case h_2 => cases h
    rename_i a b ha hb
    replace h := bif_some h; obtain ⟨hc, h⟩ := h
    simp only [Bool.and_eq_true] at hc
    have e1 := nbeq.1 hc.1
    have e2 := nbeq.1 hc.2.1
    injection h with h; subst h
    obtain ⟨v1, v2⟩ := hv.app
    rcases List.mem_cons.1 hf with rfl | hf
    · exact ⟨hc.2.2, a, ha, by rw [e1, e2]; exact v1⟩
    · have hl := hv.len
      rw [List.length_append, List.length_drop] at hl
      refine ih (o + cell x.type) b cs hb (by omega) ?_ f hf
      rw [List.drop_drop] at v2
      rw [e2]; exact v2
theorem keyLits_some {P : Program} : ∀ (d : Nat) (t : TypeId) (ks : List KSh) (cs : List Value), keySh P d t = some ks → VM ks cs → ∃ ls, P.keyLits d t cs = some ls := by
  intro d
  induction d with
  | zero => intro t ks cs h; cases h
  | succ d ih =>
    intro t ks cs h hv
    unfold keySh at h
    unfold Program.keyLits
    split at h
    · rename_i hu
      injection h with h; subst h
      cases hv with
      | cons h1 h2 => cases h2; rename_i v; cases v <;> simp [vk] at h1; rw [hu]; exact ⟨_, rfl⟩
    · rename_i q hu
      injection h with h; subst h
      cases hv with
      | cons h1 h2 => cases h2; rename_i v; cases v <;> simp [vk] at h1; rw [hu]; simp [h1]
    · rename_i hu
      injection h with h; subst h
      cases hv with
      | cons h1 h2 => cases h2; rename_i v; cases v <;> simp [vk] at h1; rw [hu]; simp [h1]
    · rename_i n e hu
      split at h
      case h_2 => cases h
      rename_i ks' hk
      replace h := bif_some h; obtain ⟨hc, h⟩ := h
      simp only [Bool.and_eq_true] at hc
      have e1 := nbeq.1 hc.1
      have e2 := nbeq.1 hc.2
      injection h with h; subst h
      have hl := hv.len
      have hl2 : (List.replicate n ks').flatten.length = n * ks'.length := by simp
      rw [hu]
      simp only
      rw [if_pos (by omega)]
      obtain ⟨bs, hbs⟩ := mapM_some (f := fun i => P.keyLits d e ((cs.drop (i * P.cellsOf e)).take (P.cellsOf e))) (List.range n) (fun i hi => by
        rw [e1]
        exact ih e ks' _ hk (hv.part (List.mem_range.1 hi)))
      rw [hbs]; exact ⟨_, rfl⟩
    · rename_i fs hu
      split at h
      case h_2 => cases h
      rename_i ks' hk
      replace h := bif_some h; obtain ⟨hc, h⟩ := h
      have e1 := nbeq.1 hc
      injection h with h; subst h
      have hl := hv.len
      have hspec := shFs_spec fs.toList 0 ks' cs hk (by omega) (by simpa using hv)
      rw [hu]
      simp only
      rw [if_pos ⟨by omega, by rw [← Array.all_toList]; exact List.all_eq_true.2 fun f hf => (hspec f hf).1⟩]
      obtain ⟨bs, hbs⟩ := mapM_some (f := fun f : Field => P.keyLits d f.type ((cs.drop f.offset).take (P.cellsOf f.type))) fs.toList (fun f hf => by
        obtain ⟨_, a, ha, hva⟩ := hspec f hf
        exact ih f.type a _ ha hva)
      rw [hbs]; exact ⟨_, rfl⟩
    · cases h

theorem kc_vk {w : World} {I : Nat → Prop} {T : Tbl} {v : Value} {a : AV} {k : KSh} (h : Rep w I T v a) (hk : kc k a = true) : vk k v := by
  cases k <;> cases a <;> simp [kc] at hk
  · subst hk
    cases h with
    | int hw => exact ⟨rfl, wf_of_wrap hw⟩
  · cases h; trivial
  · cases h with
    | str h1 h2 => simpa [vk, toBA, ByteArray.size] using h2
theorem kcs_VM {w : World} {I : Nat → Prop} {T : Tbl} : ∀ (ks : List KSh) (cs : List AV) (vs : List Value), kcs ks cs = true → vs.length = cs.length → (∀ (j : Nat) (c : AV) (v : Value), cs[j]? = some c → vs[j]? = some v → Rep w I T v c) → VM ks vs := by
  intro ks
  induction ks with
  | nil => intro cs vs h hl _; cases cs <;> simp [kcs] at h; simp at hl; subst hl; exact .nil
  | cons k r ih =>
    intro cs vs h hl hr
    cases cs with
    | nil => simp [kcs] at h
    | cons c s =>
      cases vs with
      | nil => simp at hl
      | cons v u =>
        simp only [kcs, Bool.and_eq_true] at h
        exact .cons (kc_vk (hr 0 c v rfl rfl) h.1) (ih s u h.2 (by simpa using hl) fun j c' v' hc hv => hr (j + 1) c' v' (by simpa using hc) (by simpa using hv))

def wideT (P : Program) (k : TypeId) : Bool := match P.underlying k with | some (.array _ _) | some (.struct _) => true | _ => false

theorem keyOk_agg {P : Program} {k : TypeId} {ks : List KSh} (hl : laidOutB P = true) (hw : wideT P k = true) (hk : (decide (k < P.types.size) && (P.keyTypeAt 100 k && (P.keyType k && Nat.beq (P.cellsOf k) ks.length))) = true) (hs : keySh P (P.types.size + 1) k = some ks) : KeyOk P k true ks := by
  simp only [Bool.and_eq_true, decide_eq_true_eq] at hk
  obtain ⟨k1, k2, k3, k4⟩ := hk
  have k4 := nbeq.1 k4
  refine ⟨Maps.Keyed.of_law (deep_law_laid hl (m := 100) (by omega) k1 k2 hw), fun w I T v a hr hm => ?_⟩
  by_cases ha : ∃ cs, a = .agg cs
  · obtain ⟨cs, rfl⟩ := ha
    simp only [keyM, Bool.and_eq_true] at hm
    obtain ⟨l1, _⟩ := kcs_spec hm.2
    cases hr with
    | agg s1 o1 r1 =>
      rename_i vs
      have hvm : VM ks vs.toList := kcs_VM ks cs vs.toList hm.2 (by simpa using s1) fun j c v hc hv => by
        have := r1 j c hc
        rw [Array.getElem?_toList] at hv
        rwa [Array.getD_eq_getD_getElem?, hv] at this
      obtain ⟨ls, hls⟩ := keyLits_some _ _ _ _ hs hvm
      have hf : (Value.agg vs).formed P k = true := by
        unfold wideT at hw
        unfold Value.formed
        split at hw
        · rename_i hu; rw [hu]; simp; omega
        · rename_i hu; rw [hu]; simp; omega
        · cases hw
      refine ⟨.string (keyBytes ls), ?_⟩
      unfold keyOf
      unfold wideT at hw
      split at hw
      · rename_i hu; rw [hu]; simp only [k3, hf, Bool.and_self, if_true]; simp only [Value.cells]; rw [hls]; rfl
      · rename_i hu; rw [hu]; simp only [k3, hf, Bool.and_self, if_true]; simp only [Value.cells]; rw [hls]; rfl
      · cases hw
  · have : (!true && kcs ks [a]) = true := by
      cases a <;> first | exact hm | exact absurd ⟨_, rfl⟩ ha
    simp at this
end Go.Ab
