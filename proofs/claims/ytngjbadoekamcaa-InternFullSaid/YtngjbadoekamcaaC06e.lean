/- Stack, and what a check that passes says. -/
import Derived.Test.YtngjbadoekamcaaC06d
namespace Go.Ab
open Go
set_option linter.unusedVariables false

def dsF (l : List Arr2_Int) : List Int := l.foldl (fun ds p => ds ++ [1 + dOf ds p.c0]) []
theorem foldl_len : ∀ (l : List Arr2_Int) (ds : List Int), (l.foldl (fun ds p => ds ++ [1 + dOf ds p.c0]) ds).length = ds.length + l.length := by
  intro l
  induction l with
  | nil => intro ds; rfl
  | cons p r ih => intro ds; rw [List.foldl_cons, ih]; simp; omega
theorem dsF_len (l : List Arr2_Int) : (dsF l).length = l.length := by simp [dsF, foldl_len]
theorem dsF_snoc (l : List Arr2_Int) (p : Arr2_Int) : dsF (l ++ [p]) = dsF l ++ [1 + dOf (dsF l) p.c0] := by simp [dsF]
theorem namesS_zero : ∀ (l seen : List (List Int)), namesS seen l = 0 ↔ (∀ x ∈ l, nameS x = 0 ∧ x ∉ seen) ∧ l.Nodup := by
  intro l
  induction l with
  | nil => intro seen; simp [namesS]
  | cons x r ih =>
    intro seen
    simp only [namesS]
    by_cases h : nameS x ≠ 0
    · rw [if_pos h]; simp [h]
    rw [if_neg h]
    by_cases h2 : x ∈ seen
    · rw [if_pos h2]; simp [h2]
    rw [if_neg h2, ih]
    simp only [List.mem_cons, List.nodup_cons, forall_eq_or_imp, List.mem_append, List.not_mem_nil, or_false, not_or]
    constructor
    · rintro ⟨h3, h4⟩
      exact ⟨⟨⟨by omega, h2⟩, fun y hy => ⟨(h3 y hy).1, (h3 y hy).2.1⟩⟩, fun hx => (h3 x hx).2.2 rfl, h4⟩
    · rintro ⟨⟨_, h3⟩, h4, h5⟩
      exact ⟨fun y hy => ⟨(h3 y hy).1, (h3 y hy).2, fun e => h4 (e ▸ hy)⟩, h5⟩
structure PairOk (nn k : Nat) (ds : List Int) (seen : List Arr2_Int) (p : Arr2_Int) : Prop where
  lo : -1 ≤ p.c0
  hi : p.c0 < k
  lo1 : 0 ≤ p.c1
  hi1 : p.c1 < nn
  new : p ∉ seen
  deep : 1 + dOf ds p.c0 ≤ 32
theorem stackS_snoc {nn : Nat} : ∀ (r : List Arr2_Int) (ds : List Int) (seen : List Arr2_Int) (p : Arr2_Int), stackS nn ds seen (r ++ [p]) = 0 ↔ stackS nn ds seen r = 0 ∧ PairOk nn (seen ++ r).length (r.foldl (fun ds p => ds ++ [1 + dOf ds p.c0]) ds) (seen ++ r) p := by
  intro r
  induction r with
  | nil =>
    intro ds seen p
    simp only [List.nil_append, stackS, List.append_nil, List.foldl_nil, true_and]
    constructor
    · intro h
      split at h
      · cases h
      split at h
      · cases h
      split at h
      · cases h
      exact ⟨by omega, by omega, by omega, by omega, by assumption, by omega⟩
    · rintro ⟨h1, h2, h3, h4, h5, h6⟩
      rw [if_neg (by omega), if_neg h5, if_neg (by omega)]
  | cons q r ih =>
    intro ds seen p
    simp only [List.cons_append, stackS, List.foldl_cons]
    split
    · simp
    split
    · simp
    split
    · simp
    rw [ih]; simp
theorem stackS_mono {nn mm : Nat} (h : nn ≤ mm) : ∀ (r : List Arr2_Int) (ds : List Int) (seen : List Arr2_Int), stackS nn ds seen r = 0 → stackS mm ds seen r = 0 := by
  intro r
  induction r with
  | nil => intro ds seen _; rfl
  | cons q r ih =>
    intro ds seen hz
    simp only [stackS] at hz ⊢
    split at hz
    · cases hz
    rename_i h1
    rw [if_neg (by omega)]
    split at hz
    · cases hz
    rename_i h2
    rw [if_neg h2]
    split at hz
    · cases hz
    rename_i h3
    rw [if_neg h3]
    exact ih _ _ hz
structure Good (n : List (List Int)) (s : List Arr2_Int) : Prop where
  n1 : n.length ≤ 1000
  s1 : s.length ≤ 1000
  names : namesS [] n = 0
  st : stackS n.length [] [] s = 0
theorem good_iff {n : List (List Int)} {s : List Arr2_Int} : checkS n s = 0 ↔ Good n s := by
  unfold checkS
  constructor
  · intro h
    split at h
    · cases h
    split at h
    · omega
    exact ⟨by omega, by omega, by omega, h⟩
  · rintro ⟨h1, h2, h3, h4⟩
    rw [if_neg (by omega), if_neg (by omega), h4]
theorem Good.nodup {n : List (List Int)} {s : List Arr2_Int} (h : Good n s) : n.Nodup := ((namesS_zero _ _).1 h.names).2
theorem Good.valid {n : List (List Int)} {s : List Arr2_Int} (h : Good n s) {x : List Int} (hx : x ∈ n) : nameS x = 0 := (((namesS_zero _ _).1 h.names).1 x hx).1
theorem Good.name {n : List (List Int)} {s : List Arr2_Int} (h : Good n s) {x : List Int} (hx : nameS x = 0) (hn : x ∉ n) (hl : n.length < 1000) : Good (n ++ [x]) s := by
  refine ⟨by simp; omega, h.s1, ?_, stackS_mono (by simp) _ _ _ h.st⟩
  rw [namesS_zero]
  have h2 := (namesS_zero _ _).1 h.names
  refine ⟨fun y hy => ⟨?_, by simp⟩, ?_⟩
  · rcases List.mem_append.1 hy with hy | hy
    · exact h.valid hy
    · simp at hy; rw [hy]; exact hx
  · rw [List.nodup_append]
    exact ⟨h.nodup, by simp, fun a ha b hb => by simp at hb; rw [hb]; exact fun e => hn (e ▸ ha)⟩
theorem Good.push {n : List (List Int)} {s : List Arr2_Int} {p : Arr2_Int} (h : Good n s) (hp : PairOk n.length s.length (dsF s) s p) (hl : s.length < 1000) : Good n (s ++ [p]) :=
  ⟨h.n1, by simp; omega, h.names, by rw [stackS_snoc]; exact ⟨h.st, by rw [List.nil_append]; exact hp⟩⟩
/-- All pairs of a good table, one after the other. -/
theorem stackS_pairs {nn : Nat} (s : List Arr2_Int) (h : stackS nn [] [] s = 0) : ∀ (i : Nat), i < s.length → ∃ p, s[i]? = some p ∧ PairOk nn i (dsF (s.take i)) (s.take i) p := by
  intro i hi
  have e : s = s.take i ++ (s[i] :: s.drop (i + 1)) := by simp
  have : ∀ (m : Nat) (r : List Arr2_Int), r.length = m → stackS nn [] [] (s.take i ++ s[i] :: r) = 0 → stackS nn [] [] (s.take i ++ [s[i]]) = 0 := by
    intro m
    induction m with
    | zero => intro r hr h; rw [List.length_eq_zero_iff.1 hr] at h; exact h
    | succ m ih =>
      intro r hr h
      rcases List.eq_nil_or_concat r with h0 | ⟨r', y, h0⟩
      · rw [h0] at hr; simp at hr
      · rw [h0] at h hr
        simp at hr
        rw [show s.take i ++ s[i] :: r'.concat y = (s.take i ++ s[i] :: r') ++ [y] by simp] at h
        exact ih r' hr ((stackS_snoc _ _ _ _).1 h).1
  have h2 := (stackS_snoc _ _ _ _).1 (this _ _ rfl (by rw [← e]; exact h))
  refine ⟨s[i], List.getElem?_eq_getElem hi, ?_⟩
  have h3 := h2.2
  simp only [List.nil_append, List.length_take, Nat.min_eq_left (Nat.le_of_lt hi)] at h3
  exact h3
theorem dsF_take (s : List Arr2_Int) (i : Nat) : dsF (s.take i) = (dsF s).take i := by
  induction i with
  | zero => rfl
  | succ i ih =>
    rcases hd : s.drop i with _ | ⟨x, r⟩
    · have := drop_nil hd
      rw [List.take_of_length_le (by omega), List.take_of_length_le (by rw [dsF_len]; omega)]
    · have e : s = s.take i ++ ([x] ++ r) := by rw [List.singleton_append, ← hd, List.take_append_drop]
      have hlt := drop_lt hd
      have e2 : ∃ t, dsF s = dsF (s.take i ++ [x]) ++ t := by
        have hg : ∀ (r : List Arr2_Int) (ds : List Int), ∃ t, r.foldl (fun ds p => ds ++ [1 + dOf ds p.c0]) ds = ds ++ t := by
          intro r
          induction r with
          | nil => intro ds; exact ⟨[], by simp⟩
          | cons y r ih2 => intro ds; obtain ⟨t, ht⟩ := ih2 (ds ++ [1 + dOf ds y.c0]); exact ⟨_, by rw [List.foldl_cons, ht, List.append_assoc]⟩
        have : dsF s = r.foldl (fun ds p => ds ++ [1 + dOf ds p.c0]) (dsF (s.take i ++ [x])) := by
          have h3 : dsF (s.take i ++ [x] ++ r) = r.foldl (fun ds p => ds ++ [1 + dOf ds p.c0]) (dsF (s.take i ++ [x])) := by unfold dsF; rw [List.foldl_append]
          rwa [List.append_assoc, ← e] at h3
        rw [this]; exact hg _ _
      obtain ⟨t, ht⟩ := e2
      rw [take_step hd, ht, List.take_append_of_le_length (by simp [dsF_len]; omega)]
      exact (List.take_of_length_le (by simp [dsF_len]; omega)).symm
theorem dOf_take {ds : List Int} {i : Nat} {c : Int} (h : c < i) (h0 : -1 ≤ c) : dOf (ds.take i) c = dOf ds c := by
  unfold dOf
  split
  · rfl
  · rw [List.getElem?_take_of_lt (by omega)]
theorem Good.pair {n : List (List Int)} {s : List Arr2_Int} (h : Good n s) {i : Nat} {p : Arr2_Int} (hp : s[i]? = some p) :
    -1 ≤ p.c0 ∧ p.c0 < i ∧ 0 ≤ p.c1 ∧ p.c1 < n.length ∧ dOf (dsF s) (i : Int) = 1 + dOf (dsF s) p.c0 ∧ dOf (dsF s) (i : Int) ≤ 32 ∧ p ∉ s.take i := by
  have hi : i < s.length := (List.getElem?_eq_some_iff.1 hp).1
  obtain ⟨q, hq, h1, h2, h3, h4, h5, h6⟩ := stackS_pairs s h.st i hi
  rw [hp] at hq; injection hq with hq; subst hq
  rw [dsF_take, dOf_take h2 h1] at h6
  have e : dOf (dsF s) (i : Int) = 1 + dOf (dsF s) p.c0 := by
    have e1 : dsF (s.take (i + 1)) = dsF (s.take i) ++ [1 + dOf (dsF (s.take i)) p.c0] := by
      rw [List.take_add_one, hp]; exact dsF_snoc _ _
    have e2 : (dsF s)[i]? = some (1 + dOf (dsF s) p.c0) := by
      have : ((dsF s).take (i + 1))[i]? = (dsF s)[i]? := List.getElem?_take_of_lt (by omega)
      rw [← this, ← dsF_take, e1, dsF_take, dOf_take h2 h1]
      have hl : ((dsF s).take i).length = i := by rw [List.length_take, dsF_len]; omega
      rw [List.getElem?_append_right (by omega), hl]; simp
    unfold dOf
    rw [if_neg (by omega), Int.toNat_natCast, e2]; rfl
  exact ⟨h1, h2, h3, h4, e, by omega, h5⟩
theorem Good.snodup {n : List (List Int)} {s : List Arr2_Int} (h : Good n s) {i j : Nat} {p : Arr2_Int} (hi : s[i]? = some p) (hj : s[j]? = some p) : i = j := by
  rcases Nat.lt_trichotomy i j with hlt | he | hlt
  · exact absurd (List.mem_of_getElem? (show (s.take j)[i]? = some p by rw [List.getElem?_take_of_lt hlt]; exact hi)) (h.pair hj).2.2.2.2.2.2
  · exact he
  · exact absurd (List.mem_of_getElem? (show (s.take i)[j]? = some p by rw [List.getElem?_take_of_lt hlt]; exact hj)) (h.pair hi).2.2.2.2.2.2
theorem Good.depth0 {n : List (List Int)} {s : List Arr2_Int} (h : Good n s) {c : Int} (h0 : -1 ≤ c) (h1 : c < s.length) : 0 ≤ dOf (dsF s) c ∧ dOf (dsF s) c ≤ 32 ∧ (dOf (dsF s) c = 0 ↔ c = -1) := by
  have key : ∀ (m : Nat) (c : Int), c + 1 < m → -1 ≤ c → c < s.length → 0 ≤ dOf (dsF s) c ∧ dOf (dsF s) c ≤ 32 ∧ (dOf (dsF s) c = 0 ↔ c = -1) := by
    intro m
    induction m with
    | zero => intro c h1 h2; omega
    | succ m ih =>
      intro c h1 h2 h3
      by_cases hc : c = -1
      · subst hc; simp [dOf]
      · obtain ⟨i, rfl⟩ := Int.eq_ofNat_of_zero_le (show 0 ≤ c by omega)
        have hi : i < s.length := by omega
        obtain ⟨k1, k2, k3, k4, k5, k6, k7⟩ := h.pair (List.getElem?_eq_getElem hi)
        have := ih (s[i]).c0 (by omega) k1 (by omega)
        omega
  exact key (c.toNat + 3) c (by omega) h0 h1

/-- The names from a stack's last frame back to its first. -/
def pathN (n : List (List Int)) (s : List Arr2_Int) : Nat → Int → List (List Int)
  | 0, _ => []
  | k + 1, i => if i < 0 then [] else match s[i.toNat]? with
    | none => []
    | some p => (n[p.c1.toNat]?).getD [] :: pathN n s k p.c0
theorem pathN_len (n : List (List Int)) (s : List Arr2_Int) : ∀ (k : Nat) (i : Int), (pathN n s k i).length ≤ k := by
  intro k
  induction k with
  | zero => intro i; exact Nat.le_refl _
  | succ k ih =>
    intro i
    simp only [pathN]
    split
    · simp
    split
    · simp
    · rename_i p _
      have := ih p.c0
      simp only [List.length_cons]; omega
theorem intern_Stack_loop {n : List (List Int)} {s : List Arr2_Int} (h : Good n s) : ∀ (k f : Nat) (i : Int) (row : List (List Int)), -1 ≤ i → i < s.length → dOf (dsF s) i ≤ k → k < f → row.length + k ≤ 1000 →
    intern_Stack_L1 200000 n s f i row = some (row ++ pathN n s k i) := by
  intro k
  induction k with
  | zero =>
    intro f i row h0 h1 h2 h3 h4
    have hi : i = -1 := (h.depth0 h0 h1).2.2.1 (by have := (h.depth0 h0 h1).1; omega)
    subst hi
    obtain ⟨f, rfl⟩ : ∃ g, f = g + 1 := ⟨f - 1, by omega⟩
    show intern_Stack_L1_body _ _ _ _ _ _ = _
    unfold intern_Stack_L1_body
    rw [bne_f rfl, cond_false]; simp [pathN]
  | succ k ih =>
    intro f i row h0 h1 h2 h3 h4
    obtain ⟨f, rfl⟩ : ∃ g, f = g + 1 := ⟨f - 1, by omega⟩
    show intern_Stack_L1_body _ _ _ _ _ _ = _
    unfold intern_Stack_L1_body
    by_cases hi : i = -1
    · subst hi
      rw [bne_f rfl, cond_false]; simp [pathN]
    · obtain ⟨m, rfl⟩ := Int.eq_ofNat_of_zero_le (show 0 ≤ i by omega)
      have hm : s[m]? = some (s[m]'(by omega)) := List.getElem?_eq_getElem _
      obtain ⟨k1, k2, k3, k4, k5, k6, k7⟩ := h.pair hm
      simp only [pathN]
      rw [bne_t hi, cond_true, idxL_nat, Int.toNat_natCast, if_neg (by omega)]
      generalize hp : s[m]'(by omega) = p at *
      obtain ⟨a, ha⟩ := Int.eq_ofNat_of_zero_le k3
      have hlt : a < n.length := by omega
      rw [hm, Option.bind_some, ha, idxL_nat]
      simp only [ha, Int.toNat_natCast, List.getElem?_eq_getElem hlt, Option.bind_some, Option.getD_some]
      rw [need_t (by simp; omega), Option.bind_some, ih _ _ _ k1 (by omega) (by omega) (by omega) (by simp; omega)]
      simp
theorem R06_Stack_loop {n : List (List Int)} {s : List Arr2_Int} (h : Good n s) : ∀ (k f : Nat) (i : Int) (row : List (List Int)), -1 ≤ i → i < s.length → dOf (dsF s) i ≤ k → k < f → row.length + k ≤ 1000 →
    R06_Stack_L1 200000 n s f i row = some ((pathN n s k i).reverse ++ row) := by
  intro k
  induction k with
  | zero =>
    intro f i row h0 h1 h2 h3 h4
    have hi : i = -1 := (h.depth0 h0 h1).2.2.1 (by have := (h.depth0 h0 h1).1; omega)
    subst hi
    obtain ⟨f, rfl⟩ : ∃ g, f = g + 1 := ⟨f - 1, by omega⟩
    show R06_Stack_L1_body _ _ _ _ _ _ = _
    unfold R06_Stack_L1_body
    rw [dec_f (by omega), cond_false]; simp [pathN]
  | succ k ih =>
    intro f i row h0 h1 h2 h3 h4
    obtain ⟨f, rfl⟩ : ∃ g, f = g + 1 := ⟨f - 1, by omega⟩
    show R06_Stack_L1_body _ _ _ _ _ _ = _
    unfold R06_Stack_L1_body
    by_cases hi : i = -1
    · subst hi
      rw [dec_f (by omega), cond_false]; simp [pathN]
    · obtain ⟨m, rfl⟩ := Int.eq_ofNat_of_zero_le (show 0 ≤ i by omega)
      have hm : s[m]? = some (s[m]'(by omega)) := List.getElem?_eq_getElem _
      obtain ⟨k1, k2, k3, k4, k5, k6, k7⟩ := h.pair hm
      simp only [pathN]
      rw [dec_t (by omega), cond_true, idxL_nat, Int.toNat_natCast, if_neg (by omega)]
      generalize hp : s[m]'(by omega) = p at *
      obtain ⟨a, ha⟩ := Int.eq_ofNat_of_zero_le k3
      have hlt : a < n.length := by omega
      rw [hm, Option.bind_some, ha, idxL_nat]
      simp only [ha, Int.toNat_natCast, List.getElem?_eq_getElem hlt, Option.bind_some, Option.getD_some]
      rw [need_t (by simp; omega), Option.bind_some, ih _ _ _ k1 (by omega) (by omega) (by omega) (by simp; omega)]
      simp
theorem rev_loop {l : List (List Int)} (hl : l.length ≤ 100000) : ∀ (f i : Nat) (row : List (List Int)), row.length = l.length → 2 * i ≤ l.length + 1 → l.length < f + i →
    (∀ k, row[k]? = if k < i ∨ l.length ≤ k + i then l.reverse[k]? else l[k]?) → slices_Reverse_string_string_L1 200000 f (i : Int) ((l.length : Int) - 1 - i) row = some l.reverse := by
  intro f
  induction f with
  | zero => intro i row hr h2 hf; omega
  | succ f ih =>
    intro i row hr h2 hf hk
    show slices_Reverse_string_string_L1_body _ _ _ _ _ = _
    unfold slices_Reverse_string_string_L1_body
    by_cases hi : (i : Int) < (l.length : Int) - 1 - i
    · obtain ⟨j, hj⟩ := Int.eq_ofNat_of_zero_le (show 0 ≤ (l.length : Int) - 1 - i by omega)
      have hjl : j < row.length := by omega
      have hil : i < row.length := by omega
      have hne : i ≠ j := by omega
      rw [dec_t hi, cond_true, hj, idxL_nat, idxL_nat, List.getElem?_eq_getElem hjl, Option.bind_some, List.getElem?_eq_getElem hil, Option.bind_some, Option.bind_some,
        Int.toNat_natCast, Int.toNat_natCast, idxL_nat, List.getElem?_set_ne hne, List.getElem?_eq_getElem hjl, Option.bind_some, w64 (by omega) (by omega), w64 (by omega) (by omega)]
      have := ih (i + 1) ((row.set i row[j]).set j row[i]) (by simp [hr]) (by omega) (by omega) ?_
      · rw [show ((i : Int) + 1) = ((i + 1 : Nat) : Int) by omega, show (j : Int) - 1 = (l.length : Int) - 1 - ((i + 1 : Nat) : Int) by omega]; exact this
      · intro k
        have ej : some row[j] = l.reverse[i]? := by
          rw [← List.getElem?_eq_getElem hjl, hk j, if_neg (by omega), List.getElem?_reverse (by omega)]; congr 1; omega
        have ei : some row[i] = l.reverse[j]? := by
          rw [← List.getElem?_eq_getElem hil, hk i, if_neg (by omega), List.getElem?_reverse (by omega)]; congr 1; omega
        by_cases h1 : k = j
        · subst h1; rw [List.getElem?_set_self (by simpa using hjl), if_pos (by omega), ei]
        rw [List.getElem?_set_ne (fun e => h1 e.symm)]
        by_cases h3 : k = i
        · subst h3; rw [List.getElem?_set_self hil, if_pos (by omega), ej]
        rw [List.getElem?_set_ne (fun e => h3 e.symm), hk k]
        by_cases h4 : k < i ∨ l.length ≤ k + i
        · rw [if_pos h4, if_pos (by omega)]
        · rw [if_neg h4, if_neg (by omega)]
    · rw [dec_f hi, cond_false]
      congr 1
      apply List.ext_getElem?
      intro k
      rw [hk k]
      by_cases h1 : k < i ∨ l.length ≤ k + i
      · rw [if_pos h1]
      · rw [if_neg h1, List.getElem?_reverse (by omega)]; congr 1; omega
theorem slices_Reverse_eq {l : List (List Int)} (hl : l.length ≤ 100000) : slices_Reverse_string_string 200000 l = some l.reverse := by
  unfold slices_Reverse_string_string
  have := rev_loop hl 200000 0 l rfl (by omega) (by omega) (by
    intro k
    by_cases h : l.length ≤ k
    · rw [if_pos (by omega), List.getElem?_eq_none h, List.getElem?_eq_none (by simpa using h)]
    · rw [if_neg (by omega)])
  rw [w64 (by omega) (by omega), show (l.length : Int) - 1 = (l.length : Int) - 1 - (0 : Nat) by omega, show slices_Reverse_string_string_L1 200000 200000 0 ((l.length : Int) - 1 - (0 : Nat)) l = _ from this, Option.bind_some]
def stackV (n : List (List Int)) (s : List Arr2_Int) (i : Int) : List (List Int) × Int :=
  if checkS n s ≠ 0 then ([], 1) else if i < -1 ∨ i ≥ s.length then ([], 2) else ((pathN n s 32 i).reverse, 0)
theorem intern_Stack_eq {n : List (List Int)} {s : List Arr2_Int} {i : Int} : intern_Stack 200000 n s i = some (stackV n s i) := by
  unfold intern_Stack stackV
  rw [intern_Check_eq, Option.bind_some]
  by_cases h : checkS n s ≠ 0
  · rw [bne_t h, cond_true, if_pos h]
  rw [bne_f (by omega), cond_false, if_neg h]
  by_cases h2 : i < -1 ∨ i ≥ s.length
  · rw [if_pos h2]
    have : (decide (i < (-1 : Int)) || decide (i ≥ (((s).length : Nat) : Int))) = true := by simpa using h2
    rw [this]; rfl
  rw [if_neg h2]
  simp (disch := omega) only [dec_f, Bool.or_false, cond_false]
  have hg : Good n s := good_iff.1 (by omega)
  have hlen := pathN_len n s 32 i
  rw [intern_Stack_loop hg 32 _ _ _ (by omega) (by omega) ((hg.depth0 (by omega) (by omega)).2.1) (by omega) (by simp), Option.bind_some, List.nil_append, slices_Reverse_eq (by omega), Option.bind_some, need_t (by simp), Option.bind_some]
theorem R06_Stack_eq {n : List (List Int)} {s : List Arr2_Int} {i : Int} : R06_Stack 200000 n s i = some (stackV n s i) := by
  unfold R06_Stack stackV
  rw [show R06_Check 200000 n s = some (checkS n s) from R06_Check_eq, Option.bind_some]
  by_cases h : checkS n s ≠ 0
  · rw [bne_t h, cond_true, if_pos h]
  rw [bne_f (by omega), cond_false, if_neg h]
  by_cases h2 : i < -1 ∨ i ≥ s.length
  · rw [if_pos h2]
    have : (decide (i < (-1 : Int)) || decide (i ≥ (((s).length : Nat) : Int))) = true := by simpa using h2
    rw [this]; rfl
  rw [if_neg h2]
  simp (disch := omega) only [dec_f, Bool.or_false, cond_false]
  have hg : Good n s := good_iff.1 (by omega)
  rw [R06_Stack_loop hg 32 _ _ _ (by omega) (by omega) ((hg.depth0 (by omega) (by omega)).2.1) (by omega) (by simp), Option.bind_some, List.append_nil]
theorem stackV_len {n : List (List Int)} {s : List Arr2_Int} {i : Int} : (stackV n s i).1.length ≤ 32 := by
  unfold stackV
  split
  · simp
  split
  · simp
  · simpa using pathN_len n s 32 i
theorem L06_InternChecks_plain : ∀ (a0 : T_tracebooklaw06_Tables) (a1 : List (List Int)) (a2 : Int), ok_T_tracebooklaw06_Tables a0 → (okSl okStr) a1 → okI64 a2 → ∃ F, L06_InternChecks F a0 a1 a2 = some true := by
  intro t l i _ _ _
  refine ⟨200000, ?_⟩
  unfold L06_InternChecks
  rw [small06, Option.bind_some]
  by_cases h : (t.Names.length : Int) ≤ 1100 ∧ (t.Stacks.length : Int) ≤ 1100
  case neg =>
    have : (decide ((t.Names.length : Int) ≤ 1100) && decide ((t.Stacks.length : Int) ≤ 1100)) = false := by simpa using h
    rw [this]; simp only [Bool.not_false, cond_true, Option.bind_some]; rw [awake06]; rfl
  rw [dec_t h.1, dec_t h.2]
  simp only [Bool.and_self, Bool.not_true, cond_false, Option.bind_some]
  by_cases hl : (l.length : Int) > 100
  · rw [dec_t hl, cond_true, awake06]; rfl
  rw [dec_f hl, cond_false]
  have hloop := bad_loop (l := l) (L06_InternChecks_L1 200000 l) (fun _ _ => none) (fun n i hi => by
    show L06_InternChecks_L1_body 200000 l _ _ = _
    unfold L06_InternChecks_L1_body
    rw [dec_f (by omega), cond_false]) (fun n i x r hd hlt => ⟨fun b hb => (by cases hb), fun _ => by
    show L06_InternChecks_L1_body 200000 l _ _ = _
    unfold L06_InternChecks_L1_body
    simp (disch := omega) only [dec_t, cond_true, idxL_drop hd, Option.bind_some, intern_Name_eq, R06_Name_eq, bne_f, cond_false, step64]⟩) (n := 200000) (by omega)
  have hv := stackV_len (n := t.Names) (s := t.Stacks) (i := i)
  rw [hloop, firstBad_all (fun _ _ _ => rfl)]
  simp only [Option.bind_some, intern_Stack_eq, R06_Stack_eq, intern_Frames_eq, R06_Frames_eq, intern_Check_eq, show R06_Check 200000 t.Names t.Stacks = some (checkS t.Names t.Stacks) from R06_Check_eq, BEq.rfl, cond_true]
  rw [SameNames_self (by omega)]
  simp only [Option.bind_some, cond_true, awake06]
end Go.Ab
