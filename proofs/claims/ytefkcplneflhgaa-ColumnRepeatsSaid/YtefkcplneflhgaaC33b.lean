/- Columns: what Encode computes. -/
import Derived.Test.YtefkcplneflhgaaB33c
import Derived.Test.YtefkcplneflhgaaB33b
import Derived.Test.YtefkcplneflhgaaC33
namespace Go.Ab
open Go
set_option linter.unusedVariables false

def pI (n : Int) : List Int := venc 9 (zenc n)
theorem pI_len (n : Int) : 1 ≤ (pI n).length ∧ (pI n).length ≤ 10 := venc_len 9 _
def vB (v : T_api_Value) : List Int := v.Kind :: (if v.Kind = 1 ∨ v.Kind = 2 then pI v.N else if v.Kind = 3 then pI v.S.length ++ v.S else [])
/-- A value of a column of the kind k. -/
def VV (k : Int) (v : T_api_Value) : Prop := (v.Kind = 0 ∨ v.Kind = k) ∧ -1000000000000000 ≤ v.N ∧ v.N ≤ 1000000000000000 ∧ v.S.length ≤ 200 ∧ (v.Kind ≠ 3 → v.S = []) ∧ (v.Kind = 0 ∨ v.Kind = 3 → v.N = 0)
def KK (k : Int) : Prop := k = 1 ∨ k = 2 ∨ k = 3
theorem vv_of {k : Int} {v : T_api_Value} (h : valS k v = 0) : VV k v := by
  unfold valS at h
  unfold VV
  split at h
  · cases h
  rename_i h1
  split at h
  · cases h
  rename_i h2
  split at h
  · cases h
  rename_i h3
  split at h
  · cases h
  rename_i h4
  split at h
  · cases h
  rename_i h5
  have h6 : v.Kind ≠ 3 → v.S = [] := fun hk => Decidable.byContradiction fun hs => h4 ⟨hk, hs⟩
  refine ⟨by omega, ?_, ?_, ?_, h6, by omega⟩
  · omega
  · omega
  · by_cases hk : v.Kind = 3
    · omega
    · rw [h6 hk]; simp
theorem vB_len {k : Int} {v : T_api_Value} (h : VV k v) : 1 ≤ (vB v).length ∧ (vB v).length ≤ 211 := by
  unfold vB
  have h1 := pI_len v.N
  have h2 := pI_len v.S.length
  have := h.2.2.2.1
  simp only [List.length_cons]
  split
  · omega
  split
  · simp only [List.length_append]; omega
  · simp
theorem column_put_eq {k : Int} {b : List Int} {v : T_api_Value} (hk : KK k) (hv : VV k v) (hb : b.length ≤ 10000000) : column_put 200000 b v = some (b ++ vB v) := by
  obtain ⟨h1, h2, h3, h4, h5, h6⟩ := hv
  unfold KK at hk
  unfold column_put vB
  rw [need_t (by simp; omega), Option.bind_some, wu8 (by omega) (by omega)]
  by_cases k1 : v.Kind = 1
  · rw [beq_t k1, cond_true, Option.bind_some, cond_true, codec_PutInt_eq (by unfold okI64; omega) (by simp; omega) (by omega), Option.bind_some, if_pos (.inl k1), List.append_assoc]; rfl
  rw [beq_f k1, cond_false, Option.bind_some]
  by_cases k2 : v.Kind = 2
  · rw [beq_t k2, cond_true, codec_PutInt_eq (by unfold okI64; omega) (by simp; omega) (by omega), Option.bind_some, if_pos (.inr k2), List.append_assoc]; rfl
  rw [beq_f k2, cond_false, if_neg (by omega)]
  by_cases k3 : v.Kind = 3
  · rw [beq_t k3, cond_true, codec_PutText_eq (by simp; omega) (by omega) (by omega), Option.bind_some, if_pos k3]; simp [pI]
  · rw [beq_f k3, cond_false, if_neg k3]
theorem R33_one_eq {k : Int} {b : List Int} {v : T_api_Value} (hk : KK k) (hv : VV k v) (hb : b.length ≤ 10000000) : R33_one 200000 b v = some (b ++ vB v) := by
  obtain ⟨h1, h2, h3, h4, h5, h6⟩ := hv
  unfold KK at hk
  unfold R33_one vB
  rw [need_t (by simp; omega), Option.bind_some, wu8 (by omega) (by omega)]
  by_cases k1 : v.Kind = 1 ∨ v.Kind = 2
  · rw [show ((v.Kind == (1 : Int)) || (v.Kind == (2 : Int))) = true by simpa using k1, cond_true, R05_PutInt_eq (by unfold okI64; omega) (by simp; omega) (by omega), Option.bind_some, if_pos k1, List.append_assoc]; rfl
  rw [show ((v.Kind == (1 : Int)) || (v.Kind == (2 : Int))) = false by simpa using k1, cond_false, if_neg k1]
  by_cases k3 : v.Kind = 3
  · rw [beq_t k3, cond_true, R05_PutText_eq (by simp; omega) (by omega) (by omega) (by omega), Option.bind_some, if_pos k3]; simp [pI]
  · rw [beq_f k3, cond_false, if_neg k3]
def plainB (l : List T_api_Value) : List Int := l.flatMap vB
theorem plainB_len {k : Int} : ∀ {l : List T_api_Value}, (∀ v ∈ l, VV k v) → l.length ≤ (plainB l).length ∧ (plainB l).length ≤ l.length * 211 := by
  intro l
  induction l with
  | nil => intro _; simp [plainB]
  | cons v r ih =>
    intro h
    have h1 := vB_len (h v (by simp))
    have h2 := ih (fun x hx => h x (by simp [hx]))
    unfold plainB at *
    simp only [List.flatMap_cons, List.length_append, List.length_cons]; omega
theorem sub_dropN {α : Type} {l : List α} {n : Int} (h0 : 0 ≤ n) : sub l n (l.length : Int) = l.drop n.toNat := by
  unfold sub; simp
theorem plain_loop {k : Int} (hk : KK k) {l : List T_api_Value} (hv : ∀ v ∈ l, VV k v) (hl : l.length ≤ 20000) : ∀ (n i : Nat) (row : List Int), (l.drop i).length < n → row.length ≤ i * 211 → column_plain_L1 200000 l n (i : Nat) row = some (row ++ plainB (l.drop i)) := by
  intro n
  induction n with
  | zero => intro i row h; omega
  | succ n ih =>
    intro i row hn hr
    show column_plain_L1_body _ _ _ _ _ = _
    unfold column_plain_L1_body
    rcases hd : l.drop i with _ | ⟨x, r⟩
    · have := drop_nil hd
      rw [dec_f (by omega), cond_false]; simp [plainB]
    have hlt := drop_lt hd
    have hx := hv x (mem_drop hd)
    have hb := vB_len hx
    rw [hd] at hn
    simp only [List.length_cons] at hn
    rw [dec_t (by omega), cond_true, idxL_drop hd, Option.bind_some, column_put_eq hk hx (by omega), Option.bind_some, step64 (by omega), ih (i + 1) _ (by rw [drop_step hd]; omega) (by rw [List.length_append]; omega), drop_step hd]
    simp [plainB]
theorem column_plain_eq {k : Int} (hk : KK k) {l : List T_api_Value} (hv : ∀ v ∈ l, VV k v) (hl : l.length ≤ 20000) : column_plain 200000 l = some (plainB l) := by
  unfold column_plain
  rw [show column_plain_L1 200000 l 200000 0 [] = _ from plain_loop hk hv hl 200000 0 [] (by simp; omega) (by simp), Option.bind_some]; rfl
theorem Rplain_loop {k : Int} (hk : KK k) {l : List T_api_Value} (hv : ∀ v ∈ l, VV k v) (hl : l.length ≤ 20000) : ∀ (n i : Nat) (row : List Int), (l.drop i).length < n → row.length ≤ i * 211 → R33_plain_L1 200000 l n (i : Nat) row = some (row ++ plainB (l.drop i)) := by
  intro n
  induction n with
  | zero => intro i row h; omega
  | succ n ih =>
    intro i row hn hr
    show R33_plain_L1_body _ _ _ _ _ = _
    unfold R33_plain_L1_body
    rcases hd : l.drop i with _ | ⟨x, r⟩
    · have := drop_nil hd
      rw [dec_f (by omega), cond_false]; simp [plainB]
    have hlt := drop_lt hd
    have hx := hv x (mem_drop hd)
    have hb := vB_len hx
    rw [hd] at hn
    simp only [List.length_cons] at hn
    rw [dec_t (by omega), cond_true, idxL_drop hd, Option.bind_some, R33_one_eq hk hx (by omega), Option.bind_some, step64 (by omega), ih (i + 1) _ (by rw [drop_step hd]; omega) (by rw [List.length_append]; omega), drop_step hd]
    simp [plainB]
theorem R33_plain_eq {k : Int} (hk : KK k) {l : List T_api_Value} (hv : ∀ v ∈ l, VV k v) (hl : l.length ≤ 20000) : R33_plain 200000 l = some (plainB l) := by
  unfold R33_plain
  rw [show R33_plain_L1 200000 l 200000 0 [] = _ from Rplain_loop hk hv hl 200000 0 [] (by simp; omega) (by simp), Option.bind_some]; rfl

/-- How many of a list's first values are v. -/
def lead (v : T_api_Value) : List T_api_Value → Nat
  | [] => 0
  | x :: r => if x = v then lead v r + 1 else 0
theorem lead_le (v : T_api_Value) : ∀ l, lead v l ≤ l.length := by
  intro l
  induction l with
  | nil => simp [lead]
  | cons x r ih => unfold lead; split <;> simp <;> omega
def groups : List T_api_Value → List (T_api_Value × Nat)
  | [] => []
  | v :: r => match groups r with
    | (w, n) :: g => if v = w then (w, n + 1) :: g else (v, 1) :: (w, n) :: g
    | [] => [(v, 1)]
theorem groups_lead : ∀ (r : List T_api_Value) (v : T_api_Value), groups (v :: r) = (v, lead v r + 1) :: groups (r.drop (lead v r)) := by
  intro r
  induction r with
  | nil => intro v; rfl
  | cons x r ih =>
    intro v
    have h : groups (v :: x :: r) = match groups (x :: r) with
      | (w, n) :: g => if v = w then (w, n + 1) :: g else (v, 1) :: (w, n) :: g
      | [] => [(v, 1)] := rfl
    rw [h, ih x]
    simp only
    by_cases hvx : v = x
    · subst hvx
      have e : lead v (v :: r) = lead v r + 1 := by rw [lead, if_pos rfl]
      rw [if_pos rfl, e, List.drop_succ_cons]
    · have e : lead v (x :: r) = 0 := by rw [lead, if_neg (fun e => hvx e.symm)]
      rw [if_neg hvx, e, List.drop_zero, ih x]
def runsB (l : List T_api_Value) : List Int := (groups l).flatMap fun q => pI q.2 ++ vB q.1
theorem runsB_cons (v : T_api_Value) (r : List T_api_Value) : runsB (v :: r) = pI ((lead v r + 1 : Nat) : Int) ++ vB v ++ runsB (r.drop (lead v r)) := by
  unfold runsB
  rw [groups_lead, List.flatMap_cons]
theorem groups_sum : ∀ l : List T_api_Value, (groups l).length ≤ l.length ∧ ∀ q ∈ groups l, q.1 ∈ l := by
  intro l
  induction l with
  | nil => simp [groups]
  | cons v r ih =>
    unfold groups
    cases hg : groups r with
    | nil => simp
    | cons p g =>
      rw [hg] at ih
      obtain ⟨w, n⟩ := p
      simp only
      have hw := ih.2 (w, n) (by simp)
      by_cases h : v = w
      · rw [if_pos h]
        refine ⟨by have := ih.1; simp at *; omega, fun q hq => ?_⟩
        rcases List.mem_cons.1 hq with rfl | hq
        · simp [h]
        · exact List.mem_cons_of_mem _ (ih.2 q (by simp [hq]))
      · rw [if_neg h]
        refine ⟨by have := ih.1; simp at *; omega, fun q hq => ?_⟩
        rcases List.mem_cons.1 hq with rfl | hq
        · simp
        · exact List.mem_cons_of_mem _ (ih.2 q hq)
theorem runsB_len {k : Int} {l : List T_api_Value} (h : ∀ v ∈ l, VV k v) : (runsB l).length ≤ l.length * 221 := by
  have hs := groups_sum l
  have key : ∀ g : List (T_api_Value × Nat), (∀ q ∈ g, VV k q.1) → (g.flatMap fun q => pI q.2 ++ vB q.1).length ≤ g.length * 221 := by
    intro g
    induction g with
    | nil => intro _; simp
    | cons q g ih =>
      intro hg
      have h1 := ih (fun x hx => hg x (by simp [hx]))
      have h2 := vB_len (hg q (by simp))
      have h3 := pI_len q.2
      simp only [List.flatMap_cons, List.length_append, List.length_cons] at *; omega
  have := key (groups l) (fun q hq => h q.1 (hs.2 q hq))
  unfold runsB; omega
theorem runs_L2 {l : List T_api_Value} {v : T_api_Value} (h0 : idxL l 0 = some v) (hl : l.length ≤ 20000) : ∀ (n i : Nat), (l.drop i).length < n → column_runs_L2 200000 l n (i : Nat) = some ((i + lead v (l.drop i) : Nat) : Int) := by
  intro n
  induction n with
  | zero => intro i h; omega
  | succ n ih =>
    intro i hn
    show column_runs_L2_body _ _ _ _ = _
    unfold column_runs_L2_body
    rcases hd : l.drop i with _ | ⟨x, r⟩
    · have := drop_nil hd
      rw [dec_f (by omega), cond_false, Option.bind_some, cond_false]; simp [lead]
    have hlt := drop_lt hd
    rw [hd] at hn
    simp only [List.length_cons] at hn
    rw [dec_t (by omega), cond_true, idxL_drop hd, Option.bind_some, h0, Option.bind_some, Option.bind_some]
    by_cases hx : x = v
    · rw [dec_t hx, cond_true, step64 (by omega), ih (i + 1) (by rw [drop_step hd]; omega), drop_step hd, lead, if_pos hx]; congr 2; omega
    · rw [dec_f hx, cond_false, lead, if_neg hx]; rfl
theorem Rruns_L2 {l : List T_api_Value} {i : Nat} {v : T_api_Value} (h0 : idxL l (i : Nat) = some v) (hl : l.length ≤ 20000) (hi : i < l.length) : ∀ (n j : Nat), (l.drop (i + j)).length < n → i + j ≤ l.length → R33_runs_L2 200000 l (i : Nat) n (j : Nat) = some ((j + lead v (l.drop (i + j)) : Nat) : Int) := by
  intro n
  induction n with
  | zero => intro i h; omega
  | succ n ih =>
    intro j hn hj
    show R33_runs_L2_body _ _ _ _ _ = _
    unfold R33_runs_L2_body
    rw [w64 (by omega) (by omega), show (i : Int) + (j : Int) = ((i + j : Nat) : Int) by omega]
    rcases hd : l.drop (i + j) with _ | ⟨x, r⟩
    · have := drop_nil hd
      rw [dec_f (by omega), cond_false, Option.bind_some, cond_false]; simp [lead]
    have hlt := drop_lt hd
    rw [hd] at hn
    simp only [List.length_cons] at hn
    rw [dec_t (by omega), cond_true, idxL_drop hd, Option.bind_some, h0, Option.bind_some, Option.bind_some]
    by_cases hx : x = v
    · have hs : l.drop (i + (j + 1)) = r := by rw [← Nat.add_assoc]; exact drop_step hd
      rw [dec_t hx, cond_true, step64 (by omega), ih (j + 1) (by rw [hs]; omega) (by omega), hs, lead, if_pos hx]; congr 2; omega
    · rw [dec_f hx, cond_false, lead, if_neg hx]; rfl
theorem runs_L1 {k : Int} (hk : KK k) : ∀ (n : Nat) (l : List T_api_Value) (b : List Int), (∀ v ∈ l, VV k v) → l.length < n → l.length ≤ 20000 → b.length + l.length * 221 ≤ 5000000 → column_runs_L1 200000 n l b = some (b ++ runsB l) := by
  intro n
  induction n with
  | zero => intro l b _ h; omega
  | succ n ih =>
    intro l b hv hn hl hb
    show column_runs_L1_body _ _ _ _ = _
    unfold column_runs_L1_body
    rcases l with _ | ⟨v, r⟩
    · rw [dec_f (by simp), cond_false]; simp [runsB, groups]
    simp only [List.length_cons] at hn hl hb
    have hx := hv v (by simp)
    have hvl := vB_len hx
    have hle := lead_le v r
    have hp := pI_len ((1 + lead v r : Nat) : Int)
    have e2 := runs_L2 (l := v :: r) (v := v) rfl (by simp; omega) 200000 1 (by simp; omega)
    have hs : sub (v :: r) ((1 + lead v r : Nat) : Int) (((v :: r).length : Nat) : Int) = r.drop (lead v r) := by
      rw [sub_dropN (by omega), Int.toNat_natCast, Nat.add_comm 1, List.drop_succ_cons]
    rw [dec_t (by simp only [List.length_cons]; omega), cond_true, show column_runs_L2 200000 (v :: r) 200000 (1 : Int) = _ from e2, Option.bind_some, List.drop_succ_cons, List.drop_zero]
    rw [codec_PutInt_eq (by unfold okI64; omega) (by omega) (by omega), Option.bind_some, show idxL (v :: r) 0 = some v from rfl, Option.bind_some, column_put_eq hk hx (by simp only [List.length_append]; unfold pI at hp; omega), Option.bind_some, need_t (by simp only [List.length_cons]; omega), Option.bind_some, hs]
    rw [ih (r.drop (lead v r)) _ (fun x hx => hv x (List.mem_cons_of_mem _ (List.mem_of_mem_drop hx))) (by simp only [List.length_drop]; omega) (by simp only [List.length_drop]; omega) (by simp only [List.length_append, List.length_drop]; unfold pI at hp; omega), runsB_cons, Nat.add_comm 1]
    simp [pI]
theorem column_runs_eq {k : Int} (hk : KK k) {l : List T_api_Value} (hv : ∀ v ∈ l, VV k v) (hl : l.length ≤ 20000) : column_runs 200000 l = some (runsB l) := by
  unfold column_runs
  rw [runs_L1 hk 200000 l [] hv (by omega) hl (by simp; omega), Option.bind_some]; rfl
theorem Rruns_L1 {k : Int} (hk : KK k) {l : List T_api_Value} (hv : ∀ v ∈ l, VV k v) (hl : l.length ≤ 20000) : ∀ (n i : Nat) (b : List Int), (l.drop i).length < n → b.length + (l.drop i).length * 221 ≤ 5000000 → i ≤ l.length → R33_runs_L1 200000 l n b (i : Nat) = some (b ++ runsB (l.drop i)) := by
  intro n
  induction n with
  | zero => intro i b h; omega
  | succ n ih =>
    intro i b hn hb hi
    show R33_runs_L1_body _ _ _ _ _ = _
    unfold R33_runs_L1_body
    rcases hd : l.drop i with _ | ⟨v, r⟩
    · have := drop_nil hd
      rw [dec_f (by omega), cond_false]; simp [runsB, groups]
    have hlt := drop_lt hd
    have hr : r.length = l.length - i - 1 := by have := congrArg List.length hd; simp at this; omega
    rw [hd] at hn hb
    simp only [List.length_cons] at hn hb
    have hx := hv v (mem_drop hd)
    have hvl := vB_len hx
    have hle := lead_le v r
    have hp := pI_len ((1 + lead v r : Nat) : Int)
    have e2 := Rruns_L2 (l := l) (i := i) (v := v) (idxL_drop hd) hl hlt 200000 1 (by rw [drop_step hd]; omega) (by omega)
    rw [drop_step hd] at e2
    have hs : l.drop (i + (1 + lead v r)) = r.drop (lead v r) := by rw [← Nat.add_assoc, ← List.drop_drop, drop_step hd]
    rw [dec_t (by omega), cond_true, show R33_runs_L2 200000 l (i : Int) 200000 (1 : Int) = _ from e2, Option.bind_some]
    rw [R05_PutInt_eq (by unfold okI64; omega) (by omega) (by omega), Option.bind_some, idxL_drop hd, Option.bind_some, R33_one_eq hk hx (by simp only [List.length_append]; unfold pI at hp; omega), Option.bind_some, w64 (by omega) (by omega), show (i : Int) + ((1 + lead v r : Nat) : Int) = ((i + (1 + lead v r) : Nat) : Int) by omega]
    rw [ih (i + (1 + lead v r)) _ (by rw [hs]; simp only [List.length_drop]; omega) (by rw [hs]; simp only [List.length_append, List.length_drop]; unfold pI at hp; omega) (by omega), hs, runsB_cons, Nat.add_comm 1]
    simp [pI]
theorem R33_runs_eq {k : Int} (hk : KK k) {l : List T_api_Value} (hv : ∀ v ∈ l, VV k v) (hl : l.length ≤ 20000) : R33_runs 200000 l = some (runsB l) := by
  unfold R33_runs
  rw [show R33_runs_L1 200000 l 200000 [] 0 = _ from Rruns_L1 hk hv hl 200000 0 [] (by simp; omega) (by simp; omega) (by omega), Option.bind_some]; rfl
end Go.Ab
