/- Columns: differences, the dictionary, and Encode. -/
import Derived.Test.YtefkcplneflhgaaC33b
namespace Go.Ab
open Go
set_option linter.unusedVariables false

def diffB : Int → List T_api_Value → List Int
  | _, [] => []
  | last, v :: r => pI (v.N - last) ++ diffB v.N r
def anyNull (l : List T_api_Value) : Bool := l.any fun v => v.Kind == 0
def difS (k : Int) (l : List T_api_Value) : List Int × Bool := if k = 3 then ([], false) else if anyNull l = true then ([], false) else (diffB 0 l, true)
theorem diffB_len : ∀ (l : List T_api_Value) (a : Int), l.length ≤ (diffB a l).length ∧ (diffB a l).length ≤ l.length * 10 := by
  intro l
  induction l with
  | nil => intro a; simp [diffB]
  | cons v r ih =>
    intro a
    have h1 := pI_len (v.N - a)
    have h2 := ih v.N
    simp only [diffB, List.length_append, List.length_cons]; omega
def difO (b : List Int) (last : Int) (l : List T_api_Value) : List Int ⊕ (List Int × Bool) := if anyNull l = true then .inr ([], false) else .inl (b ++ diffB last l)
theorem dif_loop {k : Int} {l : List T_api_Value} (hv : ∀ v ∈ l, VV k v) (hl : l.length ≤ 20000) : ∀ (n i : Nat) (b : List Int) (last : Int), (l.drop i).length < n → b.length ≤ i * 10 → -1000000000000000 ≤ last → last ≤ 1000000000000000 → column_differences_L1 200000 l n b last (i : Nat) = some (difO b last (l.drop i)) := by
  intro n
  induction n with
  | zero => intro i b last h; omega
  | succ n ih =>
    intro i b last hn hb h0 h1
    show column_differences_L1_body _ _ _ _ _ _ = _
    unfold column_differences_L1_body difO
    rcases hd : l.drop i with _ | ⟨x, r⟩
    · have := drop_nil hd
      rw [dec_f (by omega), cond_false]; simp [anyNull, diffB]
    have hlt := drop_lt hd
    have hx := hv x (mem_drop hd)
    have hp := pI_len (x.N - last)
    obtain ⟨_, a1, a2, _⟩ := hx
    rw [hd] at hn
    simp only [List.length_cons] at hn
    rw [dec_t (by omega), cond_true, idxL_drop hd, Option.bind_some]
    by_cases hz : x.Kind = 0
    · rw [beq_t hz, cond_true, if_pos (by unfold anyNull; rw [List.any_cons, beq_t hz]; rfl)]
    have e : anyNull (x :: r) = anyNull r := by unfold anyNull; rw [List.any_cons, beq_f hz, Bool.false_or]
    rw [beq_f hz, cond_false, w64 (by omega) (by omega), codec_PutInt_eq (by unfold okI64; omega) (by omega) (by omega), Option.bind_some, step64 (by omega), ih (i + 1) _ _ (by rw [drop_step hd]; omega) (by rw [List.length_append]; unfold pI at hp; omega) a1 a2, drop_step hd, e]
    unfold difO
    split
    · rfl
    · simp [diffB, pI]
theorem column_differences_eq {k : Int} {l : List T_api_Value} (hv : ∀ v ∈ l, VV k v) (hl : l.length ≤ 20000) : column_differences 200000 k l = some (difS k l) := by
  unfold column_differences difS
  by_cases h : k = 3
  · rw [beq_t h, cond_true, if_pos h]
  rw [beq_f h, cond_false, if_neg h, show column_differences_L1 200000 l 200000 [] 0 0 = _ from dif_loop hv hl 200000 0 [] 0 (by simp; omega) (by simp) (by omega) (by omega), Option.bind_some]
  unfold difO
  rw [List.drop_zero]
  split
  · rename_i h; split at h
    · cases h
    · rename_i h2; cases h; rw [if_neg h2]; rfl
  · rename_i h; split at h
    · rename_i h2; cases h; rw [if_pos h2]
    · cases h
theorem Rdif_loop {k : Int} (h3 : k ≠ 3) {l : List T_api_Value} (hv : ∀ v ∈ l, VV k v) (hk : KK k) (hl : l.length ≤ 20000) : ∀ (n i : Nat) (b : List Int), (l.drop i).length < n → b.length ≤ i * 10 → R33_differences_L1 200000 k l n b (i : Nat) = some (difO b (if i = 0 then 0 else ((l[i - 1]?).map (·.N)).getD 0) (l.drop i)) := by
  intro n
  unfold KK at hk
  induction n with
  | zero => intro i b h; omega
  | succ n ih =>
    intro i b hn hb
    show R33_differences_L1_body _ _ _ _ _ _ = _
    unfold R33_differences_L1_body difO
    rcases hd : l.drop i with _ | ⟨x, r⟩
    · have := drop_nil hd
      rw [dec_f (by omega), cond_false]; simp [anyNull, diffB]
    have hlt := drop_lt hd
    have hx := hv x (mem_drop hd)
    obtain ⟨a0, a1, a2, _⟩ := hx
    rw [hd] at hn
    simp only [List.length_cons] at hn
    rw [dec_t (by omega), cond_true, idxL_drop hd, Option.bind_some]
    by_cases hz : x.Kind = 0
    · rw [bne_t (by omega), cond_true, Option.bind_some, cond_true, Option.bind_some, if_pos (by unfold anyNull; rw [List.any_cons, beq_t hz]; rfl)]
    have e : anyNull (x :: r) = anyNull r := by unfold anyNull; rw [List.any_cons, beq_f hz, Bool.false_or]
    have hprev : ((l[i + 1 - 1]?).map (·.N)).getD 0 = x.N := by rw [Nat.add_sub_cancel, get_drop hd]; rfl
    rw [bne_f (by omega), cond_false, beq_f h3, Option.bind_some, cond_false, Option.bind_some]
    by_cases hi : i = 0
    · subst hi
      have hp := pI_len x.N
      rw [dec_f (by omega), cond_false, R05_PutInt_eq (by unfold okI64; omega) (by omega) (by omega), Option.bind_some, Option.bind_some]
      simp only
      rw [step64 (by omega), ih 1 _ (by have := drop_step hd; rw [this]; omega) (by rw [List.length_append]; unfold pI at hp; omega), if_neg (by omega), hprev, drop_step hd, e]
      unfold difO
      split
      · rfl
      · simp [diffB, pI]
    · have hm : i - 1 < l.length := by omega
      have hy := hv _ (List.getElem_mem hm)
      obtain ⟨_, c1, c2, _⟩ := hy
      have hp := pI_len (x.N - (l[i - 1]).N)
      rw [dec_t (by omega), cond_true, w64 (x := (i : Int) - 1) (by omega) (by omega), show (i : Int) - 1 = ((i - 1 : Nat) : Int) by omega, idxL_nat, List.getElem?_eq_getElem hm, Option.bind_some, w64 (by omega) (by omega), R05_PutInt_eq (by unfold okI64; omega) (by omega) (by omega), Option.bind_some, Option.bind_some]
      simp only
      rw [step64 (by omega), ih (i + 1) _ (by rw [drop_step hd]; omega) (by rw [List.length_append]; unfold pI at hp; omega), if_neg (by omega), hprev, drop_step hd, e, if_neg hi]
      unfold difO
      split
      · rfl
      · simp [diffB, pI]
theorem R33_differences_eq {k : Int} (hk : KK k) {l : List T_api_Value} (hv : ∀ v ∈ l, VV k v) (hl : l.length ≤ 20000) : R33_differences 200000 k l = some (difS k l) := by
  unfold R33_differences difS
  by_cases h : k = 3
  · rw [if_pos h]
    have : R33_differences_L1 200000 k l 200000 [] 0 = some (if l = [] then .inl [] else .inr ([], false)) := by
      show R33_differences_L1_body _ _ _ _ _ _ = _
      unfold R33_differences_L1_body
      cases l with
      | nil => rfl
      | cons x r =>
        rw [if_neg (by simp), dec_t (by simp only [List.length_cons]; omega), cond_true, show idxL (x :: r) 0 = some x from rfl, Option.bind_some, beq_t h]
        have : ∀ c : Bool, (bif c then (some true : Option Bool) else some true) = some true := fun c => by cases c <;> rfl
        rw [this, Option.bind_some, cond_true, Option.bind_some]
    rw [this, Option.bind_some]
    by_cases hl : l = []
    · rw [if_pos hl]; simp only; rw [bne_f h]
    · rw [if_neg hl]
  rw [if_neg h, show R33_differences_L1 200000 k l 200000 [] 0 = _ from Rdif_loop h hv hk hl 200000 0 [] (by simp; omega) (by simp), Option.bind_some, if_pos rfl]
  unfold difO
  rw [List.drop_zero, bne_t h]
  split
  · rename_i h; split at h
    · cases h
    · rename_i h2; cases h; rw [if_neg h2]; rfl
  · rename_i h; split at h
    · rename_i h2; cases h; rw [if_pos h2]
    · cases h

def posI (v : T_api_Value) : List T_api_Value → Option Nat
  | [] => none
  | x :: r => if x = v then some 0 else (posI v r).map (· + 1)
theorem posI_lt {v : T_api_Value} : ∀ {l : List T_api_Value} {i : Nat}, posI v l = some i → l[i]? = some v := by
  intro l
  induction l with
  | nil => intro i h; cases h
  | cons x r ih =>
    intro i h
    unfold posI at h
    by_cases hx : x = v
    · rw [if_pos hx] at h; injection h with h; subst h; simp [hx]
    · rw [if_neg hx] at h
      cases hp : posI v r with
      | none => rw [hp] at h; cases h
      | some j => rw [hp] at h; injection h with h; subst h; simpa using ih hp
theorem posI_none {v : T_api_Value} : ∀ {l : List T_api_Value}, posI v l = none → v ∉ l := by
  intro l
  induction l with
  | nil => intro _; simp
  | cons x r ih =>
    intro h
    unfold posI at h
    by_cases hx : x = v
    · rw [if_pos hx] at h; cases h
    · rw [if_neg hx] at h
      cases hp : posI v r with
      | none => rw [List.mem_cons]; rintro (e | e); exact hx e.symm; exact ih hp e
      | some j => rw [hp] at h; cases h
theorem posI_app {v x : T_api_Value} : ∀ l : List T_api_Value, posI v (l ++ [x]) = match posI v l with | some i => some i | none => if x = v then some l.length else none := by
  intro l
  induction l with
  | nil => simp [posI]
  | cons y r ih =>
    rw [List.cons_append]
    unfold posI
    by_cases hy : y = v
    · rw [if_pos hy, if_pos hy]
    · rw [if_neg hy, if_neg hy, ih]
      cases hp : posI v r with
      | none => simp only [Option.map_none]; by_cases hx : x = v <;> simp [hx]
      | some j => rfl
/-- The words and the places, behind words that are known. -/
def dRun : List T_api_Value → List T_api_Value → List T_api_Value × List Int
  | ws, [] => (ws, [])
  | ws, v :: r => match posI v ws with
    | some i => ((dRun ws r).1, pI i ++ (dRun ws r).2)
    | none => ((dRun (ws ++ [v]) r).1, pI ws.length ++ (dRun (ws ++ [v]) r).2)
def dictB (l : List T_api_Value) : List Int := pI (dRun [] l).1.length ++ plainB (dRun [] l).1 ++ (dRun [] l).2
theorem dRun_len : ∀ (l ws : List T_api_Value), (dRun ws l).1.length ≤ ws.length + l.length ∧ l.length ≤ (dRun ws l).2.length ∧ (dRun ws l).2.length ≤ l.length * 10 := by
  intro l
  induction l with
  | nil => intro ws; simp [dRun]
  | cons v r ih =>
    intro ws
    unfold dRun
    cases hp : posI v ws with
    | some i => have h1 := ih ws; have h2 := pI_len i; simp only [List.length_append, List.length_cons]; omega
    | none => have h1 := ih (ws ++ [v]); have h2 := pI_len ws.length; simp only [List.length_append, List.length_cons, List.length_nil] at *; omega
theorem dRun_mem : ∀ (l ws : List T_api_Value), ∀ x ∈ (dRun ws l).1, x ∈ ws ∨ x ∈ l := by
  intro l
  induction l with
  | nil => intro ws x hx; exact .inl hx
  | cons v r ih =>
    intro ws x hx
    unfold dRun at hx
    cases hp : posI v ws with
    | some i => rw [hp] at hx; rcases ih ws x hx with h | h; exact .inl h; exact .inr (by simp [h])
    | none =>
      rw [hp] at hx
      rcases ih (ws ++ [v]) x hx with h | h
      · rcases List.mem_append.1 h with h | h
        · exact .inl h
        · simp at h; exact .inr (by simp [h])
      · exact .inr (by simp [h])
theorem plainB_app (l m : List T_api_Value) : plainB (l ++ m) = plainB l ++ plainB m := by simp [plainB]
def MapI (row : List (T_api_Value × Int)) (ws : List T_api_Value) : Prop := row.length = ws.length ∧ ∀ v, mget row v = (posI v ws).map (fun i => ((i : Nat) : Int))
theorem MapI.put {row : List (T_api_Value × Int)} {ws : List T_api_Value} {v : T_api_Value} (h : MapI row ws) (hv : posI v ws = none) : MapI (mput row v (row.length : Int)) (ws ++ [v]) := by
  obtain ⟨h1, h2⟩ := h
  have h3 : mget row v = none := by rw [h2, hv]; rfl
  refine ⟨?_, fun x => ?_⟩
  · rw [mput_none (mget_none h3)]; simp [h1]
  · rw [mget_mput, posI_app]
    by_cases hx : v = x
    · subst hx; rw [if_pos rfl, hv]; simp [h1]
    · rw [if_neg hx, h2]
      cases hp : posI x ws <;> simp [hx]
theorem dict_loop {k : Int} (hk : KK k) {l : List T_api_Value} (hv : ∀ v ∈ l, VV k v) (hl : l.length ≤ 20000) : ∀ (n i : Nat) (places : List Int) (row : List (T_api_Value × Int)) (ws : List T_api_Value), MapI row ws → (l.drop i).length < n → places.length ≤ i * 10 → ws.length ≤ i → (∀ v ∈ ws, VV k v) →
    ∃ row' : List (T_api_Value × Int), column_dictionary_L1 200000 l n places (i : Nat) row (plainB ws) = some (places ++ (dRun ws (l.drop i)).2, row', plainB (dRun ws (l.drop i)).1) ∧ row'.length = (dRun ws (l.drop i)).1.length := by
  intro n
  induction n with
  | zero => intro i places row ws _ h; omega
  | succ n ih =>
    intro i places row ws hM hn hp hw hwv
    show ∃ row' : List (T_api_Value × Int), column_dictionary_L1_body _ _ _ _ _ _ _ = _ ∧ _
    unfold column_dictionary_L1_body
    rcases hd : l.drop i with _ | ⟨x, r⟩
    · have := drop_nil hd
      rw [dec_f (by omega), cond_false]
      exact ⟨row, by simp [dRun], hM.1⟩
    have hlt := drop_lt hd
    have hx := hv x (mem_drop hd)
    have hpl := plainB_len hwv
    have hM1 := hM.1
    rw [hd] at hn
    simp only [List.length_cons] at hn
    rw [dec_t (by omega), cond_true, idxL_drop hd, Option.bind_some, hM.2 x]
    cases hq : posI x ws with
    | some j =>
      have hj := (List.getElem?_eq_some_iff.1 (posI_lt hq)).1
      have hpj := pI_len (j : Int)
      simp only [Option.map_some, Option.isSome_some, Bool.not_true, cond_false, Option.getD_some, Option.bind_some]
      rw [codec_PutInt_eq (by unfold okI64; omega) (by omega) (by omega), Option.bind_some, step64 (by omega)]
      obtain ⟨row', g1, g2⟩ := ih (i + 1) (places ++ venc 9 (zenc (j : Int))) row ws hM (by rw [drop_step hd]; omega) (by rw [List.length_append]; unfold pI at hpj; omega) (by omega) hwv
      rw [drop_step hd] at g1 g2
      have e : dRun ws (x :: r) = ((dRun ws r).1, pI j ++ (dRun ws r).2) := by rw [dRun, hq]
      refine ⟨row', ?_, ?_⟩
      · rw [g1, e]; simp [pI]
      · rw [g2, e]
    | none =>
      have hpj := pI_len (ws.length : Int)
      simp only [Option.map_none, Option.isSome_none, Bool.not_false, cond_true]
      rw [need_t (by omega), Option.bind_some, column_put_eq hk hx (by omega), Option.bind_some, Option.bind_some]
      simp only
      rw [hM1, codec_PutInt_eq (by unfold okI64; omega) (by omega) (by omega), Option.bind_some, step64 (by omega)]
      have e1 : plainB ws ++ vB x = plainB (ws ++ [x]) := by rw [plainB_app]; simp [plainB]
      obtain ⟨row', g1, g2⟩ := ih (i + 1) (places ++ venc 9 (zenc (ws.length : Int))) (mput row x (row.length : Int)) (ws ++ [x]) (hM.put hq) (by rw [drop_step hd]; omega) (by rw [List.length_append]; unfold pI at hpj; omega) (by simp; omega) (fun v hv => by
        rcases List.mem_append.1 hv with hv | hv
        · exact hwv v hv
        · simp at hv; subst hv; exact hx)
      rw [drop_step hd] at g1 g2
      rw [hM1] at g1
      have e : dRun ws (x :: r) = ((dRun (ws ++ [x]) r).1, pI ws.length ++ (dRun (ws ++ [x]) r).2) := by rw [dRun, hq]
      refine ⟨row', ?_, ?_⟩
      · rw [e1, g1, e]; simp [pI]
      · rw [g2, e]
theorem Concat3_eq {a b c : List Int} (ha : a.length ≤ 10000000) (hb : b.length ≤ 10000000) (hc : c.length ≤ 10000000) : slices_Concat_byte_byte 200000 [a, b, c] = some (a ++ b ++ c) := by
  unfold slices_Concat_byte_byte
  have h1 : slices_Concat_byte_byte_L1 200000 [a, b, c] 200000 0 0 = some ((a.length : Int) + b.length + c.length) := by
    obtain ⟨g, hg⟩ : ∃ g, 200000 = g + 4 := ⟨200000 - 4, by omega⟩
    suffices h : ∀ K, slices_Concat_byte_byte_L1 K [a, b, c] (g + 4) 0 0 = some ((a.length : Int) + b.length + c.length) by rw [← hg] at h; exact h _
    intro K
    show slices_Concat_byte_byte_L1_body _ _ _ _ _ = _
    unfold slices_Concat_byte_byte_L1_body
    rw [dec_t (by simp), cond_true, show idxL [a, b, c] 0 = some a from rfl, Option.bind_some, w64 (by omega) (by omega), dec_f (by omega), cond_false]
    show slices_Concat_byte_byte_L1_body _ _ _ _ 1 = _
    unfold slices_Concat_byte_byte_L1_body
    rw [dec_t (by simp), cond_true, show idxL [a, b, c] 1 = some b from rfl, Option.bind_some, w64 (by omega) (by omega), dec_f (by omega), cond_false]
    show slices_Concat_byte_byte_L1_body _ _ _ _ 2 = _
    unfold slices_Concat_byte_byte_L1_body
    rw [dec_t (by simp), cond_true, show idxL [a, b, c] 2 = some c from rfl, Option.bind_some, w64 (by omega) (by omega), dec_f (by omega), cond_false]
    show slices_Concat_byte_byte_L1_body _ _ _ _ 3 = _
    unfold slices_Concat_byte_byte_L1_body
    rw [dec_f (by simp), cond_false, Int.zero_add]
  have h2 : slices_Grow_byte_byte ((a.length : Int) + b.length + c.length) = some [] := by
    unfold slices_Grow_byte_byte
    rw [dec_f (by omega), cond_false, Option.bind_some, show w_i64 ((0 : Int) - ((0 : Nat) : Int)) = 0 from rfl, w64 (by omega) (by omega)]
    by_cases h : (a.length : Int) + b.length + c.length - 0 > 0
    · rw [dec_t h, cond_true, need_t (by omega), Option.bind_some]
    · rw [dec_f h, cond_false]
  have h3 : slices_Concat_byte_byte_L2 200000 [a, b, c] 200000 0 [] = some (a ++ b ++ c) := by
    obtain ⟨g, hg⟩ : ∃ g, 200000 = g + 4 := ⟨200000 - 4, by omega⟩
    suffices h : ∀ K, slices_Concat_byte_byte_L2 K [a, b, c] (g + 4) 0 [] = some (a ++ b ++ c) by rw [← hg] at h; exact h _
    intro K
    show slices_Concat_byte_byte_L2_body _ _ _ _ _ = _
    unfold slices_Concat_byte_byte_L2_body
    rw [dec_t (by simp), cond_true, show idxL [a, b, c] 0 = some a from rfl, Option.bind_some, need_t (by simp; omega), Option.bind_some]
    show slices_Concat_byte_byte_L2_body _ _ _ 1 _ = _
    unfold slices_Concat_byte_byte_L2_body
    rw [dec_t (by simp), cond_true, show idxL [a, b, c] 1 = some b from rfl, Option.bind_some, need_t (by simp; omega), Option.bind_some]
    show slices_Concat_byte_byte_L2_body _ _ _ 2 _ = _
    unfold slices_Concat_byte_byte_L2_body
    rw [dec_t (by simp), cond_true, show idxL [a, b, c] 2 = some c from rfl, Option.bind_some, need_t (by simp; omega), Option.bind_some]
    show slices_Concat_byte_byte_L2_body _ _ _ 3 _ = _
    unfold slices_Concat_byte_byte_L2_body
    rw [dec_f (by simp), cond_false, List.nil_append]
  rw [h1, Option.bind_some, h2, Option.bind_some, h3, Option.bind_some]
theorem column_dictionary_eq {k : Int} (hk : KK k) {l : List T_api_Value} (hv : ∀ v ∈ l, VV k v) (hl : l.length ≤ 20000) : column_dictionary 200000 l = some (dictB l) := by
  unfold column_dictionary dictB
  obtain ⟨row', g1, g2⟩ := dict_loop hk hv hl 200000 0 [] [] [] ⟨rfl, fun v => rfl⟩ (by simp; omega) (by simp) (by simp) (by simp)
  rw [show column_dictionary_L1 200000 l 200000 [] 0 [] [] = _ from g1, Option.bind_some]
  rw [List.drop_zero] at *
  have hlen := dRun_len l []
  have hw : ∀ v ∈ (dRun [] l).1, VV k v := fun v h => by rcases dRun_mem l [] v h with h | h; cases h; exact hv v h
  have hpl := plainB_len hw
  simp only [List.length_nil] at hlen
  have hp := pI_len ((dRun [] l).1.length : Int)
  simp only [List.nil_append]
  unfold pI at hp ⊢
  rw [g2, codec_PutInt_eq (by unfold okI64; omega) (by simp) (by omega), Option.bind_some, List.nil_append, Concat3_eq (by omega) (by omega) (by omega), Option.bind_some]
theorem R33_at_eq {l : List T_api_Value} {v : T_api_Value} (hl : l.length ≤ 100000) : R33_at 200000 l v = some (match posI v l with | some i => (i : Int) | none => -1) := by
  unfold R33_at
  have key : ∀ (n i : Nat), (l.drop i).length < n → R33_at_L1 200000 l v n (i : Nat) = some (match posI v (l.drop i) with | some j => .inr ((i + j : Nat) : Int) | none => .inl ()) := by
    intro n
    induction n with
    | zero => intro i h; omega
    | succ n ih =>
      intro i hn
      show R33_at_L1_body _ _ _ _ _ = _
      unfold R33_at_L1_body
      rcases hd : l.drop i with _ | ⟨x, r⟩
      · have := drop_nil hd
        rw [dec_f (by omega), cond_false]; rfl
      have hlt := drop_lt hd
      rw [hd] at hn
      simp only [List.length_cons] at hn
      rw [dec_t (by omega), cond_true, idxL_drop hd, Option.bind_some]
      by_cases hx : x = v
      · rw [dec_t hx, cond_true, posI, if_pos hx]; rfl
      · rw [dec_f hx, cond_false, step64 (by omega), ih (i + 1) (by rw [drop_step hd]; omega), drop_step hd, posI, if_neg hx]
        cases posI v r with
        | none => rfl
        | some j => simp only [Option.map_some]; congr 2; omega
  rw [show R33_at_L1 200000 l v 200000 0 = _ from key 200000 0 (by simp; omega), Option.bind_some, List.drop_zero]
  cases posI v l with
  | none => rfl
  | some j => simp
theorem Rdict_loop {k : Int} (hk : KK k) {l : List T_api_Value} (hv : ∀ v ∈ l, VV k v) (hl : l.length ≤ 20000) : ∀ (n i : Nat) (places : List Int) (ws : List T_api_Value), (l.drop i).length < n → places.length ≤ i * 10 → ws.length ≤ i →
    R33_dictionary_L1 200000 l n places (i : Nat) ws = some (places ++ (dRun ws (l.drop i)).2, (dRun ws (l.drop i)).1) := by
  intro n
  induction n with
  | zero => intro i places ws h; omega
  | succ n ih =>
    intro i places ws hn hp hw
    show R33_dictionary_L1_body _ _ _ _ _ _ = _
    unfold R33_dictionary_L1_body
    rcases hd : l.drop i with _ | ⟨x, r⟩
    · have := drop_nil hd
      rw [dec_f (by omega), cond_false]
      simp [dRun]
    have hlt := drop_lt hd
    rw [hd] at hn
    simp only [List.length_cons] at hn
    rw [dec_t (by omega), cond_true, idxL_drop hd, Option.bind_some, R33_at_eq (by omega), Option.bind_some]
    cases hq : posI x ws with
    | some j =>
      have hj := (List.getElem?_eq_some_iff.1 (posI_lt hq)).1
      have hpj := pI_len (j : Int)
      simp only
      rw [dec_f (by omega), cond_false, Option.bind_some, Option.bind_some, R33_at_eq (by omega), hq, Option.bind_some]
      simp only
      rw [R05_PutInt_eq (by unfold okI64; omega) (by omega) (by omega), Option.bind_some, Option.bind_some, step64 (by omega)]
      simp only
      rw [ih (i + 1) _ ws (by rw [drop_step hd]; omega) (by rw [List.length_append]; unfold pI at hpj; omega) (by omega), drop_step hd, dRun, hq]
      simp [pI]
    | none =>
      have hpj := pI_len (ws.length : Int)
      have hq2 : posI x (ws ++ [x]) = some ws.length := by rw [posI_app, hq]; simp
      simp only
      rw [dec_t (by omega), cond_true, Option.bind_some, need_t (by simp; omega), Option.bind_some, Option.bind_some, Option.bind_some, R33_at_eq (by simp; omega), hq2, Option.bind_some]
      simp only
      rw [R05_PutInt_eq (by unfold okI64; omega) (by omega) (by omega), Option.bind_some, Option.bind_some, step64 (by omega)]
      simp only
      rw [ih (i + 1) _ (ws ++ [x]) (by rw [drop_step hd]; omega) (by rw [List.length_append]; unfold pI at hpj; omega) (by simp; omega), drop_step hd, dRun, hq]
      simp [pI]
theorem R33_dictionary_eq {k : Int} (hk : KK k) {l : List T_api_Value} (hv : ∀ v ∈ l, VV k v) (hl : l.length ≤ 20000) : R33_dictionary 200000 l = some (dictB l) := by
  unfold R33_dictionary dictB
  rw [show R33_dictionary_L1 200000 l 200000 [] 0 [] = _ from Rdict_loop hk hv hl 200000 0 [] [] (by simp; omega) (by simp) (by simp), Option.bind_some]
  rw [List.drop_zero] at *
  have hlen := dRun_len l []
  have hw : ∀ v ∈ (dRun [] l).1, VV k v := fun v h => by rcases dRun_mem l [] v h with h | h; cases h; exact hv v h
  have hpl := plainB_len hw
  simp only [List.length_nil] at hlen
  have hp := pI_len ((dRun [] l).1.length : Int)
  simp only [List.nil_append]
  unfold pI at *
  rw [R05_PutInt_eq (by unfold okI64; omega) (by simp) (by omega), Option.bind_some, List.nil_append, R33_plain_eq hk hw (by omega), Option.bind_some, need_t (by omega), Option.bind_some, need_t (by simp only [List.length_append]; omega), Option.bind_some]
def pk33 : T_api_Packed := ⟨0, 0, []⟩
def errV (k : Int) (l : List T_api_Value) : Unit ⊕ (T_api_Packed × Int) := firstBad (fun _ v => if valS k v ≠ 0 then some (pk33, valS k v) else none) 0 l
def best1 (l : List T_api_Value) : List Int × Int := if (runsB l).length < (plainB l).length then (runsB l, 1) else (plainB l, 0)
def best2 (k : Int) (l : List T_api_Value) : List Int × Int := if (difS k l).2 = true ∧ (difS k l).1.length < (best1 l).1.length then ((difS k l).1, 2) else best1 l
def best3 (k : Int) (l : List T_api_Value) : List Int × Int := if (dictB l).length < (best2 k l).1.length then (dictB l, 3) else best2 k l
def bestS (k : Int) (l : List T_api_Value) : List Int := (best3 k l).2 :: (best3 k l).1
def encS (k : Int) (l : List T_api_Value) : T_api_Packed × Int :=
  if k < 1 ∨ k > 3 then (pk33, 1) else if l.length > 20000 then (pk33, 7) else match errV k l with
  | .inr q => q
  | .inl _ => (⟨k, l.length, bestS k l⟩, 0)
theorem errV_all {k : Int} {l : List T_api_Value} (h : errV k l = .inl ()) : ∀ v ∈ l, valS k v = 0 := by
  intro v hv
  obtain ⟨i, hi, rfl⟩ := List.getElem_of_mem hv
  have := firstBad_none h i _ (List.getElem?_eq_getElem hi)
  by_cases hz : valS k l[i] = 0
  · exact hz
  · rw [if_pos hz] at this; cases this
theorem encV_loop {k : Int} {l : List T_api_Value} (hl : l.length ≤ 20000) : column_Encode_L1 200000 k l 200000 0 = some (errV k l) := by
  unfold errV
  refine bad_loop (l := l) (column_Encode_L1 200000 k l) _ (fun n i hi => ?_) (fun n i x r hd hlt => ?_) (by omega)
  · show column_Encode_L1_body _ _ _ _ _ = _
    unfold column_Encode_L1_body
    rw [dec_f (by omega), cond_false]
  · have hb : column_Encode_L1 200000 k l (n + 1) (i : Nat) = bif (valS k x != 0) then some (.inr (pk33, valS k x)) else column_Encode_L1 200000 k l n ((i + 1 : Nat) : Int) := by
      show column_Encode_L1_body _ _ _ _ _ = _
      unfold column_Encode_L1_body
      rw [dec_t (by omega), cond_true, idxL_drop hd, Option.bind_some, column_Value_eq, Option.bind_some, step64 (by omega)]; rfl
    rw [hb]
    by_cases hz : valS k x ≠ 0
    · rw [if_pos hz, bne_t hz]; exact ⟨fun b h => (by injection h with h; rw [← h]; rfl), fun h => (by cases h)⟩
    · rw [if_neg hz, bne_f (by omega)]; exact ⟨fun b h => (by cases h), fun _ => rfl⟩
theorem RencV_loop {k : Int} {l : List T_api_Value} (hl : l.length ≤ 20000) : R33_Encode_L1 200000 k l 200000 0 = some (errV k l) := by
  unfold errV
  refine bad_loop (l := l) (R33_Encode_L1 200000 k l) _ (fun n i hi => ?_) (fun n i x r hd hlt => ?_) (by omega)
  · show R33_Encode_L1_body _ _ _ _ _ = _
    unfold R33_Encode_L1_body
    rw [dec_f (by omega), cond_false]
  · have hb : R33_Encode_L1 200000 k l (n + 1) (i : Nat) = bif (valS k x != 0) then some (.inr (pk33, valS k x)) else R33_Encode_L1 200000 k l n ((i + 1 : Nat) : Int) := by
      show R33_Encode_L1_body _ _ _ _ _ = _
      unfold R33_Encode_L1_body
      rw [dec_t (by omega), cond_true, idxL_drop hd, Option.bind_some, R33_Value_eq, Option.bind_some, step64 (by omega)]; rfl
    rw [hb]
    by_cases hz : valS k x ≠ 0
    · rw [if_pos hz, bne_t hz]; exact ⟨fun b h => (by injection h with h; rw [← h]; rfl), fun h => (by cases h)⟩
    · rw [if_neg hz, bne_f (by omega)]; exact ⟨fun b h => (by cases h), fun _ => rfl⟩
theorem codes_len {k : Int} {l : List T_api_Value} (hv : ∀ v ∈ l, VV k v) (hl : l.length ≤ 20000) : (plainB l).length ≤ 5000000 ∧ (runsB l).length ≤ 5000000 ∧ (difS k l).1.length ≤ 5000000 ∧ (dictB l).length ≤ 5000000 := by
  have h1 := plainB_len hv
  have h2 := runsB_len hv
  have h3 := diffB_len l 0
  have hlen := dRun_len l []
  have hw : ∀ v ∈ (dRun [] l).1, VV k v := fun v h => by rcases dRun_mem l [] v h with h | h; cases h; exact hv v h
  have hpl := plainB_len hw
  have hp := pI_len ((dRun [] l).1.length : Int)
  simp only [List.length_nil] at hlen
  refine ⟨by omega, by omega, ?_, ?_⟩
  · unfold difS; split
    · simp
    split
    · simp
    · simp only; omega
  · unfold dictB; simp only [List.length_append]; omega
theorem column_Encode_eq {k : Int} {l : List T_api_Value} : column_Encode 200000 k l = some (encS k l) := by
  unfold column_Encode column_known encS
  by_cases hk : k < 1 ∨ k > 3
  · rw [if_pos hk, show ((k != (1 : Int)) && ((k != (2 : Int)) && (k != (3 : Int)))) = true by simp; omega, cond_true, Option.bind_some]; rfl
  rw [if_neg hk, show ((k != (1 : Int)) && ((k != (2 : Int)) && (k != (3 : Int)))) = false by simp; omega, cond_false, Option.bind_some, bne_f rfl, cond_false]
  have hkk : KK k := by unfold KK; omega
  by_cases hl : l.length > 20000
  · rw [dec_t (by omega), cond_true, if_pos hl]; rfl
  rw [dec_f (by omega), cond_false, if_neg hl, encV_loop (by omega), Option.bind_some]
  cases he : errV k l with
  | inr q => rfl
  | inl u =>
    simp only
    have hv : ∀ v ∈ l, VV k v := fun v h => vv_of (errV_all he v h)
    obtain ⟨c1, c2, c3, c4⟩ := codes_len hv (by omega)
    rw [column_plain_eq hkk hv (by omega), Option.bind_some, column_runs_eq hkk hv (by omega), Option.bind_some]
    have e1 : (bif decide ((((runsB l).length : Nat) : Int) < (((plainB l).length : Nat) : Int)) then some (runsB l, (1 : Int)) else some (plainB l, (0 : Int))) = some (best1 l) := by
      unfold best1
      by_cases h : (runsB l).length < (plainB l).length
      · rw [dec_t (by omega), if_pos h]; rfl
      · rw [dec_f (by omega), if_neg h]; rfl
    rw [e1, Option.bind_some, column_differences_eq hv (by omega), Option.bind_some]
    have hb1 : (best1 l).1.length ≤ 5000000 ∧ 0 ≤ (best1 l).2 ∧ (best1 l).2 ≤ 3 := by unfold best1; split <;> simp <;> omega
    have e2 : (bif ((difS k l).2 && decide ((((difS k l).1.length : Nat) : Int) < (((best1 l).1.length : Nat) : Int))) then some ((difS k l).1, (2 : Int)) else some ((best1 l).1, (best1 l).2)) = some (best2 k l) := by
      unfold best2
      by_cases h : (difS k l).2 = true ∧ (difS k l).1.length < (best1 l).1.length
      · rw [if_pos h, h.1, dec_t (by omega)]; rfl
      · rw [if_neg h]
        by_cases h1 : (difS k l).2 = true
        · rw [h1, dec_f (fun e => h ⟨h1, by omega⟩)]; rfl
        · rw [show (difS k l).2 = false by simpa using h1]; rfl
    rw [e2, Option.bind_some, column_dictionary_eq hkk hv (by omega), Option.bind_some]
    have hb2 : (best2 k l).1.length ≤ 5000000 ∧ 0 ≤ (best2 k l).2 ∧ (best2 k l).2 ≤ 3 := by unfold best2; split <;> (try simp only) <;> omega
    have e3 : (bif decide ((((dictB l).length : Nat) : Int) < (((best2 k l).1.length : Nat) : Int)) then some (dictB l, (3 : Int)) else some ((best2 k l).1, (best2 k l).2)) = some (best3 k l) := by
      unfold best3
      by_cases h : (dictB l).length < (best2 k l).1.length
      · rw [dec_t (by omega), if_pos h]; rfl
      · rw [dec_f (by omega), if_neg h]; rfl
    have hb3 : (best3 k l).1.length ≤ 5000000 ∧ 0 ≤ (best3 k l).2 ∧ (best3 k l).2 ≤ 3 := by unfold best3; split <;> (try simp only) <;> omega
    rw [e3, Option.bind_some, need_t (by simp; omega), Option.bind_some, wu8 (by omega) (by omega)]
    rfl
theorem R33_Encode_eq {k : Int} {l : List T_api_Value} : R33_Encode 200000 k l = some (encS k l) := by
  unfold R33_Encode encS
  by_cases hk : k < 1 ∨ k > 3
  · rw [if_pos hk, or_t hk]; rfl
  rw [if_neg hk, or_f hk, cond_false]
  have hkk : KK k := by unfold KK; omega
  by_cases hl : l.length > 20000
  · rw [dec_t (by omega), cond_true, if_pos hl]; rfl
  rw [dec_f (by omega), cond_false, if_neg hl, RencV_loop (by omega), Option.bind_some]
  cases he : errV k l with
  | inr q => rfl
  | inl u =>
    simp only
    have hv : ∀ v ∈ l, VV k v := fun v h => vv_of (errV_all he v h)
    obtain ⟨c1, c2, c3, c4⟩ := codes_len hv (by omega)
    rw [R33_plain_eq hkk hv (by omega), Option.bind_some, need_t (by simp; omega), Option.bind_some, R33_runs_eq hkk hv (by omega), Option.bind_some, need_t (by simp; omega), Option.bind_some]
    have hb1 : (best1 l).1.length ≤ 5000000 ∧ 0 ≤ (best1 l).2 ∧ (best1 l).2 ≤ 3 := by unfold best1; split <;> simp <;> omega
    have e1 : (bif decide (((((([(1 : Int)] : List Int) ++ (runsB l))).length : Nat) : Int) < ((((([(0 : Int)] : List Int) ++ (plainB l))).length : Nat) : Int)) then some (([(1 : Int)] : List Int) ++ (runsB l)) else some (([(0 : Int)] : List Int) ++ (plainB l))) = some ((best1 l).2 :: (best1 l).1) := by
      unfold best1
      by_cases h : (runsB l).length < (plainB l).length
      · rw [dec_t (by simp; omega), if_pos h]; rfl
      · rw [dec_f (by simp; omega), if_neg h]; rfl
    rw [e1, Option.bind_some, R33_differences_eq hkk hv (by omega), Option.bind_some]
    have e2 : (bif ((difS k l).2 && decide ((w_i64 ((((difS k l).1.length : Nat) : Int) + (1 : Int))) < ((((best1 l).2 :: (best1 l).1).length : Nat) : Int))) then (need (((([(2 : Int)] : List Int)).length + ((difS k l).1).length) * 1 ≤ 140737488355328)).bind fun _ => some (([(2 : Int)] : List Int) ++ (difS k l).1) else some ((best1 l).2 :: (best1 l).1)) = some ((best2 k l).2 :: (best2 k l).1) := by
      unfold best2
      rw [w64 (by omega) (by omega), List.length_cons]
      by_cases h : (difS k l).2 = true ∧ (difS k l).1.length < (best1 l).1.length
      · rw [if_pos h, h.1, dec_t (by omega), Bool.and_self, cond_true, need_t (by simp; omega)]; rfl
      · rw [if_neg h]
        by_cases h1 : (difS k l).2 = true
        · rw [h1, dec_f (fun e => h ⟨h1, by omega⟩)]; rfl
        · rw [show (difS k l).2 = false by simpa using h1]; rfl
    rw [e2, Option.bind_some, R33_dictionary_eq hkk hv (by omega), Option.bind_some, need_t (by simp; omega), Option.bind_some]
    have hb2 : (best2 k l).1.length ≤ 5000000 ∧ 0 ≤ (best2 k l).2 ∧ (best2 k l).2 ≤ 3 := by unfold best2; split <;> (try simp only) <;> omega
    have e3 : (bif decide (((((([(3 : Int)] : List Int) ++ (dictB l))).length : Nat) : Int) < ((((best2 k l).2 :: (best2 k l).1).length : Nat) : Int)) then some (([(3 : Int)] : List Int) ++ (dictB l)) else some ((best2 k l).2 :: (best2 k l).1)) = some (bestS k l) := by
      unfold bestS best3
      by_cases h : (dictB l).length < (best2 k l).1.length
      · rw [dec_t (by simp; omega), if_pos h]; rfl
      · rw [dec_f (by simp; omega), if_neg h]; rfl
    rw [e3, Option.bind_some]
end Go.Ab
