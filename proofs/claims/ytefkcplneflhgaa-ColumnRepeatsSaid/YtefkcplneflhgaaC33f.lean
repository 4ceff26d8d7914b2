/- Columns: what was encoded is read back; the laws. -/
import Derived.Test.YtefkcplneflhgaaC33e
import Derived.Test.YtefkcplneflhgaaR33
namespace Go.Ab
open Go
set_option linter.unusedVariables false

theorem rdN_pI {n : Int} {more : List Int} (h : okI64 n) : rdN (pI n ++ more) = some (n, more) := by
  unfold rdN pI
  rw [vrd_put h]
  simp
theorem txt_put {s more : List Int} {most : Int} (hl : s.length ≤ 1000000) : txt (venc 9 (zenc s.length) ++ s ++ more) most = if (s.length : Int) > most then ([], 0, 7) else (s, (((venc 9 (zenc s.length)) ++ s).length : Int), 0) := by
  unfold txt
  rw [List.append_assoc, vrd_put (by unfold okI64; omega)]
  simp only
  generalize venc 9 (zenc s.length) = v
  rw [if_neg (by simp), if_neg (by omega)]
  split
  · rfl
  · rw [if_neg (by simp only [List.length_append]; omega)]
    congr 1
    · unfold sub
      rw [show ((v.length : Int) + (s.length : Int)).toNat = v.length + s.length by omega, Int.toNat_natCast, ← List.append_assoc, List.take_left' (by simp), List.drop_left' rfl]
    · simp
theorem rdV_vB {k : Int} {v : T_api_Value} {more : List Int} (hk : KK k) (hv : VV k v) : rdV (vB v ++ more) = some (v, more) := by
  obtain ⟨h1, h2, h3, h4, h5, h6⟩ := hv
  unfold KK at hk
  unfold vB
  rw [List.cons_append, rdV_cons]
  cases v with | mk K N S =>
  simp only at *
  by_cases c0 : K = 0
  · rw [if_pos c0, if_neg (by omega), if_neg (by omega), h5 (by omega), h6 (.inl c0), c0]; rfl
  rw [if_neg c0]
  by_cases c1 : K = 1 ∨ K = 2
  · rw [if_pos c1, if_pos c1, rdN_pI (by unfold okI64; omega), h5 (by omega)]
  rw [if_neg c1, if_neg c1]
  have c3 : K = 3 := by omega
  rw [if_pos c3, if_pos c3]
  unfold pI
  rw [txt_put (by omega), if_neg (show ¬ ((S.length : Int) > 200) by omega), if_pos rfl, h6 (.inr c3), c3]
  simp only [Int.toNat_natCast]
  rw [List.drop_left' rfl]
theorem rdVs_plain {k : Int} (hk : KK k) {more : List Int} : ∀ {l : List T_api_Value}, (∀ v ∈ l, VV k v) → rdVs l.length (plainB l ++ more) = some (l, more) := by
  intro l
  induction l with
  | nil => intro _; rfl
  | cons v r ih =>
    intro h
    have e : plainB (v :: r) ++ more = vB v ++ (plainB r ++ more) := by simp [plainB]
    rw [e, List.length_cons]
    unfold rdVs
    rw [rdV_vB hk (h v (by simp))]
    simp only
    rw [ih (fun x hx => h x (by simp [hx]))]
theorem lead_take (v : T_api_Value) : ∀ r : List T_api_Value, List.replicate (lead v r) v ++ r.drop (lead v r) = r := by
  intro r
  induction r with
  | nil => rfl
  | cons x r ih =>
    unfold lead
    by_cases hx : x = v
    · rw [if_pos hx, List.replicate_succ, List.drop_succ_cons, List.cons_append, ih, hx]
    · rw [if_neg hx]; rfl
theorem rdR_runs {k : Int} (hk : KK k) {more : List Int} : ∀ (f : Nat) {l : List T_api_Value}, (∀ v ∈ l, VV k v) → l.length ≤ f → f ≤ 100000 → rdR f l.length (runsB l ++ more) = some (l, more) := by
  intro f
  induction f with
  | zero =>
    intro l _ hl _
    have : l = [] := List.length_eq_zero_iff.1 (by omega)
    rw [this]; rfl
  | succ f ih =>
    intro l h hl hf
    rcases l with _ | ⟨v, r⟩
    · rfl
    have hle := lead_le v r
    simp only [List.length_cons] at hl ⊢
    have e : runsB (v :: r) ++ more = pI ((lead v r + 1 : Nat) : Int) ++ (vB v ++ (runsB (r.drop (lead v r)) ++ more)) := by rw [runsB_cons]; simp
    rw [e]
    unfold rdR
    rw [rdN_pI (by unfold okI64; omega)]
    simp only
    rw [if_neg (by omega), rdV_vB hk (h v (by simp))]
    simp only
    rw [Int.toNat_natCast]
    have hi := ih (l := r.drop (lead v r)) (fun x hx => h x (List.mem_cons_of_mem _ (List.mem_of_mem_drop hx))) (by rw [List.length_drop]; omega) (by omega)
    rw [List.length_drop] at hi
    rw [show r.length + 1 - (lead v r + 1) = r.length - lead v r by omega, hi]
    simp only
    rw [List.replicate_succ, List.cons_append, lead_take]
theorem rdD_diff {k : Int} {more : List Int} : ∀ {l : List T_api_Value} {last : Int}, (∀ v ∈ l, v.Kind = k ∧ v.S = [] ∧ -1000000000000000 ≤ v.N ∧ v.N ≤ 1000000000000000) → -1000000000000000 ≤ last → last ≤ 1000000000000000 → rdD k last l.length (diffB last l ++ more) = some (l, more) := by
  intro l
  induction l with
  | nil => intro last _ _ _; rfl
  | cons v r ih =>
    intro last h h0 h1
    obtain ⟨a1, a2, a3, a4⟩ := h v (by simp)
    have e : diffB last (v :: r) ++ more = pI (v.N - last) ++ (diffB v.N r ++ more) := by simp [diffB]
    rw [e, List.length_cons]
    unfold rdD
    rw [rdN_pI (by unfold okI64; omega)]
    simp only
    rw [show last + (v.N - last) = v.N by omega, w64 (by omega) (by omega), ih (fun x hx => h x (by simp [hx])) a3 a4]
    simp only
    cases v; simp_all
theorem dRun_pre : ∀ (l ws : List T_api_Value), ∃ t, (dRun ws l).1 = ws ++ t := by
  intro l
  induction l with
  | nil => intro ws; exact ⟨[], by simp [dRun]⟩
  | cons v r ih =>
    intro ws
    unfold dRun
    cases hp : posI v ws with
    | some i => exact ih ws
    | none =>
      obtain ⟨t, ht⟩ := ih (ws ++ [v])
      exact ⟨v :: t, by simp only; rw [ht]; simp⟩
theorem rdP_dict {more : List Int} : ∀ {l : List T_api_Value} {ws0 ws : List T_api_Value}, ws.length ≤ 1000000 → (∃ t, ws = (dRun ws0 l).1 ++ t) → rdP ws l.length ((dRun ws0 l).2 ++ more) = some (l, more) := by
  intro l
  induction l with
  | nil => intro ws0 ws _ _; rfl
  | cons v r ih =>
    intro ws0 ws hl ht
    obtain ⟨t, ht⟩ := ht
    rw [List.length_cons]
    cases hp : posI v ws0 with
    | some i =>
      have e : dRun ws0 (v :: r) = ((dRun ws0 r).1, pI i ++ (dRun ws0 r).2) := by rw [dRun, hp]
      rw [e] at ht ⊢
      simp only at ht ⊢
      obtain ⟨t2, ht2⟩ := dRun_pre r ws0
      have hw : ws[i]? = some v := by
        have := posI_lt hp
        have hlt := (List.getElem?_eq_some_iff.1 this).1
        rw [ht, ht2, List.append_assoc, List.getElem?_append_left hlt, this]
      have hlt := (List.getElem?_eq_some_iff.1 hw).1
      rw [List.append_assoc]
      unfold rdP
      rw [rdN_pI (by unfold okI64; omega)]
      simp only
      rw [if_neg (by omega), Int.toNat_natCast, hw]
      simp only
      rw [ih hl ⟨t, ht⟩]
    | none =>
      have e : dRun ws0 (v :: r) = ((dRun (ws0 ++ [v]) r).1, pI ws0.length ++ (dRun (ws0 ++ [v]) r).2) := by rw [dRun, hp]
      rw [e] at ht ⊢
      simp only at ht ⊢
      obtain ⟨t2, ht2⟩ := dRun_pre r (ws0 ++ [v])
      have hw : ws[ws0.length]? = some v := by
        rw [ht, ht2, List.append_assoc, List.append_assoc, List.getElem?_append_right (Nat.le_refl _)]; simp
      have hlt := (List.getElem?_eq_some_iff.1 hw).1
      rw [List.append_assoc]
      unfold rdP
      rw [rdN_pI (by unfold okI64; omega)]
      simp only
      rw [if_neg (by omega), Int.toNat_natCast, hw]
      simp only
      rw [ih hl ⟨t, ht⟩]
theorem dict_read {k : Int} (hk : KK k) {l : List T_api_Value} (hv : ∀ v ∈ l, VV k v) (hl : l.length ≤ 20000) : decD l.length (dictB l) = some l := by
  have hlen := dRun_len l []
  simp only [List.length_nil] at hlen
  have hw : ∀ v ∈ (dRun [] l).1, VV k v := fun v h => by rcases dRun_mem l [] v h with h | h; cases h; exact hv v h
  unfold decD dictB
  rw [List.append_assoc, rdN_pI (by unfold okI64; omega)]
  simp only
  rw [if_neg (by omega), Int.toNat_natCast, rdVs_plain hk hw]
  simp only
  have := rdP_dict (more := []) (l := l) (ws0 := []) (ws := (dRun [] l).1) (by omega) ⟨[], by simp⟩
  rw [List.append_nil] at this
  rw [this]; rfl
theorem best_read {k : Int} (hk : KK k) {l : List T_api_Value} (hv : ∀ v ∈ l, VV k v) (hl : l.length ≤ 20000) : decB (best3 k l).2 k l.length (best3 k l).1 = some l := by
  unfold best3
  split
  · unfold decB; rw [if_neg (by simp), if_neg (by simp), if_neg (by simp), if_pos rfl]; exact dict_read hk hv hl
  unfold best2
  split
  · rename_i h
    unfold decB; rw [if_neg (by simp), if_neg (by simp), if_pos rfl]
    have h1 := h.1
    unfold difS at h1 ⊢
    by_cases k3 : k = 3
    · rw [if_pos k3] at h1; cases h1
    rw [if_neg k3] at h1 ⊢
    by_cases hn : anyNull l = true
    · rw [if_pos hn] at h1; cases h1
    rw [if_neg hn]
    have := rdD_diff (k := k) (more := []) (l := l) (last := 0) (fun v hm => by
      have := hv v hm
      have hz : v.Kind ≠ 0 := fun hz => hn (by unfold anyNull; exact List.any_eq_true.2 ⟨v, hm, by rw [hz]; rfl⟩)
      obtain ⟨a1, a2, a3, a4, a5, a6⟩ := this
      exact ⟨by omega, a5 (by omega), a2, a3⟩) (by omega) (by omega)
    rw [List.append_nil] at this
    simp only
    rw [this]; rfl
  unfold best1
  split
  · unfold decB; rw [if_neg (by simp), if_pos rfl]
    have := rdR_runs hk (more := []) l.length hv (Nat.le_refl _) (by omega)
    rw [List.append_nil] at this
    simp only
    rw [this]; rfl
  · unfold decB; rw [if_pos rfl]
    have := rdVs_plain hk (more := []) hv
    rw [List.append_nil] at this
    simp only
    rw [this]; rfl
theorem dec_enc {k : Int} {l : List T_api_Value} (h : (encS k l).2 = 0) : decS (encS k l).1 = (l, 0) := by
  obtain ⟨h1, h2, h3, h4⟩ := encS_type h
  have hkk : KK k := by unfold KK; omega
  have hb := best_read hkk h3 h2
  have he : encS k l = (⟨k, l.length, bestS k l⟩, 0) := Prod.ext h4 h
  rw [h4]
  unfold decS
  rw [if_neg (by simpa using h1), if_neg (by simp only; omega), if_neg (by simp only; omega)]
  unfold bestS at he ⊢
  simp only
  rw [Int.toNat_natCast, hb]
  simp only
  rw [if_pos he]
theorem decS_zero {p : T_api_Packed} (h : (decS p).2 = 0) : encS p.Type_ (decS p).1 = (p, 0) ∧ ∃ c b, p.Bytes = c :: b := by
  unfold decS at h ⊢
  split at h
  · cases h
  rename_i h1
  split at h
  · cases h
  rename_i h2
  split at h
  · cases h
  rename_i h3
  rw [if_neg h1, if_neg h2, if_neg h3]
  cases hB : p.Bytes with
  | nil => rw [hB] at h; cases h
  | cons c b =>
    rw [hB] at h
    simp only at h ⊢
    cases e : decB c p.Type_ p.N.toNat b with
    | none => rw [e] at h; cases h
    | some vs =>
      rw [e] at h
      simp only at h ⊢
      by_cases he : encS p.Type_ vs = (p, 0)
      · rw [if_pos he]; exact ⟨he, c, b, rfl⟩
      · rw [if_neg he] at h; cases h
theorem decS_bad {p : T_api_Packed} (h : (decS p).2 ≠ 0) : (decS p).1 = [] := by
  unfold decS at h ⊢
  split
  · rfl
  split
  · rfl
  split
  · rfl
  rename_i h1 h2 h3
  rw [if_neg h1, if_neg h2, if_neg h3] at h
  cases hB : p.Bytes with
  | nil => rfl
  | cons c b =>
    rw [hB] at h
    simp only at h ⊢
    cases e : decB c p.Type_ p.N.toNat b with
    | none => rfl
    | some vs =>
      rw [e] at h
      simp only at h ⊢
      by_cases he : encS p.Type_ vs = (p, 0)
      · rw [if_pos he] at h; exact absurd rfl h
      · rw [if_neg he]
theorem R33_Decode_eq {p : T_api_Packed} (hb : BO p.Bytes) : R33_Decode 200000 p = some (decS p) := by
  unfold R33_Decode
  by_cases hk : p.Type_ < 1 ∨ p.Type_ > 3
  · rw [or_t hk]; unfold decS; rw [if_pos hk]; rfl
  rw [or_f hk, cond_false]
  by_cases h2 : p.N > 20000
  · rw [dec_t h2, cond_true]; unfold decS; rw [if_neg hk, if_pos h2]
  rw [dec_f h2, cond_false]
  obtain ⟨l, g1, g2⟩ := R33_unpack_eq hb (by omega)
  rw [g1, Option.bind_some, R33_Encode_eq, Option.bind_some, same_cond' rfl]
  by_cases he : encS p.Type_ l = (p, 0)
  · rw [dec_t he, Bool.not_true, cond_false]
    have := dec_enc (k := p.Type_) (l := l) (by rw [he])
    rw [he] at this
    rw [this]
  · rw [dec_f he, Bool.not_false, cond_true]
    congr 1
    unfold decS
    rw [if_neg hk, if_neg h2]
    by_cases h3 : p.N < 0
    · rw [if_pos h3]
    rw [if_neg h3]
    cases hB : p.Bytes with
    | nil => rfl
    | cons c b =>
      simp only
      cases e : decB c p.Type_ p.N.toNat b with
      | none => rfl
      | some vs =>
        simp only
        rw [← g2 c b vs hB (by omega) e, if_neg he]
theorem R33_Same_eq {a b : List T_api_Value} (hl : a.length ≤ 100000) : R33_Same 200000 a b = some (decide (a = b)) := by
  unfold R33_Same
  by_cases hab : (a.length : Int) ≠ b.length
  · rw [bne_t hab, cond_true, dec_f (fun e => hab (by rw [e]))]
  rw [bne_f (by omega), cond_false, same_loop (a := a) (b := b) (R33_Same_L1 200000 a b) (by omega) hl (fun n i hi => by
    show R33_Same_L1_body _ _ _ _ _ = _
    unfold R33_Same_L1_body
    rw [dec_f (by omega), cond_false]) (fun n i x y r r2 hd hd2 hlt => by
    show R33_Same_L1_body _ _ _ _ _ = _
    unfold R33_Same_L1_body
    rw [dec_t (by omega), cond_true, idxL_drop hd, idxL_drop hd2, Option.bind_some, Option.bind_some, step64 (by omega)]
    by_cases h : x = y
    · rw [dec_t h, if_pos h]; rfl
    · rw [dec_f h, if_neg h]; rfl), Option.bind_some]
  by_cases h : a = b
  · rw [if_pos h, dec_t h]
  · rw [if_neg h, dec_f h]
def VS (l : List T_api_Value) : Prop := ∀ v ∈ l, ∀ x ∈ v.S, okU8 x
theorem pI_ok {n : Int} (h : okI64 n) : ∀ x ∈ pI n, okU8 x := venc_okZ h
theorem vB_ok {k : Int} {v : T_api_Value} (hk : KK k) (hv : VV k v) (hs : ∀ x ∈ v.S, okU8 x) : ∀ x ∈ vB v, okU8 x := by
  obtain ⟨h1, h2, h3, h4, h5, h6⟩ := hv
  unfold KK at hk
  unfold vB
  intro x hx
  rcases List.mem_cons.1 hx with rfl | hx
  · unfold okU8; omega
  split at hx
  · exact pI_ok (by unfold okI64; omega) x hx
  split at hx
  · exact ok_app (pI_ok (by unfold okI64; omega)) hs x hx
  · cases hx
theorem plainB_ok {k : Int} {l : List T_api_Value} (hk : KK k) (hv : ∀ v ∈ l, VV k v) (hs : VS l) : ∀ x ∈ plainB l, okU8 x := by
  intro x hx
  obtain ⟨v, hm, hx⟩ := List.mem_flatMap.1 hx
  exact vB_ok hk (hv v hm) (hs v hm) x hx
theorem groups_cnt : ∀ l : List T_api_Value, ∀ q ∈ groups l, q.2 ≤ l.length := by
  intro l
  induction l with
  | nil => intro q h; cases h
  | cons v r ih =>
    intro q hq
    rw [groups_lead] at hq
    have hle := lead_le v r
    have key : ∀ (n : Nat) (l : List T_api_Value), l.length ≤ n → ∀ q ∈ groups l, q.2 ≤ l.length := by
      intro n
      induction n with
      | zero => intro l hl q h; rw [List.length_eq_zero_iff.1 (show l.length = 0 by omega)] at h; cases h
      | succ n ihn =>
        intro l hl q h
        cases l with
        | nil => cases h
        | cons w s =>
          rw [groups_lead] at h
          have := lead_le w s
          simp only [List.length_cons] at hl ⊢
          rcases List.mem_cons.1 h with rfl | h
          · simp only; omega
          · have := ihn (s.drop (lead w s)) (by rw [List.length_drop]; omega) q h
            rw [List.length_drop] at this; omega
    rcases List.mem_cons.1 hq with rfl | hq
    · simp only [List.length_cons]; omega
    · have := key r.length (r.drop (lead v r)) (by rw [List.length_drop]; omega) q hq
      rw [List.length_drop] at this
      simp only [List.length_cons]; omega
theorem runsB_ok {k : Int} {l : List T_api_Value} (hk : KK k) (hv : ∀ v ∈ l, VV k v) (hs : VS l) (hl : l.length ≤ 20000) : ∀ x ∈ runsB l, okU8 x := by
  intro x hx
  obtain ⟨q, hm, hx⟩ := List.mem_flatMap.1 hx
  have h1 := (groups_sum l).2 q hm
  have h2 := groups_cnt l q hm
  exact ok_app (pI_ok (by unfold okI64; omega)) (vB_ok hk (hv _ h1) (hs _ h1)) x hx
theorem diffB_ok : ∀ {l : List T_api_Value} {last : Int}, (∀ v ∈ l, -1000000000000000 ≤ v.N ∧ v.N ≤ 1000000000000000) → -1000000000000000 ≤ last → last ≤ 1000000000000000 → ∀ x ∈ diffB last l, okU8 x := by
  intro l
  induction l with
  | nil => intro last _ _ _ x h; cases h
  | cons v r ih =>
    intro last h h0 h1
    have hv := h v (by simp)
    exact ok_app (pI_ok (by unfold okI64; omega)) (ih (fun y hy => h y (by simp [hy])) hv.1 hv.2)
theorem dRun_ok : ∀ {l ws : List T_api_Value}, ws.length + l.length ≤ 100000 → ∀ x ∈ (dRun ws l).2, okU8 x := by
  intro l
  induction l with
  | nil => intro ws _ x h; cases h
  | cons v r ih =>
    intro ws h x hx
    simp only [List.length_cons] at h
    unfold dRun at hx
    cases hp : posI v ws with
    | some i =>
      have hi := (List.getElem?_eq_some_iff.1 (posI_lt hp)).1
      rw [hp] at hx
      exact ok_app (pI_ok (by unfold okI64; omega)) (ih (by omega)) x hx
    | none =>
      rw [hp] at hx
      exact ok_app (pI_ok (by unfold okI64; omega)) (ih (by simp; omega)) x hx
theorem best_ok {k : Int} {l : List T_api_Value} (hk : KK k) (hv : ∀ v ∈ l, VV k v) (hs : VS l) (hl : l.length ≤ 20000) : ∀ x ∈ bestS k l, okU8 x := by
  have hN : ∀ v ∈ l, -1000000000000000 ≤ v.N ∧ v.N ≤ 1000000000000000 := fun v hm => ⟨(hv v hm).2.1, (hv v hm).2.2.1⟩
  have hlen := dRun_len l []
  simp only [List.length_nil] at hlen
  have hb1 : ∀ x ∈ (best1 l).2 :: (best1 l).1, okU8 x := by
    unfold best1
    split
    · intro x hx; rcases List.mem_cons.1 hx with rfl | hx
      · unfold okU8; simp
      · exact runsB_ok hk hv hs hl x hx
    · intro x hx; rcases List.mem_cons.1 hx with rfl | hx
      · unfold okU8; simp
      · exact plainB_ok hk hv hs x hx
  have hb2 : ∀ x ∈ (best2 k l).2 :: (best2 k l).1, okU8 x := by
    unfold best2
    split
    · intro x hx; rcases List.mem_cons.1 hx with rfl | hx
      · unfold okU8; simp
      · unfold difS at hx
        split at hx
        · cases hx
        split at hx
        · cases hx
        · exact diffB_ok hN (by omega) (by omega) x hx
    · exact hb1
  unfold bestS best3
  split
  · intro x hx; rcases List.mem_cons.1 hx with rfl | hx
    · unfold okU8; simp
    · unfold dictB at hx
      have hw : ∀ v ∈ (dRun [] l).1, v ∈ l := fun v h => by rcases dRun_mem l [] v h with h | h; cases h; exact h
      exact ok_app (ok_app (pI_ok (by unfold okI64; omega)) (plainB_ok hk (fun v h => hv v (hw v h)) (fun v h => hs v (hw v h)))) (dRun_ok (by simp; omega)) x hx
  · exact hb2
theorem best_len (k : Int) (l : List T_api_Value) : (bestS k l).length ≤ (plainB l).length + 1 ∧ (bestS k l).length ≤ (runsB l).length + 1 := by
  have h1 : (best1 l).1.length ≤ (plainB l).length ∧ (best1 l).1.length ≤ (runsB l).length := by unfold best1; split <;> (try simp only) <;> omega
  have h2 : (best2 k l).1.length ≤ (best1 l).1.length := by unfold best2; split <;> (try simp only) <;> omega
  have h3 : (best3 k l).1.length ≤ (best2 k l).1.length := by unfold best3; split <;> (try simp only) <;> omega
  unfold bestS
  simp only [List.length_cons]; omega
theorem few_cases {l : List T_api_Value} : L33_few 200000 l = some false ∨ (L33_few 200000 l = some true ∧ l.length ≤ 60) := by
  unfold L33_few
  by_cases h : (l.length : Int) > 60
  · rw [dec_t h]; exact .inl rfl
  rw [dec_f h, cond_false, bad_loop (l := l) (L33_few_L1 200000 l) (fun _ v => if (v.S.length : Int) > 300 then some false else none) (fun n i hi => by
    show L33_few_L1_body _ _ _ _ = _
    unfold L33_few_L1_body
    rw [dec_f (by omega), cond_false]) (fun n i x r hd hlt => by
    have hb : L33_few_L1 200000 l (n + 1) (i : Nat) = bif decide ((x.S.length : Int) > 300) then some (.inr false) else L33_few_L1 200000 l n ((i + 1 : Nat) : Int) := by
      show L33_few_L1_body _ _ _ _ = _
      unfold L33_few_L1_body
      rw [dec_t (by omega), cond_true, idxL_drop hd, Option.bind_some, step64 (by omega)]
    rw [hb]
    by_cases h : (x.S.length : Int) > 300
    · rw [if_pos h, dec_t h]; exact ⟨fun b h => (by injection h with h; rw [← h]; rfl), fun h => (by cases h)⟩
    · rw [if_neg h, dec_f h]; exact ⟨fun b h => (by cases h), fun _ => rfl⟩) (by omega), Option.bind_some]
  have key : ∀ (l : List T_api_Value) (i : Nat), firstBad (fun _ (v : T_api_Value) => if (v.S.length : Int) > 300 then some false else none) i l = .inl () ∨ firstBad (fun _ (v : T_api_Value) => if (v.S.length : Int) > 300 then some false else none) i l = .inr false := by
    intro l
    induction l with
    | nil => intro i; exact .inl rfl
    | cons x r ih =>
      intro i
      simp only [firstBad]
      by_cases h : (x.S.length : Int) > 300
      · rw [if_pos h]; exact .inr rfl
      · rw [if_neg h]; exact ih _
  rcases key l 0 with e | e
  · rw [e]; exact .inr ⟨rfl, by omega⟩
  · rw [e]; exact .inl rfl
theorem enc_BO {k : Int} {l : List T_api_Value} (h : (encS k l).2 = 0) (hs : VS l) (hl : (plainB l).length ≤ 50000 ∨ (runsB l).length ≤ 50000) : BO (encS k l).1.Bytes := by
  obtain ⟨h1, h2, h3, h4⟩ := encS_type h
  have hkk : KK k := by unfold KK; omega
  have := best_len k l
  rw [h4]
  exact ⟨best_ok hkk h3 hs h2, by simp only; omega⟩
theorem L33_ColumnEncodes_plain : ∀ (a0 : Int) (a1 : List T_api_Value), okI64 a0 → okSl ok_T_api_Value a1 → ∃ F, L33_ColumnEncodes F a0 a1 = some true := by
  intro k l hk hl
  refine ⟨200000, ?_⟩
  unfold L33_ColumnEncodes
  rw [awake33, Option.bind_some, Bool.not_true, cond_false]
  rcases few_cases (l := l) with h | ⟨h, h1⟩
  · rw [h]; simp only [Option.bind_some, Bool.not_false, cond_true]
  rw [h]
  simp only [Option.bind_some, Bool.not_true, cond_false]
  rw [column_Encode_eq, Option.bind_some, R33_Encode_eq, Option.bind_some, bne_f rfl, bne_f rfl, bne_f rfl, BEq.rfl]
  simp only [Bool.not_true, Bool.or_self, cond_false]
  by_cases he : (encS k l).2 = 0
  · have hs : VS l := fun v hv => (hl.1 v hv).2.2.1
    obtain ⟨t1, t2, t3, t4⟩ := encS_type he
    have hpl := plainB_len t3
    have hB := enc_BO he hs (.inl (by omega))
    have hd := dec_enc he
    rw [bne_f he, cond_false]
    unfold column_Coding
    rw [column_Decode_eq hB, hd, Option.bind_some, Option.bind_some, bne_f rfl, cond_false]
    have hi : idxL (encS k l).1.Bytes 0 = some (best3 k l).2 := by rw [t4]; rfl
    rw [hi]
    simp only [Option.bind_some, cond_true, R33_Same_eq (show l.length ≤ 100000 by omega), decide_true, BEq.rfl]
  · rw [bne_t he, cond_true]
theorem L33_ColumnDecodes_plain : ∀ (a0 : T_api_Packed), ok_T_api_Packed a0 → ∃ F, L33_ColumnDecodes F a0 = some true := by
  intro p hp
  refine ⟨200000, ?_⟩
  unfold L33_ColumnDecodes
  rw [awake33, Option.bind_some, Bool.not_true, cond_false]
  by_cases hb : (p.Bytes.length : Int) > 600
  · rw [dec_t hb]
    have e : (bif decide (p.N > (60 : Int)) then (bif decide (p.N ≤ (20000 : Int)) then (some true : Option Bool) else some true) else some true) = some true := by cases decide (p.N > (60 : Int)) <;> cases decide (p.N ≤ (20000 : Int)) <;> rfl
    rw [e, Option.bind_some, cond_true, Option.bind_some]
  rw [dec_f hb]
  have hB : BO p.Bytes := ⟨hp.2.2.1, by omega⟩
  have main : ((column_Decode 200000 p).bind fun r_3 =>
      (R33_Decode 200000 p).bind fun r_4 =>
      (column_Coding 200000 p).bind fun r_5 =>
      (R33_Coding 200000 p).bind fun r_6 =>
      (( bif (r_3.2 != r_4.2) then ( some true) else ((R33_Same 200000 r_3.1 r_4.1).bind fun r_7 => bif !r_7 then ( some true) else ( bif (r_5.2 != r_6.2) then ( some true) else ( some (r_5.1 != r_6.1)))))).bind fun (p_3 : Bool) =>
      (bif p_3 then some false else
      (bif (r_3.2 != (0 : Int)) then some true else
      (column_Encode 200000 p.Type_ r_3.1).bind fun r_8 =>
      some ((r_8.2 == (0 : Int)) && ((r_8.1.Type_ == p.Type_) && ((r_8.1.N == p.N) && (r_8.1.Bytes == p.Bytes))))))) = some true := by
    unfold column_Coding R33_Coding
    simp only [column_Decode_eq hB, R33_Decode_eq hB, Option.bind_some]
    by_cases hz : (decS p).2 = 0
    · obtain ⟨he, c, b, hcb⟩ := decS_zero hz
      have hlen := (encS_type (k := p.Type_) (l := (decS p).1) (by rw [he])).2.1
      have hi : idxL p.Bytes 0 = some c := by rw [hcb]; rfl
      rw [hz, hi]
      simp only [bne_f, cond_false, Option.bind_some, R33_Same_eq (show (decS p).1.length ≤ 100000 by omega), decide_true, Bool.not_true, column_Encode_eq, he, BEq.rfl, Bool.and_self]
    · have hn := decS_bad hz
      rw [hn, bne_t hz]
      simp only [bne_f, cond_false, cond_true, Option.bind_some, R33_Same_eq (show ([] : List T_api_Value).length ≤ 100000 by simp), decide_true, Bool.not_true]
  by_cases h1 : p.N > 60
  · by_cases h2 : p.N ≤ 20000
    · rw [dec_t h1, dec_t h2, cond_true, cond_true, Option.bind_some, cond_true, Option.bind_some]
    · rw [dec_t h1, dec_f h2, cond_true, cond_false, Option.bind_some, cond_false]; exact main
  · rw [dec_f h1, cond_false, Option.bind_some, cond_false]; exact main
theorem pI_two {n : Int} (h0 : 0 ≤ n) (h : n ≤ 8000) : (pI n).length ≤ 2 := by
  unfold pI zenc
  rw [if_neg (by omega)]
  have e : ∀ u : Int, u < 16384 → (venc 9 u).length ≤ 2 := by
    intro u hu
    unfold venc
    split
    · simp
    · unfold venc
      rw [if_pos (by omega)]; simp
  exact e _ (by omega)
def szV (v : T_api_Value) : Nat := 1 + (if v.Kind = 3 then 2 + v.S.length else 0) + (if v.Kind = 1 ∨ v.Kind = 2 then 10 else 0)
def szL (l : List T_api_Value) : Nat := (l.map szV).sum
theorem szV_ge {k : Int} {v : T_api_Value} (hv : VV k v) : (vB v).length ≤ szV v := by
  have h1 := pI_len v.N
  have h4 := hv.2.2.2.1
  have h2 := pI_two (n := v.S.length) (by omega) (by omega)
  unfold vB szV
  simp only [List.length_cons]
  by_cases c1 : v.Kind = 1 ∨ v.Kind = 2
  · rw [if_pos c1, if_pos c1]; omega
  rw [if_neg c1, if_neg c1]
  by_cases c3 : v.Kind = 3
  · rw [if_pos c3, if_pos c3, List.length_append]; omega
  · rw [if_neg c3, if_neg c3]; simp
theorem szL_ge {k : Int} : ∀ {l : List T_api_Value}, (∀ v ∈ l, VV k v) → (plainB l).length ≤ szL l := by
  intro l
  induction l with
  | nil => intro _; simp [plainB, szL]
  | cons v r ih =>
    intro h
    have h1 := szV_ge (h v (by simp))
    have h2 := ih (fun x hx => h x (by simp [hx]))
    unfold plainB szL at *
    simp only [List.flatMap_cons, List.length_append, List.map_cons, List.sum_cons]; omega
theorem short_loop {l : List T_api_Value} (hs : ∀ v ∈ l, v.S.length ≤ 200) (hl : l.length ≤ 60) : ∀ (n i s : Nat), (l.drop i).length < n → s ≤ 1 + i * 300 → L33_ColumnShort_L1 200000 l n (s : Int) (i : Nat) = some ((s + szL (l.drop i) : Nat) : Int) := by
  intro n
  induction n with
  | zero => intro i s h; omega
  | succ n ih =>
    intro i s hn hsz
    show L33_ColumnShort_L1_body _ _ _ _ _ = _
    unfold L33_ColumnShort_L1_body
    rcases hd : l.drop i with _ | ⟨x, r⟩
    · have := drop_nil hd
      rw [dec_f (by omega), cond_false]; simp [szL]
    have hlt := drop_lt hd
    have hx := hs x (mem_drop hd)
    rw [hd] at hn
    simp only [List.length_cons] at hn
    rw [dec_t (by omega), cond_true, idxL_drop hd, Option.bind_some, Option.bind_some, Option.bind_some, Option.bind_some, step64 (i := i) (by omega)]
    have e : szL (x :: r) = szV x + szL r := by simp [szL]
    have fin : ∀ o : Int, o = ((s + szV x : Nat) : Int) → s + szV x ≤ 1 + (i + 1) * 300 → L33_ColumnShort_L1 200000 l n o ((i + 1 : Nat) : Int) = some ((s + szL (x :: r) : Nat) : Int) := by
      intro o ho hb
      rw [ho, ih (i + 1) (s + szV x) (by rw [drop_step hd]; omega) hb, drop_step hd, e, Nat.add_assoc]
    by_cases c3 : x.Kind = 3
    · have hv : szV x = 3 + x.S.length := by unfold szV; rw [if_pos c3, if_neg (by omega)]; omega
      rw [beq_t c3, cond_true, Option.bind_some, beq_f (a := x.Kind) (b := 1) (by omega), cond_false, beq_f (a := x.Kind) (b := 2) (by omega), Option.bind_some, cond_false, Option.bind_some]
      refine fin _ ?_ (by omega)
      rw [w64 (x := (s : Int) + 1) (by omega) (by omega), w64 (x := (s : Int) + 1 + 2) (by omega) (by omega), w64 (by omega) (by omega)]
      omega
    rw [beq_f c3, cond_false, Option.bind_some]
    by_cases c1 : x.Kind = 1 ∨ x.Kind = 2
    · have hv : szV x = 11 := by unfold szV; rw [if_neg c3, if_pos c1]
      have ec : (bif (x.Kind == (1 : Int)) then (some true : Option Bool) else some (x.Kind == (2 : Int))) = some true := by
        rcases c1 with h | h <;> rw [h] <;> rfl
      rw [ec, Option.bind_some, cond_true, Option.bind_some]
      refine fin _ ?_ (by omega)
      rw [w64 (x := (s : Int) + 1) (by omega) (by omega), w64 (by omega) (by omega)]
      omega
    · have hv : szV x = 1 := by unfold szV; rw [if_neg c3, if_neg c1]
      rw [beq_f (a := x.Kind) (b := 1) (by omega), cond_false, beq_f (a := x.Kind) (b := 2) (by omega), Option.bind_some, cond_false, Option.bind_some]
      refine fin _ ?_ (by omega)
      rw [w64 (x := (s : Int) + 1) (by omega) (by omega)]
      omega
theorem L33_ColumnShort_plain : ∀ (a0 : Int) (a1 : List T_api_Value), okI64 a0 → okSl ok_T_api_Value a1 → ∃ F, L33_ColumnShort F a0 a1 = some true := by
  intro k l hk hl
  refine ⟨200000, ?_⟩
  unfold L33_ColumnShort
  rw [awake33, Option.bind_some, Bool.not_true, cond_false]
  rcases few_cases (l := l) with h | ⟨h, h1⟩
  · rw [h]; simp only [Option.bind_some, Bool.not_false, cond_true]
  rw [h]
  simp only [Option.bind_some, Bool.not_true, cond_false]
  rw [column_Encode_eq, Option.bind_some]
  by_cases he : (encS k l).2 = 0
  · obtain ⟨t1, t2, t3, t4⟩ := encS_type he
    have hz := szL_ge t3
    have hb := (best_len k l).1
    rw [bne_f he, cond_false, show L33_ColumnShort_L1 200000 l 200000 1 0 = _ from short_loop (fun v hv => (t3 v hv).2.2.2.1) h1 200000 0 1 (by simp; omega) (by omega), Option.bind_some, t4, List.drop_zero]
    rw [dec_t (by simp only; omega)]
  · rw [bne_t he, cond_true]
theorem errV_ok {k : Int} {l : List T_api_Value} (h : ∀ v ∈ l, valS k v = 0) : errV k l = .inl () := by
  unfold errV
  exact firstBad_all (fun j x hx => by rw [if_neg (by rw [h x (List.mem_of_getElem? hx)]; simp)])
theorem encS_ok {k : Int} {l : List T_api_Value} (hk : ¬ (k < 1 ∨ k > 3)) (h : ∀ v ∈ l, valS k v = 0) (hl : l.length ≤ 20000) : encS k l = (⟨k, l.length, bestS k l⟩, 0) := by
  unfold encS
  rw [if_neg hk, if_neg (by omega), errV_ok h]
theorem rep_loop {v : T_api_Value} {m : Int} {M : Nat} (hm : irem (w_i64 m) 5000 = (M : Int)) (hM : M ≤ 5000) : ∀ (n i : Nat), M - i < n → i ≤ M → L33_ColumnRepeats_L1 200000 v m n (i : Nat) (List.replicate i v) = some (List.replicate M v) := by
  intro n
  induction n with
  | zero => intro i h; omega
  | succ n ih =>
    intro i hn hi
    show L33_ColumnRepeats_L1_body _ _ _ _ _ _ = _
    unfold L33_ColumnRepeats_L1_body
    rw [hm]
    by_cases h : i < M
    · rw [dec_t (by omega), cond_true, need_t (by simp; omega), Option.bind_some, step64 (by omega), show List.replicate i v ++ [v] = List.replicate (i + 1) v by rw [List.replicate_succ']]
      exact ih (i + 1) (by omega) (by omega)
    · rw [dec_f (by omega), cond_false, show i = M by omega]
theorem lead_rep (v : T_api_Value) : ∀ n, lead v (List.replicate n v) = n := by
  intro n
  induction n with
  | zero => rfl
  | succ n ih => rw [List.replicate_succ, lead, if_pos rfl, ih]
theorem runs_rep {k : Int} {v : T_api_Value} (hv : VV k v) {n : Nat} (hn : n ≤ 5000) : (runsB (List.replicate n v)).length ≤ 2 + szV v := by
  cases n with
  | zero => simp [runsB, groups]
  | succ n =>
    have h1 := pI_two (n := ((n + 1 : Nat) : Int)) (by omega) (by omega)
    have h2 := szV_ge hv
    rw [List.replicate_succ, runsB_cons, lead_rep, List.drop_eq_nil_of_le (by simp)]
    simp only [List.length_append, runsB, groups, List.flatMap_nil, List.length_nil]; omega
theorem L33_ColumnRepeats_plain : ∀ (a0 : Int) (a1 : T_api_Value) (a2 : Int), okI64 a0 → ok_T_api_Value a1 → okU16 a2 → ∃ F, L33_ColumnRepeats F a0 a1 a2 = some true := by
  intro k v m hk hv hm
  refine ⟨200000, ?_⟩
  unfold L33_ColumnRepeats
  rw [awake33, Option.bind_some, Bool.not_true, cond_false]
  by_cases h1 : (v.S.length : Int) > 300
  · rw [dec_t h1, cond_true, Option.bind_some, cond_true, Option.bind_some]
  rw [dec_f h1, cond_false, column_Value_eq, Option.bind_some]
  by_cases h2 : valS k v = 0
  rotate_left
  · rw [bne_t h2, Option.bind_some, cond_true, Option.bind_some]
  rw [bne_f h2, Option.bind_some, cond_false, column_Encode_eq, Option.bind_some]
  unfold okU16 at hm
  have hM : irem (w_i64 m) 5000 = (((m % 5000).toNat : Nat) : Int) := by rw [w64 (by omega) (by omega), irem_mod hm.1]; omega
  rw [show L33_ColumnRepeats_L1 200000 v m 200000 0 [] = _ from rep_loop hM (by omega) 200000 0 (by omega) (by omega), Option.bind_some, column_Encode_eq, Option.bind_some]
  generalize hMM : (m % 5000).toNat = M
  have hM5 : M ≤ 5000 := by omega
  by_cases hk3 : k < 1 ∨ k > 3
  · unfold encS
    rw [if_pos hk3, if_pos hk3]; rfl
  have hz0 : valS k ⟨0, 0, []⟩ = 0 := by unfold valS; simp
  have e1 := encS_ok (k := k) (l := [v, ⟨0, 0, []⟩, v]) hk3 (fun x hx => by simp at hx; rcases hx with rfl | rfl | rfl; exact h2; exact hz0; exact h2) (by simp)
  have e2 := encS_ok (k := k) (l := List.replicate M v) hk3 (fun x hx => by rw [(List.mem_replicate.1 hx).2]; exact h2) (by simp; omega)
  have hvv := vv_of h2
  have hrl := runs_rep hvv hM5
  have hbl := (best_len k (List.replicate M v)).2
  have hz2 : (encS k (List.replicate M v)).2 = 0 := by rw [e2]
  have hszl : szV v ≤ 213 := by have := hvv.2.2.2.1; unfold szV; split <;> split <;> omega
  have hB := enc_BO hz2 (fun x hx => by rw [(List.mem_replicate.1 hx).2]; exact hv.2.2.1) (.inr (by omega))
  have hd := dec_enc hz2
  rw [e1]
  simp only
  rw [show ((0 : Int) == (1 : Int)) = false from rfl, Bool.false_and, cond_false, column_Decode_eq hB, hd, e2]
  have h3 := hvv.2.2.2.1
  have eo : ((bif (v.Kind == (3 : Int)) then some (w_i64 ((w_i64 ((5 : Int) + (2 : Int))) + (((v.S).length : Nat) : Int))) else some (5 : Int) : Option Int).bind fun o_2 => (bif ((v.Kind == (1 : Int)) || (v.Kind == (2 : Int))) then some (w_i64 (o_2 + (10 : Int))) else some o_2 : Option Int)) = some ((4 + szV v : Nat) : Int) := by
    by_cases c3 : v.Kind = 3
    · rw [beq_t c3, cond_true, Option.bind_some, beq_f (a := v.Kind) (b := 1) (by omega), beq_f (a := v.Kind) (b := 2) (by omega), show w_i64 ((5 : Int) + 2) = 7 from rfl, Bool.or_self, cond_false, w64 (by omega) (by omega)]
      unfold szV; rw [if_pos c3, if_neg (by omega)]
      congr 1; omega
    rw [beq_f c3, cond_false, Option.bind_some]
    by_cases c1 : v.Kind = 1 ∨ v.Kind = 2
    · rw [show ((v.Kind == (1 : Int)) || (v.Kind == (2 : Int))) = true by simpa using c1, cond_true]
      unfold szV; rw [if_neg c3, if_pos c1]; rfl
    · rw [show ((v.Kind == (1 : Int)) || (v.Kind == (2 : Int))) = false by simpa using c1, cond_false]
      unfold szV; rw [if_neg c3, if_neg c1]; rfl
  rw [← Option.bind_assoc, eo, Option.bind_some, Option.bind_some]
  have g1 : 0 < (bestS k [v, ⟨0, 0, []⟩, v]).length := by unfold bestS; simp
  rw [dec_t (show (((bestS k [v, ⟨0, 0, []⟩, v]).length : Nat) : Int) > 0 by omega), dec_t (show (((bestS k (List.replicate M v)).length : Nat) : Int) ≤ ((4 + szV v : Nat) : Int) by omega)]
  simp
end Go.Ab
