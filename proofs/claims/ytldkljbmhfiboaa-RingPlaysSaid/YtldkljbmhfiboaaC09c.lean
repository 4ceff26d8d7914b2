/- Ring buffers: Put. -/
import Derived.Test.YtldkljbmhfiboaaC09b
namespace Go.Ab
open Go
set_option linter.unusedVariables false

/- Frames. -/
def fr (x : List Int) : List Int := venc 9 (zenc (x.length : Int)) ++ x
def catF : List (List Int) → List Int
  | [] => []
  | x :: l => fr x ++ catF l
theorem catF_app (l m : List (List Int)) : catF (l ++ m) = catF l ++ catF m := by
  induction l with
  | nil => rfl
  | cons x l ih => simp [catF, ih]
theorem fr_len (x : List Int) : 1 + x.length ≤ (fr x).length ∧ (fr x).length ≤ 10 + x.length := by
  have := venc_len 9 (zenc (x.length : Int))
  unfold fr; rw [List.length_append]; omega
/-- A record that may lie in a buffer. -/
def okRec (x : List Int) : Prop := x.length ≤ 2000 ∧ ∀ y ∈ x, okU8 y
theorem fr_ok {x : List Int} (hl : x.length ≤ 1000000) (h : ∀ y ∈ x, okU8 y) : ∀ y ∈ fr x, okU8 y :=
  ok_app (venc_okZ (by unfold okI64; omega)) h
theorem catF_ok {l : List (List Int)} (h : ∀ x ∈ l, okRec x) : ∀ y ∈ catF l, okU8 y := by
  induction l with
  | nil => simp [catF]
  | cons x l ih =>
    have hx := h x (List.mem_cons_self ..)
    exact ok_app (fr_ok (by have := hx.1; omega) hx.2) (ih fun z hz => h z (List.mem_cons_of_mem _ hz))
theorem recs_cat : ∀ (m : Nat) (l : List (List Int)), (∀ x ∈ l, okRec x) → (catF l).length ≤ m → recs m (catF l) = (l, true) := by
  intro m
  induction m with
  | zero =>
    intro l h hm
    cases l with
    | nil => rfl
    | cons x l => have := fr_len x; simp only [catF, List.length_append] at hm; omega
  | succ m ih =>
    intro l h hm
    cases l with
    | nil => simp [recs, catF]
    | cons x l =>
      have hx := h x (List.mem_cons_self ..)
      have hf := fr_len x
      simp only [catF, List.length_append] at hm ⊢
      unfold recs
      have hne : fr x ++ catF l ≠ [] := by intro hc; rw [List.append_eq_nil_iff] at hc; rw [hc.1] at hf; simp at hf
      rw [if_neg hne]
      have e : fr x ++ catF l = venc 9 (zenc (x.length : Int)) ++ (x ++ catF l) := by unfold fr; rw [List.append_assoc]
      have hv : vrd (fr x ++ catF l) 0 0 = ((x.length : Int), ((venc 9 (zenc (x.length : Int))).length : Int), 0) := by
        rw [e]; exact vrd_put (by unfold okI64; have := hx.1; omega)
      have hd : (fr x ++ catF l).drop ((((venc 9 (zenc (x.length : Int))).length : Int) + (x.length : Int)).toNat) = catF l := by
        rw [show (((venc 9 (zenc (x.length : Int))).length : Int) + (x.length : Int)).toNat = (fr x).length by unfold fr; rw [List.length_append]; omega, List.drop_left]
      have hs : sub (fr x ++ catF l) ((venc 9 (zenc (x.length : Int))).length : Int) (((venc 9 (zenc (x.length : Int))).length : Int) + (x.length : Int)) = x := by
        rw [e]; unfold sub
        rw [show (((venc 9 (zenc (x.length : Int))).length : Int) + (x.length : Int)).toNat = (venc 9 (zenc (x.length : Int))).length + x.length by omega, Int.toNat_natCast]
        rw [List.take_length_add_append, List.drop_left, List.take_left]
      rw [hv]
      simp only
      have hfl : (fr x).length = (venc 9 (zenc (x.length : Int))).length + x.length := by unfold fr; rw [List.length_append]
      rw [if_neg (by have := hx.1; rw [List.length_append]; omega), hd, hs, ih l (fun z hz => h z (List.mem_cons_of_mem _ hz)) (by omega)]
theorem recsOf_cat {l : List (List Int)} (h : ∀ x ∈ l, okRec x) : recsOf (catF l) = (l, true) := by
  unfold recsOf; rw [recs_cat _ l h (Nat.le_refl _)]; rfl
theorem cat_recs : ∀ (m : Nat) (b : List Int), (∀ x ∈ b, okU8 x) → (recs m b).2 = true → b = catF (recs m b).1 ∧ ∀ x ∈ (recs m b).1, okRec x := by
  intro m
  induction m with
  | zero => intro b _ h; simp [recs] at h; subst h; simp [recs, catF]
  | succ m ih =>
    intro b hb h
    simp only [recs] at h ⊢
    by_cases he : b = []
    · rw [if_pos he]; subst he; simp [catF]
    rw [if_neg he] at h ⊢
    obtain ⟨k1, k2, k3⟩ := vrd_range (i := 0) (u := 0) hb (by omega) (by omega) (by decide)
    have hu := vrd_unique (i := 0) (u := 0) hb (by omega) (by omega) (by decide)
    generalize hq : vrd b 0 0 = q at *
    by_cases hbad : q.2.2 ≠ 0 ∨ q.1 < 0 ∨ 2000 < q.1 ∨ (b.length : Int) < q.2.1 + q.1
    · rw [if_pos hbad] at h; simp at h
    rw [if_neg hbad] at h ⊢
    have k2 := k2 (by omega)
    obtain ⟨v, v0, vz, vb, e1, e2⟩ := hu (by omega)
    obtain ⟨i1, i2⟩ := ih _ (fun x hx => hb x (List.mem_of_mem_drop hx)) h
    simp only at h ⊢
    have hv : zenc q.1 = v := by rw [e1]; simp only [Nat.mul_zero, Int.pow_zero, Int.mul_one, Int.zero_add]; exact zenc_zdec v0
    have e2 : b.take q.2.1.toNat = venc 9 v := by simpa using e2
    have hsl : (sub b q.2.1 (q.2.1 + q.1)).length = q.1.toNat := by unfold sub; simp; omega
    have hok : ∀ y ∈ sub b q.2.1 (q.2.1 + q.1), okU8 y := fun y hy => hb y (by unfold sub at hy; exact List.mem_of_mem_take (List.mem_of_mem_drop hy))
    constructor
    · unfold catF fr
      rw [hsl, show (q.1.toNat : Int) = q.1 by omega, hv, ← e2, ← i1]
      unfold sub
      rw [show (q.2.1 + q.1).toNat = q.2.1.toNat + q.1.toNat by omega]
      rw [List.drop_take, show q.2.1.toNat + q.1.toNat - q.2.1.toNat = q.1.toNat by omega, List.append_assoc, ← List.drop_drop, List.take_append_drop, List.take_append_drop]
    · intro x hx
      rcases List.mem_cons.1 hx with rfl | hx
      · exact ⟨by omega, hok⟩
      · exact i2 x hx
theorem recsOf_true {b : List Int} {l : List (List Int)} (hb : ∀ x ∈ b, okU8 x) (h : recsOf b = (l, true)) : b = catF l ∧ ∀ x ∈ l, okRec x := by
  unfold recsOf at h
  by_cases h2 : (recs b.length b).2 = true
  · rw [if_pos h2] at h
    have := cat_recs _ _ hb h2
    rw [h] at this; exact this
  · rw [if_neg h2] at h; injection h with _ e; cases e

/- How many are lost. -/
def lostN (f : Int) : Int → List (List Int) → Nat
  | _, [] => 0
  | room, x :: l => if room < f then lostN f (room + (fr x).length) l + 1 else 0
theorem lostN_le (f : Int) : ∀ (l : List (List Int)) (room : Int), lostN f room l ≤ l.length := by
  intro l
  induction l with
  | nil => intro _; simp [lostN]
  | cons x l ih => intro room; unfold lostN; split <;> simp; exact ih _
theorem lostN_room (f : Int) : ∀ (l : List (List Int)) (room : Int), f ≤ room + (catF l).length → f ≤ room + (catF (l.take (lostN f room l))).length := by
  intro l
  induction l with
  | nil => intro room h; simpa [lostN] using h
  | cons x l ih =>
    intro room h
    unfold lostN
    split
    · have := ih (room + (fr x).length) (by simp only [catF, List.length_append] at h; omega)
      simp only [List.take_succ_cons, catF, List.length_append]; omega
    · simp [catF]; omega
theorem catF_cut (l : List (List Int)) (k : Nat) : (catF (l.take k)).length + (catF (l.drop k)).length = (catF l).length := by
  rw [← List.length_append, ← catF_app, List.take_append_drop]
theorem drop_cons' {α : Type} {l : List α} {k : Nat} {x : α} {r : List α} (h : l.drop k = x :: r) : l.drop (k + 1) = r := by
  rw [← List.drop_drop, h]; rfl
theorem codec_Frame {x : List Int} (hx : x.length ≤ 100000) : codec_PutInt 200000 [] (x.length : Int) = some (venc 9 (zenc (x.length : Int))) := by
  rw [codec_PutInt_eq (by unfold okI64; omega) (by simp) (by omega), List.nil_append]
theorem R09_Frame_eq {x : List Int} (hx : x.length ≤ 100000) : R09_Frame 200000 x = some (fr x) := by
  unfold R09_Frame
  rw [R05_PutInt_eq (by unfold okI64; omega) (by simp) (by omega), Option.bind_some, need_t (by have := venc_len 9 (zenc (x.length : Int)); simp only [List.nil_append]; omega), Option.bind_some, List.nil_append]; unfold fr; rfl
theorem ring_lost {b : List Int} {e : Int} {l : List (List Int)} (hl : ∀ x ∈ l, okRec x) (hb : ((fr b).length : Int) ≤ 65536) : ∀ (rest : List (List Int)) (n k : Nat) (room c : Int), l.drop k = rest → rest.length < n → 0 ≤ room → 0 ≤ c → c ≤ 1000000000000000 + 65536 → k + rest.length ≤ 100000 →
    room + (catF rest).length ≤ 65536 → ((fr b).length : Int) ≤ room + (catF rest).length → c + (catF rest).length ≤ 1000000000000000 + 65536 →
    ring_Put_L1 200000 b (l, e) (venc 9 (zenc (b.length : Int))) n room k c = some (((k + lostN (fr b).length room rest : Nat) : Int), c + (catF (rest.take (lostN (fr b).length room rest))).length) := by
  intro rest
  induction rest with
  | nil =>
    intro n k room c hd hn h0 hc0 hc hk hr hf hcc
    obtain ⟨n, rfl⟩ : ∃ m, n = m + 1 := ⟨n - 1, by simp at hn; omega⟩
    show ring_Put_L1_body 200000 b (l, e) _ _ room k c = _
    unfold ring_Put_L1_body
    simp only [catF, List.length_nil] at hf
    rw [show venc 9 (zenc (b.length : Int)) ++ b = fr b from rfl, dec_f (by omega), cond_false]
    simp [lostN, catF]
  | cons x rest ih =>
    intro n k room c hd hn h0 hc0 hc hk hr hf hcc
    obtain ⟨n, rfl⟩ : ∃ m, n = m + 1 := ⟨n - 1, by simp at hn; omega⟩
    show ring_Put_L1_body 200000 b (l, e) _ _ room k c = _
    unfold ring_Put_L1_body
    rw [show venc 9 (zenc (b.length : Int)) ++ b = fr b from rfl]
    simp only [lostN]
    have hx : okRec x := hl x (List.mem_of_mem_drop (hd ▸ List.mem_cons_self ..))
    have hfx := fr_len x
    have hfl : (fr x).length = (venc 9 (zenc (x.length : Int))).length + x.length := by unfold fr; rw [List.length_append]
    simp only [catF, List.length_append] at hr hf hcc
    by_cases hlt : room < (fr b).length
    · rw [dec_t (by omega), cond_true, if_pos hlt, idxL_drop hd, Option.bind_some, codec_Frame (by have := hx.1; omega), Option.bind_some, Option.bind_some]
      rw [w64 (x := ((venc 9 (zenc (x.length : Int))).length : Int) + (x.length : Int)) (by omega) (by omega), show ((venc 9 (zenc (x.length : Int))).length : Int) + (x.length : Int) = ((fr x).length : Int) by omega, w64 (by omega) (by omega), w64 (by omega) (by omega), w64 (by omega) (by omega)]
      have := ih n (k + 1) (room + (fr x).length) (c + (fr x).length) (drop_cons' hd) (by simp at hn; omega) (by omega) (by omega) (by omega) (by simp at hk; omega) (by omega) (by omega) (by omega)
      rw [show ((k : Int) + 1) = ((k + 1 : Nat) : Int) by omega, this]
      simp only [List.take_succ_cons, catF, List.length_append]
      exact congrArg some (Prod.ext (by show ((k + 1 + _ : Nat) : Int) = ((k + (_ + 1) : Nat) : Int); omega) (by show c + ((fr x).length : Int) + _ = c + (((fr x).length + _ : Nat) : Int); omega))
    · rw [dec_f (by omega), cond_false, if_neg hlt]
      simp [catF]
theorem R09_lost {b : List Int} {l : List (List Int)} (hl : ∀ x ∈ l, okRec x) (hb : ((fr b).length : Int) ≤ 65536) : ∀ (rest : List (List Int)) (n k : Nat) (room c : Int), l.drop k = rest → rest.length < n → 0 ≤ room → 0 ≤ c → c ≤ 1000000000000000 + 65536 → k + rest.length ≤ 100000 →
    room + (catF rest).length ≤ 65536 → ((fr b).length : Int) ≤ room + (catF rest).length → c + (catF rest).length ≤ 1000000000000000 + 65536 →
    R09_Put_L1 200000 (fr b) (l, true) n k room c = some (((k + lostN (fr b).length room rest : Nat) : Int), c + (catF (rest.take (lostN (fr b).length room rest))).length) := by
  intro rest
  induction rest with
  | nil =>
    intro n k room c hd hn h0 hc0 hc hk hr hf hcc
    obtain ⟨n, rfl⟩ : ∃ m, n = m + 1 := ⟨n - 1, by simp at hn; omega⟩
    show R09_Put_L1_body 200000 (fr b) (l, true) _ k room c = _
    unfold R09_Put_L1_body
    simp only [catF, List.length_nil] at hf
    rw [dec_f (by omega), cond_false]
    simp [lostN, catF]
  | cons x rest ih =>
    intro n k room c hd hn h0 hc0 hc hk hr hf hcc
    obtain ⟨n, rfl⟩ : ∃ m, n = m + 1 := ⟨n - 1, by simp at hn; omega⟩
    show R09_Put_L1_body 200000 (fr b) (l, true) _ k room c = _
    unfold R09_Put_L1_body
    simp only [lostN]
    have hx : okRec x := hl x (List.mem_of_mem_drop (hd ▸ List.mem_cons_self ..))
    have hfx := fr_len x
    simp only [catF, List.length_append] at hr hf hcc
    by_cases hlt : room < (fr b).length
    · rw [dec_t (by omega), cond_true, if_pos hlt, idxL_drop hd, Option.bind_some, R09_Frame_eq (by have := hx.1; omega), Option.bind_some]
      rw [w64 (by omega) (by omega), w64 (by omega) (by omega), w64 (by omega) (by omega)]
      have := ih n (k + 1) (room + (fr x).length) (c + (fr x).length) (drop_cons' hd) (by simp at hn; omega) (by omega) (by omega) (by omega) (by simp at hk; omega) (by omega) (by omega) (by omega)
      rw [show ((k : Int) + 1) = ((k + 1 : Nat) : Int) by omega, this]
      simp only [List.take_succ_cons, catF, List.length_append]
      exact congrArg some (Prod.ext (by show ((k + 1 + _ : Nat) : Int) = ((k + (_ + 1) : Nat) : Int); omega) (by show c + ((fr x).length : Int) + _ = c + (((fr x).length + _ : Nat) : Int); omega))
    · rw [dec_f (by omega), cond_false, if_neg hlt]
      simp [catF]

/- The bytes behind Put. -/
def off (n a p : Nat) : Nat := if a ≤ p then p - a else p + n - a
def wrt (D : List Int) (a : Nat) (G : List Int) : List Int := (List.range D.length).map fun p => if off D.length a p < G.length then G.getD (off D.length a p) 0 else D.getD p 0
theorem wrt_len (D : List Int) (a : Nat) (G : List Int) : (wrt D a G).length = D.length := by simp [wrt]
theorem wrt_get {D : List Int} {a p : Nat} {G : List Int} (h : p < D.length) : (wrt D a G)[p]? = some (if off D.length a p < G.length then G.getD (off D.length a p) 0 else D.getD p 0) := by simp [wrt, h]
theorem wrt_ok {D : List Int} {a : Nat} {G : List Int} (h : ∀ x ∈ D, okU8 x) (hG : ∀ x ∈ G, okU8 x) : ∀ x ∈ wrt D a G, okU8 x := by
  have z : ∀ (L : List Int) (k : Nat), (∀ x ∈ L, okU8 x) → okU8 (L.getD k 0) := by
    intro L k hL
    rw [List.getD_eq_getElem?_getD]
    cases hq : L[k]? with
    | none => simp [okU8]
    | some v => exact hL v (List.mem_of_getElem? hq)
  intro x hx
  simp only [wrt, List.mem_map] at hx
  obtain ⟨j, _, rfl⟩ := hx
  split
  · exact z _ _ hG
  · exact z _ _ h
theorem getD_get {L : List Int} {k : Nat} (h : k < L.length) : L[k]? = some (L.getD k 0) := by
  rw [List.getD_eq_getElem?_getD, List.getElem?_eq_getElem h]; rfl
theorem wrt_nil (D : List Int) (a : Nat) : wrt D a [] = D := by
  apply List.ext_getElem?
  intro p
  by_cases h : p < D.length
  · rw [wrt_get h, if_neg (by simp), getD_get h]
  · rw [List.getElem?_eq_none (by rw [wrt_len]; omega), List.getElem?_eq_none (by omega)]
theorem wrt_cpy {D G : List Int} {a : Nat} (ha : a < D.length) (hG : G.length ≤ D.length) :
    cpy (cpy D a D.length G) 0 D.length ((G.take G.length).drop (min G.length (D.length - a))) = wrt D a G := by
  rw [List.take_length]
  have l1 : (cpy D a D.length G).length = D.length := cpy_len (by omega) (by omega)
  have l2 : (cpy (cpy D a D.length G) 0 D.length (G.drop (min G.length (D.length - a)))).length = D.length := by rw [cpy_len (by omega) (by omega), l1]
  apply List.ext_getElem?
  intro p
  by_cases h : p < D.length
  · rw [wrt_get h]
    have hm : min (G.drop (min G.length (D.length - a))).length (D.length - 0) = G.length - min G.length (D.length - a) := by simp; omega
    have e1 : ∀ q, q < D.length → (cpy D a D.length G)[q]? = some (if a ≤ q ∧ q < a + min G.length (D.length - a) then G.getD (q - a) 0 else D.getD q 0) := by
      intro q hq
      unfold cpy
      have lt : (D.take a).length = a := by simp; omega
      by_cases c1 : q < a
      · rw [if_neg (by omega), List.append_assoc, List.getElem?_append_left (by omega), List.getElem?_take, if_pos c1, getD_get hq]
      · by_cases c2 : q < a + min G.length (D.length - a)
        · rw [if_pos (by omega), List.append_assoc, List.getElem?_append_right (by omega), lt, List.getElem?_append_left (by simp; omega), List.getElem?_take, if_pos (by omega), getD_get (by omega)]
        · rw [if_neg (by omega), List.getElem?_append_right (by simp; omega)]
          simp only [List.length_append, List.length_take, List.getElem?_drop]
          rw [← getD_get hq]
          congr 1; omega
    generalize cpy D a D.length G = C at *
    unfold cpy
    rw [hm]
    simp only [List.take_zero, List.nil_append, Nat.zero_add]
    unfold off
    by_cases c1 : p < G.length - min G.length (D.length - a)
    · rw [List.getElem?_append_left (by simp; omega), List.getElem?_take, if_pos c1, List.getElem?_drop, getD_get (by omega), if_neg (show ¬a ≤ p by omega), if_pos (by omega)]
      congr 2; omega
    · rw [List.getElem?_append_right (by simp; omega), List.getElem?_drop]
      rw [show (G.length - min G.length (D.length - a)) + (p - ((G.drop (min G.length (D.length - a))).take (G.length - min G.length (D.length - a))).length) = p by simp; omega, e1 p h]
      by_cases c2 : a ≤ p
      · rw [if_pos c2]
        by_cases c3 : p < a + min G.length (D.length - a)
        · rw [if_pos ⟨c2, c3⟩, if_pos (by omega)]
        · rw [if_neg (by omega), if_neg (by omega)]
      · rw [if_neg c2, if_neg (by omega), if_neg (by omega)]
  · rw [List.getElem?_eq_none (by rw [l2]; omega), List.getElem?_eq_none (by rw [wrt_len]; omega)]
theorem wrt_set {D G : List Int} {a i : Nat} (ha : a < D.length) (hG : G.length ≤ D.length) (hi : i < G.length) :
    (wrt D a (G.take i)).set (if a + i < D.length then a + i else a + i - D.length) (G.getD i 0) = wrt D a (G.take (i + 1)) := by
  apply List.ext_getElem?
  intro p
  by_cases h : p < D.length
  · rw [wrt_get h, List.getElem?_set, wrt_len]
    have l1 : (G.take i).length = i := by simp; omega
    have l2 : (G.take (i + 1)).length = i + 1 := by simp; omega
    have g : ∀ k j, j < k → (G.take k).getD j 0 = G.getD j 0 := by
      intro k j hj
      rw [List.getD_eq_getElem?_getD, List.getD_eq_getElem?_getD, List.getElem?_take, if_pos hj]
    have ho : off D.length a p = i ↔ (if a + i < D.length then a + i else a + i - D.length) = p := by
      unfold off; split <;> split <;> omega
    by_cases c : off D.length a p = i
    · rw [if_pos (ho.1 c), if_pos (by rw [ho.1 c]; omega), c, l2, if_pos (by omega), g _ _ (by omega)]
    · rw [if_neg (fun hc => c (ho.2 hc)), wrt_get h, l1, l2]
      by_cases c2 : off D.length a p < i
      · rw [if_pos c2, if_pos (by omega), g _ _ c2, g _ _ (by omega)]
      · rw [if_neg c2, if_neg (by omega)]
  · rw [List.getElem?_eq_none (by rw [List.length_set, wrt_len]; omega), List.getElem?_eq_none (by rw [wrt_len]; omega)]
theorem R09_written_loop {D G : List Int} {E : Nat} (hD : 0 < D.length) (hl : D.length ≤ 100000) (hE : E ≤ 2000000000000000) (hG : G.length ≤ D.length) : ∀ (n i : Nat), i ≤ G.length → G.length - i < n →
    R09_written_L1 200000 (E : Int) G n i (wrt D (E % D.length) (G.take i)) = some (wrt D (E % D.length) G) := by
  intro n
  induction n with
  | zero => intro i _ h; omega
  | succ n ih =>
    intro i hi hn
    show R09_written_L1_body 200000 _ _ _ _ _ = _
    unfold R09_written_L1_body
    rcases Nat.lt_or_ge i G.length with h | h
    · have hm := Nat.mod_lt (E + i) hD
      rw [dec_t (by omega), cond_true, need_t (by rw [wrt_len]; omega), Option.bind_some, idxL_nat, getD_get h, Option.bind_some, w64 (by omega) (by omega), wrt_len, show ((E : Int) + (i : Int)) = ((E + i : Nat) : Int) by omega, irem_nat, idxL_nat, List.getElem?_eq_getElem (by rw [wrt_len]; exact hm), Option.bind_some, Int.toNat_natCast, step64 (by omega)]
      have := ih (i + 1) (by omega) (by omega)
      rw [mod_wrap hD (by omega), wrt_set (Nat.mod_lt _ hD) hG h]
      exact this
    · rw [dec_f (by omega), cond_false, show i = G.length by omega, List.take_length]
theorem R09_written_eq {D G : List Int} {E : Nat} (hD : 0 < D.length) (hl : D.length ≤ 100000) (hE : E ≤ 2000000000000000) (hG : G.length ≤ D.length) : R09_written 200000 D (E : Int) G = some (wrt D (E % D.length) G) := by
  unfold R09_written
  have := R09_written_loop hD hl hE hG 200000 0 (by omega) (by omega)
  rw [List.take_zero, wrt_nil] at this
  rw [need_t (by simp only [List.length_nil]; omega), Option.bind_some, List.nil_append, show R09_written_L1 200000 (E : Int) G 200000 0 D = _ from this, Option.bind_some]
end Go.Ab
