/- Plain laws of the functions below this seat's, laid anew from another seat's text. No conditions but those that the theorems name. -/
import Derived.Test.YtlnlcciflpncmaaP11xD
import Derived.Test.YtlnlcciflpncmaaB11a
import Derived.Test.YtlnlcciflpncmaaB11b
import Derived.Test.YtlnlcciflpncmaaB11c
import Derived.Test.YtlnlcciflpncmaaB11d
import Derived.Test.YtlnlcciflpncmaaB11e
import Derived.Test.YtlnlcciflpncmaaB11f
import Derived.Test.YtlnlcciflpncmaaB11g
import Derived.Test.YtlnlcciflpncmaaB11h
namespace Go.Ab
open Go
set_option linter.unusedVariables false
def cntF (b : List Int) (u f most : Int) : Int × Int × Int :=
  if (numF b u f).2.2 ≠ 0 then (0, (numF b u f).2.1, (numF b u f).2.2) else if (numF b u f).1 < 0 then (0, (numF b u f).2.1, 10) else if (numF b u f).1 > most then (0, (numF b u f).2.1, 7) else numF b u f
def txtF (b : List Int) (u f : Int) : List Int × Int × Int := if f ≠ 0 then ([], u, f) else ((txt (b.drop u.toNat) 40).1, u + (txt (b.drop u.toNat) 40).2.1, (txt (b.drop u.toNat) 40).2.2)
def namesF (b : List Int) : Nat → Int → Int → List (List Int) → Int × Int × List (List Int)
  | 0, u, f, row => (u, f, row)
  | k + 1, u, f, row => if f ≠ 0 then (u, f, row) else namesF b k (txtF b u f).2.1 (txtF b u f).2.2 (row ++ [(txtF b u f).1])
def two (b : List Int) (u f : Int) : Int × Int × Int := numF b (numF b u f).2.1 (numF b u f).2.2
def stacksF (b : List Int) : Nat → Int → Int → List Arr2_Int → Int × Int × List Arr2_Int
  | 0, u, f, row => (u, f, row)
  | k + 1, u, f, row => if f ≠ 0 then (u, f, row) else stacksF b k (two b u f).2.1 (two b u f).2.2 (row ++ [⟨(numF b u f).1, (two b u f).1⟩])
def eventsF (n : List (List Int)) (s : List Arr2_Int) (b : List Int) : Nat → Int → Int → List T_api_Event → Int × Int × List T_api_Event
  | 0, u, f, row => (u, f, row)
  | k + 1, u, f, row => if f ≠ 0 then (u, f, row) else eventsF n s b k (u + (decS n s (b.drop u.toNat)).2.1) (decS n s (b.drop u.toNat)).2.2 (row ++ [(decS n s (b.drop u.toNat)).1])
def dT (b : List Int) := numF b 0 0
def dS (b : List Int) := numF b (dT b).2.1 (dT b).2.2
def dL (b : List Int) := numF b (dS b).2.1 (dS b).2.2
def dC1 (b : List Int) := cntF b (dL b).2.1 (dL b).2.2 1000
def dN (b : List Int) := namesF b (dC1 b).1.toNat (dC1 b).2.1 (dC1 b).2.2 []
def dC2 (b : List Int) := cntF b (dN b).1 (dN b).2.1 1000
def dSt (b : List Int) := stacksF b (dC2 b).1.toNat (dC2 b).2.1 (dC2 b).2.2 []
def dF3 (b : List Int) : Int := if (dSt b).2.1 = 0 then checkS (dN b).2.2 (dSt b).2.2 else (dSt b).2.1
def dC3 (b : List Int) := cntF b (dSt b).1 (dF3 b) 1000
def dE (b : List Int) := eventsF (dN b).2.2 (dSt b).2.2 b (dC3 b).1.toNat (dC3 b).2.1 (dC3 b).2.2 []
def dP (b : List Int) : T_api_Packet := ⟨(dT b).1, (dS b).1, (dL b).1, (dE b).2.2⟩
def dF5 (b : List Int) : Int := if (dE b).2.1 = 0 then packS (dP b) else (dE b).2.1
def pDecS (b : List Int) : T_api_Packet × Int × Int :=
  if dF5 b ≠ 0 then (pk0, 0, dF5 b) else if (pEncS (dP b)).2 ≠ 0 ∨ (pEncS (dP b)).1 ≠ b.take (dE b).1.toNat then (pk0, 0, 10) else (dP b, (dE b).1, 0)
theorem cntF_range {b : List Int} {u f most : Int} (hb : ∀ x ∈ b, okU8 x) (h0 : 0 ≤ u) (h1 : u ≤ b.length) (hm : 0 ≤ most) : 0 ≤ (cntF b u f most).1 ∧ (cntF b u f most).1 ≤ most ∧ u ≤ (cntF b u f most).2.1 ∧ (cntF b u f most).2.1 ≤ b.length ∧ ((cntF b u f most).2.2 = 0 → f = 0) := by
  have h := numF_range (f := f) hb h0 h1
  unfold cntF
  split
  · exact ⟨by simp, hm, h.2.1, h.2.2.1, fun e => absurd e (by assumption)⟩
  split
  · exact ⟨by simp, hm, h.2.1, h.2.2.1, fun e => by simp at e⟩
  split
  · exact ⟨by simp, hm, h.2.1, h.2.2.1, fun e => by simp at e⟩
  · exact ⟨by omega, by omega, h.2.1, h.2.2.1, fun e => (h.2.2.2 e).1⟩
theorem txt_range {b : List Int} {most : Int} (hb : ∀ x ∈ b, okU8 x) : 0 ≤ (txt b most).2.1 ∧ (txt b most).2.1 ≤ b.length := by
  have hv := (vrd_range (i := 0) (u := 0) hb (by omega) (by omega) (by simp))
  unfold txt
  simp only
  split
  · simp
  split
  · simp
  split
  · simp
  split
  · simp
  · have := hv.2.1 (by omega)
    simp only; omega
theorem txtF_range {b : List Int} {u f : Int} (hb : ∀ x ∈ b, okU8 x) (h0 : 0 ≤ u) (h1 : u ≤ b.length) : u ≤ (txtF b u f).2.1 ∧ (txtF b u f).2.1 ≤ b.length := by
  unfold txtF
  split
  · exact ⟨Int.le_refl _, h1⟩
  · have := txt_range (most := 40) (drop_ok hb u.toNat)
    rw [List.length_drop] at this
    simp only; omega
theorem namesF_range {b : List Int} (hb : ∀ x ∈ b, okU8 x) : ∀ (k : Nat) (u f : Int) (row : List (List Int)), 0 ≤ u → u ≤ b.length → u ≤ (namesF b k u f row).1 ∧ (namesF b k u f row).1 ≤ b.length := by
  intro k
  induction k with
  | zero => intro u f row h0 h1; exact ⟨Int.le_refl _, h1⟩
  | succ k ih =>
    intro u f row h0 h1
    simp only [namesF]
    split
    · exact ⟨Int.le_refl _, h1⟩
    · have h := txtF_range (f := f) hb h0 h1
      have := ih (txtF b u f).2.1 (txtF b u f).2.2 (row ++ [(txtF b u f).1]) (by omega) h.2
      omega
theorem two_range {b : List Int} {u f : Int} (hb : ∀ x ∈ b, okU8 x) (h0 : 0 ≤ u) (h1 : u ≤ b.length) : u ≤ (two b u f).2.1 ∧ (two b u f).2.1 ≤ b.length := by
  have h := numF_range (f := f) hb h0 h1
  have := numF_range (u := (numF b u f).2.1) (f := (numF b u f).2.2) hb (by omega) h.2.2.1
  unfold two; omega
theorem stacksF_range {b : List Int} (hb : ∀ x ∈ b, okU8 x) : ∀ (k : Nat) (u f : Int) (row : List Arr2_Int), 0 ≤ u → u ≤ b.length → u ≤ (stacksF b k u f row).1 ∧ (stacksF b k u f row).1 ≤ b.length := by
  intro k
  induction k with
  | zero => intro u f row h0 h1; exact ⟨Int.le_refl _, h1⟩
  | succ k ih =>
    intro u f row h0 h1
    simp only [stacksF]
    split
    · exact ⟨Int.le_refl _, h1⟩
    · have h := two_range (f := f) hb h0 h1
      have := ih (two b u f).2.1 (two b u f).2.2 (row ++ [⟨(numF b u f).1, (two b u f).1⟩]) (by omega) h.2
      omega
theorem decS_range {n : List (List Int)} {s : List Arr2_Int} {b : List Int} (hb : ∀ x ∈ b, okU8 x) : 0 ≤ (decS n s b).2.1 ∧ (decS n s b).2.1 ≤ b.length := by
  have h := dec_ranges hb
  unfold decS
  split
  · simp
  split
  · simp
  split
  · simp
  split
  · simp
  split
  · simp
  · exact ⟨by simp only; omega, h.2.2.2.2.2.2⟩
theorem eventsF_range {n : List (List Int)} {s : List Arr2_Int} {b : List Int} (hb : ∀ x ∈ b, okU8 x) : ∀ (k : Nat) (u f : Int) (row : List T_api_Event), 0 ≤ u → u ≤ b.length → u ≤ (eventsF n s b k u f row).1 ∧ (eventsF n s b k u f row).1 ≤ b.length ∧ (eventsF n s b k u f row).2.2.length ≤ row.length + k := by
  intro k
  induction k with
  | zero => intro u f row h0 h1; exact ⟨Int.le_refl _, h1, by simp [eventsF]⟩
  | succ k ih =>
    intro u f row h0 h1
    simp only [eventsF]
    split
    · exact ⟨Int.le_refl _, h1, by simp only; omega⟩
    · have h := decS_range (n := n) (s := s) (drop_ok hb u.toNat)
      rw [List.length_drop] at h
      have := ih (u + (decS n s (b.drop u.toNat)).2.1) (decS n s (b.drop u.toNat)).2.2 (row ++ [(decS n s (b.drop u.toNat)).1]) (by omega) (by omega)
      simp only [List.length_append, List.length_cons, List.length_nil] at this
      omega
theorem pd_ranges {b : List Int} (hb : ∀ x ∈ b, okU8 x) :
    (0 ≤ (dT b).2.1 ∧ (dT b).2.1 ≤ b.length) ∧ (0 ≤ (dS b).2.1 ∧ (dS b).2.1 ≤ b.length) ∧ (0 ≤ (dL b).2.1 ∧ (dL b).2.1 ≤ b.length) ∧
    (0 ≤ (dC1 b).1 ∧ (dC1 b).1 ≤ 1000 ∧ 0 ≤ (dC1 b).2.1 ∧ (dC1 b).2.1 ≤ b.length) ∧ (0 ≤ (dN b).1 ∧ (dN b).1 ≤ b.length) ∧
    (0 ≤ (dC2 b).1 ∧ (dC2 b).1 ≤ 1000 ∧ 0 ≤ (dC2 b).2.1 ∧ (dC2 b).2.1 ≤ b.length) ∧ (0 ≤ (dSt b).1 ∧ (dSt b).1 ≤ b.length) ∧
    (0 ≤ (dC3 b).1 ∧ (dC3 b).1 ≤ 1000 ∧ 0 ≤ (dC3 b).2.1 ∧ (dC3 b).2.1 ≤ b.length) ∧ (0 ≤ (dE b).1 ∧ (dE b).1 ≤ b.length ∧ (dE b).2.2.length ≤ 1000) ∧ (dT b).2.1 ≤ (dE b).1 := by
  have h1 : 0 ≤ (dT b).2.1 ∧ (dT b).2.1 ≤ b.length := by have := numF_range (u := 0) (f := 0) hb (by omega) (by omega); exact ⟨this.2.1, this.2.2.1⟩
  have h2 : (dT b).2.1 ≤ (dS b).2.1 ∧ (dS b).2.1 ≤ b.length := by have := numF_range (u := (dT b).2.1) (f := (dT b).2.2) hb (by omega) (by omega); exact ⟨this.2.1, this.2.2.1⟩
  have h3 : (dS b).2.1 ≤ (dL b).2.1 ∧ (dL b).2.1 ≤ b.length := by have := numF_range (u := (dS b).2.1) (f := (dS b).2.2) hb (by omega) (by omega); exact ⟨this.2.1, this.2.2.1⟩
  have h4 : 0 ≤ (dC1 b).1 ∧ (dC1 b).1 ≤ 1000 ∧ (dL b).2.1 ≤ (dC1 b).2.1 ∧ (dC1 b).2.1 ≤ b.length := by have := cntF_range (u := (dL b).2.1) (f := (dL b).2.2) (most := 1000) hb (by omega) (by omega) (by omega); exact ⟨this.1, this.2.1, this.2.2.1, this.2.2.2.1⟩
  have h5 : (dC1 b).2.1 ≤ (dN b).1 ∧ (dN b).1 ≤ b.length := namesF_range hb _ _ _ _ (by omega) (by omega)
  have h6 : 0 ≤ (dC2 b).1 ∧ (dC2 b).1 ≤ 1000 ∧ (dN b).1 ≤ (dC2 b).2.1 ∧ (dC2 b).2.1 ≤ b.length := by have := cntF_range (u := (dN b).1) (f := (dN b).2.1) (most := 1000) hb (by omega) (by omega) (by omega); exact ⟨this.1, this.2.1, this.2.2.1, this.2.2.2.1⟩
  have h7 : (dC2 b).2.1 ≤ (dSt b).1 ∧ (dSt b).1 ≤ b.length := stacksF_range hb _ _ _ _ (by omega) (by omega)
  have h8 : 0 ≤ (dC3 b).1 ∧ (dC3 b).1 ≤ 1000 ∧ (dSt b).1 ≤ (dC3 b).2.1 ∧ (dC3 b).2.1 ≤ b.length := by have := cntF_range (u := (dSt b).1) (f := dF3 b) (most := 1000) hb (by omega) (by omega) (by omega); exact ⟨this.1, this.2.1, this.2.2.1, this.2.2.2.1⟩
  have h9 : (dC3 b).2.1 ≤ (dE b).1 ∧ (dE b).1 ≤ b.length ∧ (dE b).2.2.length ≤ ([] : List T_api_Event).length + (dC3 b).1.toNat := eventsF_range hb _ _ _ _ (by omega) (by omega)
  simp only [List.length_nil] at h9
  omega
theorem packet_input_num_eq {b : List Int} {u f : Int} (hb : ∀ x ∈ b, okU8 x) (hl : b.length ≤ 100000) (h0 : 0 ≤ u) (h1 : u ≤ b.length) :
    packet_input_num 200000 ⟨b, u, f⟩ = some ((numF b u f).1, ⟨b, (numF b u f).2.1, (numF b u f).2.2⟩) := by
  unfold packet_input_num
  have hr := numF_range (f := f) hb h0 h1
  unfold numF at *
  by_cases hf : f ≠ 0
  · rw [bne_t hf, if_pos hf]; rfl
  · rw [if_neg hf] at hr ⊢
    rw [bne_f (show f = 0 by omega), cond_false, need_t ⟨h0, h1⟩, Option.bind_some, sub_drop b h0, codec_Int_eq (drop_ok hb _) (by rw [List.length_drop]; omega) (by rw [List.length_drop]; omega), Option.bind_some]
    simp only at hr
    show some (_, (⟨b, w_i64 (u + _), _⟩ : T_packet_input)) = _
    rw [w64 (by omega) (by omega)]
theorem packet_input_count_eq {b : List Int} {u f most : Int} (hb : ∀ x ∈ b, okU8 x) (hl : b.length ≤ 100000) (h0 : 0 ≤ u) (h1 : u ≤ b.length) :
    packet_input_count 200000 ⟨b, u, f⟩ most = some ((cntF b u f most).1, ⟨b, (cntF b u f most).2.1, (cntF b u f most).2.2⟩) := by
  unfold packet_input_count cntF
  rw [packet_input_num_eq hb hl h0 h1, Option.bind_some]
  simp only
  by_cases c1 : (numF b u f).2.2 ≠ 0
  · rw [bne_t c1, if_pos c1]; rfl
  rw [bne_f (by omega), if_neg c1, cond_false]
  by_cases c2 : (numF b u f).1 < 0
  · rw [dec_t c2, if_pos c2]; rfl
  rw [dec_f c2, if_neg c2, cond_false]
  by_cases c3 : (numF b u f).1 > most
  · rw [dec_t c3, if_pos c3]; rfl
  · rw [dec_f c3, if_neg c3, cond_false]
theorem packet_input_text_eq {b : List Int} {u f : Int} (hb : ∀ x ∈ b, okU8 x) (hl : b.length ≤ 100000) (h0 : 0 ≤ u) (h1 : u ≤ b.length) :
    packet_input_text 200000 ⟨b, u, f⟩ = some ((txtF b u f).1, ⟨b, (txtF b u f).2.1, (txtF b u f).2.2⟩) := by
  unfold packet_input_text
  have hr := txtF_range (f := f) hb h0 h1
  unfold txtF at *
  by_cases hf : f ≠ 0
  · rw [bne_t hf, if_pos hf]; rfl
  · rw [if_neg hf] at hr ⊢
    rw [bne_f (show f = 0 by omega), cond_false, need_t ⟨h0, h1⟩, Option.bind_some, sub_drop b h0, codec_Text_eq (drop_ok hb _) (by rw [List.length_drop]; omega) (by rw [List.length_drop]; omega), Option.bind_some]
    simp only at hr
    show some (_, (⟨b, w_i64 (u + _), _⟩ : T_packet_input)) = _
    rw [w64 (by omega) (by omega)]
theorem and_f {p : Prop} [Decidable p] {q : Bool} (h : ¬ p ∨ q = false) : (decide p && q) = false := by
  rcases h with h | h
  · rw [dec_f h]; rfl
  · rw [h, Bool.and_false]
theorem pd_loop1 {b : List Int} (hb : ∀ x ∈ b, okU8 x) (hl : b.length ≤ 100000) : ∀ (k m : Nat) (u f : Int) (row : List (List Int)), k < m → 0 ≤ u → u ≤ b.length → row.length + k ≤ 1000 →
    packet_Decode_L1 200000 m (k : Int) b u f row = some (b, namesF b k u f row) := by
  intro k
  induction k with
  | zero =>
    intro m u f row hm h0 h1 hr
    obtain ⟨g, rfl⟩ : ∃ g, m = g + 1 := ⟨m - 1, by omega⟩
    show packet_Decode_L1_body _ _ _ _ _ _ _ = _
    unfold packet_Decode_L1_body
    rw [and_f (.inl (by omega))]; rfl
  | succ k ih =>
    intro m u f row hm h0 h1 hr
    obtain ⟨g, rfl⟩ : ∃ g, m = g + 1 := ⟨m - 1, by omega⟩
    show packet_Decode_L1_body _ _ _ _ _ _ _ = _
    unfold packet_Decode_L1_body
    simp only [namesF]
    by_cases hf : f ≠ 0
    · rw [and_f (.inr (beq_f hf)), if_pos hf]; rfl
    have ht := txtF_range (f := f) hb h0 h1
    rw [dec_t (by omega), beq_t (by omega), if_neg hf, Bool.and_self, cond_true, packet_input_text_eq hb hl h0 h1, Option.bind_some, need_t (by simp; omega), Option.bind_some, w64 (by omega) (by omega), show (((k + 1 : Nat) : Int) - 1) = (k : Int) by omega]
    exact ih g (txtF b u f).2.1 (txtF b u f).2.2 (row ++ [(txtF b u f).1]) (by omega) (by omega) (by omega) (by simp; omega)
theorem pd_loop2 {b : List Int} (hb : ∀ x ∈ b, okU8 x) (hl : b.length ≤ 100000) : ∀ (k m : Nat) (u f : Int) (row : List Arr2_Int), k < m → 0 ≤ u → u ≤ b.length → row.length + k ≤ 1000 →
    packet_Decode_L2 200000 m (k : Int) b u f row = some (b, stacksF b k u f row) := by
  intro k
  induction k with
  | zero =>
    intro m u f row hm h0 h1 hr
    obtain ⟨g, rfl⟩ : ∃ g, m = g + 1 := ⟨m - 1, by omega⟩
    show packet_Decode_L2_body _ _ _ _ _ _ _ = _
    unfold packet_Decode_L2_body
    rw [and_f (.inl (by omega))]; rfl
  | succ k ih =>
    intro m u f row hm h0 h1 hr
    obtain ⟨g, rfl⟩ : ∃ g, m = g + 1 := ⟨m - 1, by omega⟩
    show packet_Decode_L2_body _ _ _ _ _ _ _ = _
    unfold packet_Decode_L2_body
    simp only [stacksF]
    by_cases hf : f ≠ 0
    · rw [and_f (.inr (beq_f hf)), if_pos hf]; rfl
    have ht := two_range (f := f) hb h0 h1
    have hn := numF_range (f := f) hb h0 h1
    rw [dec_t (by omega), beq_t (by omega), if_neg hf, Bool.and_self, cond_true, packet_input_num_eq hb hl h0 h1, Option.bind_some]
    simp only
    rw [packet_input_num_eq hb hl (by omega) hn.2.2.1, Option.bind_some, need_t (by simp; omega), Option.bind_some, w64 (by omega) (by omega), show (((k + 1 : Nat) : Int) - 1) = (k : Int) by omega]
    exact ih g (two b u f).2.1 (two b u f).2.2 (row ++ [⟨(numF b u f).1, (two b u f).1⟩]) (by omega) (by omega) (by omega) (by simp; omega)
theorem pd_loop3 {b : List Int} {o1 : (List Int) × Int × Int × (List (List Int))} {o2 : (List Int) × Int × Int × (List Arr2_Int)} (hb : ∀ x ∈ b, okU8 x) (hl : b.length ≤ 100000) : ∀ (k m : Nat) (u f : Int) (row : List T_api_Event), k < m → 0 ≤ u → u ≤ b.length → row.length + k ≤ 1000 →
    packet_Decode_L3 200000 b o1 o2 m (k : Int) u f row = some (eventsF o1.2.2.2 o2.2.2.2 b k u f row) := by
  intro k
  induction k with
  | zero =>
    intro m u f row hm h0 h1 hr
    obtain ⟨g, rfl⟩ : ∃ g, m = g + 1 := ⟨m - 1, by omega⟩
    show packet_Decode_L3_body _ _ _ _ _ _ _ _ _ = _
    unfold packet_Decode_L3_body
    rw [and_f (.inl (by omega))]; rfl
  | succ k ih =>
    intro m u f row hm h0 h1 hr
    obtain ⟨g, rfl⟩ : ∃ g, m = g + 1 := ⟨m - 1, by omega⟩
    show packet_Decode_L3_body _ _ _ _ _ _ _ _ _ = _
    unfold packet_Decode_L3_body
    simp only [eventsF]
    by_cases hf : f ≠ 0
    · rw [and_f (.inr (beq_f hf)), if_pos hf]; rfl
    have h := decS_range (n := o1.2.2.2) (s := o2.2.2.2) (drop_ok hb u.toNat)
    rw [List.length_drop] at h
    rw [dec_t (by omega), beq_t (by omega), if_neg hf, Bool.and_self, cond_true, need_t ⟨h0, h1⟩, Option.bind_some, sub_drop b h0, record_Decode_eq (drop_ok hb _) (by rw [List.length_drop]; omega), Option.bind_some, need_t (by simp; omega), Option.bind_some, w64 (x := ((k + 1 : Nat) : Int) - 1) (by omega) (by omega), show (((k + 1 : Nat) : Int) - 1) = (k : Int) by omega, w64 (by omega) (by omega)]
    exact ih g (u + (decS o1.2.2.2 o2.2.2.2 (b.drop u.toNat)).2.1) (decS o1.2.2.2 o2.2.2.2 (b.drop u.toNat)).2.2 (row ++ [(decS o1.2.2.2 o2.2.2.2 (b.drop u.toNat)).1]) (by omega) (by omega) (by omega) (by simp; omega)
theorem packet_Decode_eq {b : List Int} (hb : ∀ x ∈ b, okU8 x) (hl : b.length ≤ 100000) : packet_Decode 200000 b = some (pDecS b) := by
  unfold packet_Decode
  obtain ⟨⟨a1, a2⟩, ⟨b1, b2⟩, ⟨c1, c2⟩, ⟨d1, d2, d3, d4⟩, ⟨e1, e2⟩, ⟨f1, f2, f3, f4⟩, ⟨g1, g2⟩, ⟨i1, i2, i3, i4⟩, ⟨j1, j2, j3⟩, _⟩ := pd_ranges hb
  rw [packet_input_num_eq hb hl (by omega) (by omega), Option.bind_some]
  show (packet_input_num 200000 ⟨b, (dT b).2.1, (dT b).2.2⟩).bind _ = _
  rw [packet_input_num_eq hb hl a1 a2, Option.bind_some]
  show (packet_input_num 200000 ⟨b, (dS b).2.1, (dS b).2.2⟩).bind _ = _
  rw [packet_input_num_eq hb hl b1 b2, Option.bind_some]
  show (packet_input_count 200000 ⟨b, (dL b).2.1, (dL b).2.2⟩ 1000).bind _ = _
  rw [packet_input_count_eq hb hl c1 c2, Option.bind_some]
  show (packet_Decode_L1 200000 200000 (dC1 b).1 b (dC1 b).2.1 (dC1 b).2.2 []).bind _ = _
  have q1 := pd_loop1 hb hl (dC1 b).1.toNat 200000 (dC1 b).2.1 (dC1 b).2.2 [] (by omega) d3 d4 (by simp; omega)
  rw [Int.toNat_of_nonneg d1] at q1
  rw [q1, Option.bind_some]
  show (packet_input_count 200000 ⟨b, (dN b).1, (dN b).2.1⟩ 1000).bind _ = _
  rw [packet_input_count_eq hb hl e1 e2, Option.bind_some]
  show (packet_Decode_L2 200000 200000 (dC2 b).1 b (dC2 b).2.1 (dC2 b).2.2 []).bind _ = _
  have q2 := pd_loop2 hb hl (dC2 b).1.toNat 200000 (dC2 b).2.1 (dC2 b).2.2 [] (by omega) f3 f4 (by simp; omega)
  rw [Int.toNat_of_nonneg f1] at q2
  rw [q2, Option.bind_some]
  have h3 : (bif ((dSt b).2.1 == (0 : Int)) then (intern_Check 200000 (dN b).2.2 (dSt b).2.2).bind (fun r_9 => some r_9) else some (dSt b).2.1) = some (dF3 b) := by
    unfold dF3
    by_cases h : (dSt b).2.1 = 0
    · rw [beq_t h, if_pos h, cond_true, intern_Check_eq]; rfl
    · rw [beq_f h, if_neg h]; rfl
  refine (congrArg (fun o => Option.bind o _) h3).trans ?_
  rw [Option.bind_some]
  show (packet_input_count 200000 ⟨b, (dSt b).1, dF3 b⟩ 1000).bind _ = _
  rw [packet_input_count_eq hb hl g1 g2, Option.bind_some]
  show (packet_Decode_L3 200000 b (b, dN b) (b, dSt b) 200000 (dC3 b).1 (dC3 b).2.1 (dC3 b).2.2 []).bind _ = _
  have q3 := pd_loop3 (o1 := (b, dN b)) (o2 := (b, dSt b)) hb hl (dC3 b).1.toNat 200000 (dC3 b).2.1 (dC3 b).2.2 [] (by omega) i3 i4 (by simp; omega)
  rw [Int.toNat_of_nonneg i1] at q3
  rw [q3, Option.bind_some]
  have hev : (dP b).Events.length ≤ 100000 := by show (dE b).2.2.length ≤ _; omega
  have h5 : (bif ((dE b).2.1 == (0 : Int)) then (packet_Check 200000 (dP b)).bind (fun r_12 => some r_12) else some (dE b).2.1) = some (dF5 b) := by
    unfold dF5
    by_cases h : (dE b).2.1 = 0
    · rw [beq_t h, if_pos h, cond_true, packet_Check_eq hev]; rfl
    · rw [beq_f h, if_neg h]; rfl
  refine (congrArg (fun o => Option.bind o _) h5).trans ?_
  rw [Option.bind_some]
  unfold pDecS
  by_cases h6 : dF5 b ≠ 0
  · rw [bne_t h6, if_pos h6]; rfl
  rw [bne_f (by omega), if_neg h6, cond_false]
  show ((packet_Encode 200000 (dP b)).bind _) = _
  rw [packet_Encode_eq hev, Option.bind_some]
  by_cases h7 : (pEncS (dP b)).2 ≠ 0
  · rw [bne_t h7, if_pos (.inl h7)]; rfl
  rw [bne_f (by omega), cond_false]
  show (((need (0 ≤ (dE b).1 ∧ (dE b).1 ≤ b.length)).bind fun _ => (bytes_Equal (pEncS (dP b)).1 (sub b 0 (dE b).1)).bind _).bind _) = _
  rw [need_t ⟨j1, j2⟩, Option.bind_some, sub_takeN j1]
  unfold bytes_Equal
  rw [Option.bind_some, Option.bind_some]
  by_cases h8 : (pEncS (dP b)).1 = b.take (dE b).1.toNat
  · rw [beqA_t h8, if_neg (fun h => h.elim h7 (fun g => g h8))]; rfl
  · rw [beqA_f h8, if_pos (.inr h8)]; rfl
end Go.Ab
