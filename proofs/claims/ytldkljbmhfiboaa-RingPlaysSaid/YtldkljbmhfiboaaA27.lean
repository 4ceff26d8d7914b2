/- Typed values behind cells of given shapes. -/
import Derived.Test.YtldkljbmhfiboaaA26
namespace Go.Ab
open Go

/-- Whatever fits the shapes is the cells of a typed value, of which 'ok' is known. -/
def Enc {α : Type} (sh : List Sh) (c : α → List AV) (ok : α → Prop) : Prop := ∀ avs, Fit sh avs → ∃ x, avs = c x ∧ ok x

theorem enc_int (k : IntKind) : Enc [.int k] (fun n => [.int k n]) (fun n => k.wrap n = n) := by
  intro avs h
  cases h with
  | int hw hr => cases hr; exact ⟨_, rfl, hw⟩
theorem enc_bool : Enc [.bool] (fun b => [.bool b]) (fun _ => True) := by
  intro avs h
  cases h with
  | bool hr => cases hr; exact ⟨_, rfl, trivial⟩
theorem enc_str : Enc [.str] (fun s => [.str s]) (fun s => (∀ x ∈ s, 0 ≤ x ∧ x < 256) ∧ s.length ≤ lenM) := by
  intro avs h
  cases h with
  | str h1 h2 hr => cases hr; exact ⟨_, rfl, h1, h2⟩

theorem list_enc {α : Type} {e : α → AV} {ok : α → Prop} {l : List AV} (h : ∀ a ∈ l, ∃ x, a = e x ∧ ok x) : ∃ L : List α, l = L.map e ∧ ∀ x ∈ L, ok x := by
  induction l with
  | nil => exact ⟨[], rfl, by simp⟩
  | cons a r ih =>
    obtain ⟨x, rfl, hx⟩ := h a (by simp)
    obtain ⟨L, rfl, hL⟩ := ih fun b hb => h b (by simp [hb])
    exact ⟨x :: L, rfl, by simpa using ⟨hx, hL⟩⟩

theorem enc_slC {α : Type} {s : Sh} {e : α → AV} {ok : α → Prop} (h : Enc [s] (fun x => [e x]) ok) : Enc [.sl false [s]] (fun l => [.sl false 1 (l.map e)]) (fun l : List α => (∀ x ∈ l, ok x) ∧ l.length ≤ lenM) := by
  intro avs hf
  cases hf with
  | slC _ h1 hl hr =>
    cases hr
    obtain ⟨L, rfl, hL⟩ := list_enc (e := e) (ok := ok) (fun a ha => by
      obtain ⟨x, hx, ho⟩ := h _ (h1 a ha)
      injection hx with hx
      exact ⟨x, hx, ho⟩)
    exact ⟨L, rfl, hL, by simpa using hl⟩

theorem enc_slA {α : Type} {ss : List Sh} {c : α → List AV} {ok : α → Prop} (h : Enc ss c ok) : Enc [.sl true ss] (fun l => [.sl false ss.length (l.map fun x => .agg (c x))]) (fun l : List α => (∀ x ∈ l, ok x) ∧ l.length ≤ lenM) := by
  intro avs hf
  cases hf with
  | slA g h1 h2 hl hr =>
    cases hr
    obtain ⟨L, rfl, hL⟩ := list_enc (e := fun x => AV.agg (c x)) (ok := ok) (fun a ha => by
      obtain ⟨x, hx, ho⟩ := h _ (h2 a ha)
      exact ⟨x, by rw [h1 a ha, hx], ho⟩)
    exact ⟨L, rfl, hL, by simpa using hl⟩

theorem Fit.split {s s' : List Sh} {avs : List AV} (h : Fit (s ++ s') avs) : ∃ a b, avs = a ++ b ∧ Fit s a ∧ Fit s' b := by
  induction s generalizing avs with
  | nil => exact ⟨[], avs, rfl, .nil, h⟩
  | cons x r ih =>
    cases h with
    | int h1 hr => obtain ⟨a, b, rfl, f1, f2⟩ := ih hr; exact ⟨_ :: a, b, rfl, .int h1 f1, f2⟩
    | bool hr => obtain ⟨a, b, rfl, f1, f2⟩ := ih hr; exact ⟨_ :: a, b, rfl, .bool f1, f2⟩
    | str h1 h2 hr => obtain ⟨a, b, rfl, f1, f2⟩ := ih hr; exact ⟨_ :: a, b, rfl, .str h1 h2 f1, f2⟩
    | slA g h1 h2 h3 hr => obtain ⟨a, b, rfl, f1, f2⟩ := ih hr; exact ⟨_ :: a, b, rfl, .slA g h1 h2 h3 f1, f2⟩
    | slC h0 h1 h3 hr => obtain ⟨a, b, rfl, f1, f2⟩ := ih hr; exact ⟨_ :: a, b, rfl, .slC h0 h1 h3 f1, f2⟩

theorem enc_app {α β : Type} {s s' : List Sh} {c : α → List AV} {c' : β → List AV} {ok : α → Prop} {ok' : β → Prop} (h : Enc s c ok) (h' : Enc s' c' ok') :
    Enc (s ++ s') (fun p : α × β => c p.1 ++ c' p.2) (fun p => ok p.1 ∧ ok' p.2) := by
  intro avs hf
  obtain ⟨a, b, rfl, f1, f2⟩ := hf.split
  obtain ⟨x, rfl, hx⟩ := h a f1
  obtain ⟨y, rfl, hy⟩ := h' b f2
  exact ⟨(x, y), rfl, hx, hy⟩
theorem enc_nil : Enc [] (fun _ : Unit => []) (fun _ => True) := by
  intro avs h; cases h; exact ⟨(), rfl, trivial⟩
end Go.Ab
