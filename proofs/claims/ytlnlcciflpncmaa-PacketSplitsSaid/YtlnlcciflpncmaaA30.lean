/- Typed values behind cells: ranges of the integer kinds. -/
import Derived.Test.YtlnlcciflpncmaaA29
namespace Go.Ab
open Go

def okI64 (n : Int) : Prop := -9223372036854775808 ≤ n ∧ n ≤ 9223372036854775807
def okU8 (n : Int) : Prop := 0 ≤ n ∧ n ≤ 255
def okStr (s : List Int) : Prop := (∀ x ∈ s, okU8 x) ∧ s.length ≤ 9223372036854775807
def okSl {α : Type} (ok : α → Prop) (l : List α) : Prop := (∀ x ∈ l, ok x) ∧ l.length ≤ 9223372036854775807

theorem wrap_minmax {k : IntKind} {n : Int} (h : k.wrap n = n) : k.min ≤ n ∧ n ≤ k.max := by
  rw [← h]
  cases k <;> simp only [IntKind.wrap, IntKind.min, IntKind.max, IntKind.signed, IntKind.bits] <;> simp <;> (try split) <;> omega
theorem wrap_I64 {n : Int} (h : IntKind.i64.wrap n = n) : okI64 n := by
  have := wrap_minmax h; exact this
theorem Enc.weak {α : Type} {s : List Sh} {c : α → List AV} {ok ok' : α → Prop} (h : Enc s c ok) (ho : ∀ x, ok x → ok' x) : Enc s c ok' := by
  intro avs hf
  obtain ⟨x, rfl, hx⟩ := h avs hf
  exact ⟨x, rfl, ho x hx⟩
theorem enc_i64 : Enc [.int .i64] (fun n => [.int .i64 n]) okI64 := (enc_int .i64).weak fun _ => wrap_I64
theorem enc_st : Enc [.str] (fun s => [.str s]) okStr := enc_str.weak fun s h => ⟨fun x hx => by have := h.1 x hx; unfold okU8; omega, h.2⟩
theorem enc_lC {α : Type} {s : Sh} {e : α → AV} {ok : α → Prop} (h : Enc [s] (fun x => [e x]) ok) : Enc [.sl false [s]] (fun l => [.sl false 1 (l.map e)]) (okSl ok) := enc_slC h
theorem enc_lA {α : Type} {ss : List Sh} {c : α → List AV} {ok : α → Prop} (h : Enc ss c ok) : Enc [.sl true ss] (fun l => [.sl false ss.length (l.map fun x => .agg (c x))]) (okSl ok) := enc_slA h
end Go.Ab
