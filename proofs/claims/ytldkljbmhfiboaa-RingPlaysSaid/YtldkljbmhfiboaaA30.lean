/- Typed values behind cells: ranges of the integer kinds. -/
import Derived.Test.YtldkljbmhfiboaaA29
namespace Go.Ab
open Go

def okI64 (n : Int) : Prop := -9223372036854775808 ≤ n ∧ n ≤ 9223372036854775807
def okI32 (n : Int) : Prop := -2147483648 ≤ n ∧ n ≤ 2147483647
def okI16 (n : Int) : Prop := -32768 ≤ n ∧ n ≤ 32767
def okI8 (n : Int) : Prop := -128 ≤ n ∧ n ≤ 127
def okU64 (n : Int) : Prop := 0 ≤ n ∧ n ≤ 18446744073709551615
def okU32 (n : Int) : Prop := 0 ≤ n ∧ n ≤ 4294967295
def okU16 (n : Int) : Prop := 0 ≤ n ∧ n ≤ 65535
def okU8 (n : Int) : Prop := 0 ≤ n ∧ n ≤ 255
def okBool (_ : Bool) : Prop := True
def okStr (s : List Int) : Prop := (∀ x ∈ s, okU8 x) ∧ s.length ≤ 140737488355328
def okSl {α : Type} (ok : α → Prop) (l : List α) : Prop := (∀ x ∈ l, ok x) ∧ l.length ≤ 140737488355328

theorem wrap_minmax {k : IntKind} {n : Int} (h : k.wrap n = n) : k.min ≤ n ∧ n ≤ k.max := by
  rw [← h]
  cases k <;> simp only [IntKind.wrap, IntKind.min, IntKind.max, IntKind.signed, IntKind.bits] <;> simp <;> (try split) <;> omega
theorem wrap_I64 {n : Int} (h : IntKind.i64.wrap n = n) : okI64 n := by
  have := wrap_minmax h; exact this
theorem wrap_I32 {n : Int} (h : IntKind.i32.wrap n = n) : okI32 n := by
  have := wrap_minmax h; exact this
theorem wrap_I16 {n : Int} (h : IntKind.i16.wrap n = n) : okI16 n := by
  have := wrap_minmax h; exact this
theorem wrap_I8 {n : Int} (h : IntKind.i8.wrap n = n) : okI8 n := by
  have := wrap_minmax h; exact this
theorem wrap_U64 {n : Int} (h : IntKind.u64.wrap n = n) : okU64 n := by
  have := wrap_minmax h; exact this
theorem wrap_U32 {n : Int} (h : IntKind.u32.wrap n = n) : okU32 n := by
  have := wrap_minmax h; exact this
theorem wrap_U16 {n : Int} (h : IntKind.u16.wrap n = n) : okU16 n := by
  have := wrap_minmax h; exact this
theorem wrap_U8 {n : Int} (h : IntKind.u8.wrap n = n) : okU8 n := by
  have := wrap_minmax h; exact this
theorem Enc.weak {α : Type} {s : List Sh} {c : α → List AV} {ok ok' : α → Prop} (h : Enc s c ok) (ho : ∀ x, ok x → ok' x) : Enc s c ok' := by
  intro avs hf
  obtain ⟨x, rfl, hx⟩ := h avs hf
  exact ⟨x, rfl, ho x hx⟩
theorem enc_i64 : Enc [.int .i64] (fun n => [.int .i64 n]) okI64 := (enc_int .i64).weak fun _ => wrap_I64
theorem enc_i32 : Enc [.int .i32] (fun n => [.int .i32 n]) okI32 := (enc_int .i32).weak fun _ => wrap_I32
theorem enc_i16 : Enc [.int .i16] (fun n => [.int .i16 n]) okI16 := (enc_int .i16).weak fun _ => wrap_I16
theorem enc_i8 : Enc [.int .i8] (fun n => [.int .i8 n]) okI8 := (enc_int .i8).weak fun _ => wrap_I8
theorem enc_u64 : Enc [.int .u64] (fun n => [.int .u64 n]) okU64 := (enc_int .u64).weak fun _ => wrap_U64
theorem enc_u32 : Enc [.int .u32] (fun n => [.int .u32 n]) okU32 := (enc_int .u32).weak fun _ => wrap_U32
theorem enc_u16 : Enc [.int .u16] (fun n => [.int .u16 n]) okU16 := (enc_int .u16).weak fun _ => wrap_U16
theorem enc_u8 : Enc [.int .u8] (fun n => [.int .u8 n]) okU8 := (enc_int .u8).weak fun _ => wrap_U8
theorem enc_bl : Enc [.bool] (fun b => [.bool b]) okBool := enc_bool.weak fun _ _ => trivial
theorem enc_st : Enc [.str] (fun s => [.str s]) okStr := enc_str.weak fun s h => ⟨fun x hx => by have := h.1 x hx; unfold okU8; omega, h.2⟩
theorem enc_lC {α : Type} {s : Sh} {e : α → AV} {ok : α → Prop} (h : Enc [s] (fun x => [e x]) ok) : Enc [.sl false [s]] (fun l => [.sl false 1 (l.map e)]) (okSl ok) := enc_slC h
theorem enc_lA {α : Type} {ss : List Sh} {c : α → List AV} {ok : α → Prop} (h : Enc ss c ok) : Enc [.sl true ss] (fun l => [.sl false ss.length (l.map fun x => .agg (c x))]) (okSl ok) := enc_slA h
end Go.Ab
