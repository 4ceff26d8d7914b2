/- More words for the printed proofs. -/
import Derived.Test.YtldkljbmhfiboaaA24
namespace Go.Ab
open Go

def codeOf (f : Func) : Code := match f.body with | some c => c | none => .skip

def FinR (P : Program) (fn : Func) (np : Nat) (post : List Box) (res : AV) (st : AS) : Prop :=
  np ≤ post.length ∧ finOut P fn post.length st = some (res, post.map BoxSt.live)

theorem ctr {α : Type} {g : Bool} {v x y : α} (h : g = true) (e : v = x) : v = (bif g then x else y) := by rw [h]; exact e
theorem cfr {α : Type} {g : Bool} {v x y : α} (h : g = false) (e : v = y) : v = (bif g then x else y) := by rw [h]; exact e
theorem andt {g v w : Bool} (h : g = true) (e : v = w) : v = (g && w) := by rw [h]; simpa using e
theorem andf {g w : Bool} (h : g = false) : false = (g && w) := by rw [h]; rfl
theorem ort {g w : Bool} (h : g = true) : true = (g || w) := by rw [h]; rfl
theorem orf {g v w : Bool} (h : g = false) (e : v = w) : v = (g || w) := by rw [h]; simpa using e

theorem vc_getN {α : Type} {e : α → AV} {l : List α} {i : Nat} {x : α} (h : l[i]? = some x) : (l.map e)[i]? = some (e x) := by rw [List.getElem?_map, h]; rfl
theorem vc_part {α : Type} {e : α → AV} (l : List α) (a b : Nat) : ((l.map e).take b).drop a = ((l.take b).drop a).map e := by simp
theorem vc_copy {α : Type} {e : α → AV} (l m : List α) (a n b : Nat) : (l.take a ++ m.take n ++ l.drop b).map e = (l.map e).take a ++ (m.map e).take n ++ (l.map e).drop b := by simp
theorem vc_min {β : Type} (k : Nat) (m : List β) {f : β → AV} : min m.length k = min (m.map f).length k := by simp

theorem vc_subn {α : Type} {e : α → AV} (l : List α) (a : Int) : (sub l a (((l.length : Nat) : Int))).map e = ((l.map e).take ((((l.map e).length : Nat) : Int)).toNat).drop a.toNat := by
  simp only [sub, Int.toNat_natCast, List.take_length, List.map_drop]
theorem vc_app_part {α : Type} {e : α → AV} (l m : List α) (a b : Nat) : (l ++ (m.take a).drop b).map e = l.map e ++ ((m.map e).take a).drop b := by rw [List.map_append, List.map_drop, List.map_take]
theorem none_ne {α : Type} {a : α} {p : Prop} (h : (none : Option α) = some a) : p := by cases h

theorem losA_refl_len {x : AV} : x = x := rfl

/-- What is known of a function serves for arguments that are known better. -/
theorem triple_lo {P : Program} {f : FuncId} {pre giv : List Box} {args args' : List AV} {post : List Box} {res : AV} (h : TripleG P f pre giv args' post res) (h1 : args'.all onesA = true) (hl : AllP (losA args args')) :
    TripleG P f pre giv args post res := by
  intro w I foot gp vals a1 a0 a2 a3 a4 a5 a6 a7
  obtain ⟨hlen, hr⟩ := losA_spec (allP hl)
  refine h w I foot gp vals a1 a0 a2 a3 a4 a5 (a6.trans hlen) ?_
  intro j av hj
  have hlt : j < args.length := by
    rw [hlen]
    rcases Nat.lt_or_ge j args'.length with h' | h'
    · exact h'
    · rw [List.getElem?_eq_none h'] at hj; cases hj
  exact loA_rep (a7 j _ (List.getElem?_eq_getElem hlt)) (hr j _ av (List.getElem?_eq_getElem hlt) hj) (List.all_eq_true.1 h1 av (List.mem_of_getElem? hj))
end Go.Ab
