/- The step of a law's row: from what is known of the law function to the row's statement. -/
import Derived.Test.YtldkljbmhfiboaaA27
import Derived.WalkKit
import Derived.ProofKit
import Derived.Carry
namespace Go.Ab
open Go Go.ChangeShapes Go.RowKit

theorem trodAll_stays {H : Type} {enc : TypeId × Value → H} {P : Program} (hl : laidOutB P = true) {W W' : World} (hb : Below W.heap.size W W') :
    ∀ {ts : List TypeId} {vs : List Value} {ds : List (DataW H)} {ps : List MemPlace}, (∀ t ∈ ts, P.readableRec t = true ∧ t < P.types.size) → DataW.TrodAll enc P W 0 (fun _ => true) true ts vs ds ps →
      (∀ x ∈ ps, x.block < W.heap.size) → DataW.TrodAll enc P W' 0 (fun b => decide (b < W.heap.size)) true ts vs ds ps := by
  intro ts
  induction ts with
  | nil =>
    intro vs ds ps _ h _
    obtain ⟨rfl, rfl, rfl⟩ := trodAll_nil h
    exact trodAll_mk0
  | cons t r ih =>
    intro vs ds ps hr h hlt
    obtain ⟨v, vs', d, ds', p, q, rfl, rfl, rfl, h1, h2⟩ := trodAll_cons h
    obtain ⟨k1, k2⟩ := hr t (by simp)
    exact ⟨p, q, Below.trod hl k1 k2 h1 hb (fun x hx => hlt x (by simp [hx])), ih (fun u hu => hr u (by simp [hu])) h2 (fun x hx => hlt x (by simp [hx])), rfl⟩

theorem law_post {H : Type} {enc : TypeId × Value → H} {P : Program} {fn : Func} {s : ChangeSpec} {W W' : World} {args : Array Value} {ds : List (DataW H)} {before : List MemPlace} {tb : TypeId} (hl : laidOutB P = true) (hv : s.vars = [])
    (hp : ∀ t ∈ fn.params.toList, P.readableRec t = true ∧ t < P.types.size) (hW : DataW.Whole enc P fn.params.toList s.vars false W args.toList ds [] before)
    (hrt : fn.resultTypes = #[tb]) (htb : P.underlying tb = some .bool) (h1 : (s.fn H (ds ++ [])).results = [.lit (.bool true)]) (h2 : (s.fn H (ds ++ [])).args = ds) (h3 : (s.fn H (ds ++ [])).vars = [])
    (hlt : ∀ x ∈ before, x.block < W.heap.size) (hb : Below W.heap.size W W') : s.post enc P fn false true false false W args (.bool true) W' := by
  have hW' := hW
  obtain ⟨p, q, hA, hV, rfl, _, _⟩ := hW
  rw [hv] at hV
  obtain ⟨_, rfl⟩ := trodVars_none hV
  refine ⟨ds, [], _, [], p, [], hW', ?_, ?_, ?_, hb.frame _, fun h => by cases h⟩
  · rw [h1, hrt]
    exact ⟨[], [], ⟨1, by simp [DataW.trod, htb, Value.cells]⟩, rfl, rfl⟩
  · rw [h2]; exact trodAll_stays hl hb hp hA (fun x hx => hlt x (by simp [hx]))
  · rw [h3, hv]; rfl

theorem triple_calls {P : Program} {f : FuncId} {args : List AV} (h : Triple P f [] args [] (.bool true)) {W : World} {vals : Array Value} (hs : vals.size = args.length)
    (hr : ∀ (j : Nat) (av : AV), args[j]? = some av → Rep W (fun b => b < W.heap.size) (fun i => ([] : List Place)[i]?) (vals.getD j undef) av) :
    Calls P f vals W fun e W' => e = .returned (.bool true) ∧ Below W.heap.size W W' := by
  refine (h W (fun b => b < W.heap.size) [] [] vals rfl rfl (by simp) (by simp) (by simp) (by simp) hs hr).mono ?_
  rintro e w' ⟨v, new, rfl, h1, h2, h3, h4, h5, _, _, _, hrep, _⟩
  generalize hv : AV.bool true = av at hrep
  cases hrep <;> cases hv
  exact ⟨rfl, h1, h2, h3, h4, fun k hk => h5 k hk (by simp)⟩
end Go.Ab
