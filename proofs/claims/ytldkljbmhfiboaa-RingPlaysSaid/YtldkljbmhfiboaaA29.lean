/- The row of a law: from a Triple for every fitting argument to the law's contract. -/
import Derived.Test.YtldkljbmhfiboaaA28
import Derived.Handed
import Derived.JoinedOf
import Derived.JoinedCond
namespace Go.Ab
open Go Go.ChangeShapes Go.RowKit Go.WideShapes

/-- An argument of a type, from its cells. -/
def argAV (P : Program) (t : TypeId) (avs : List AV) : AV := bif isAggT P t then .agg avs else avs.headD .junk

inductive FitAll (P : Program) : List TypeId → List (List Sh) → List AV → Prop
  | nil : FitAll P [] [] []
  | cons {t ts s ss avs r} : Fit s avs → FitAll P ts ss r → FitAll P (t :: ts) (s :: ss) (argAV P t avs :: r)

def shapesAll (P : Program) (n : Nat) : List TypeId → Option (List (List Sh))
  | [] => some []
  | t :: r => match shapes P n t with
    | none => none
    | some a => match shapesAll P n r with
      | none => none
      | some b => some (a :: b)

theorem cells_of_okWide {P : Program} {w : World} {r : Reach} {base n : Nat} {t : TypeId} {v : Value} {ss : List Sh} (hs : shapes P n t = some ss) (h : Value.okWide P w r base t v) :
    (isAggT P t = true → ∃ cs, v = .agg cs) ∧ (isAggT P t = false → v.cells.toList = [v] ∧ ss.length = 1) := by
  cases n with
  | zero => simp [shapes] at hs
  | succ n =>
    simp only [shapes] at hs
    split at hs
    · rename_i k hk
      injection hs with hs; subst hs
      obtain ⟨m, rfl⟩ := okWide_int hk h
      simp [isAggT, hk, Value.cells]
    · rename_i hk
      injection hs with hs; subst hs
      obtain ⟨m, rfl⟩ := okWide_bool hk h
      simp [isAggT, hk, Value.cells]
    · rename_i hk
      injection hs with hs; subst hs
      obtain ⟨m, rfl⟩ := okWide_string hk h
      simp [isAggT, hk, Value.cells]
    · rename_i e hk
      obtain ⟨a, l, c, rfl⟩ := okWide_slice hk h
      split at hs
      · replace hs := bif_some hs
        obtain ⟨_, hs⟩ := hs
        injection hs with hs; subst hs
        simp [isAggT, hk, Value.cells]
      · cases hs
    · rename_i fs hk
      obtain ⟨cs, rfl, _⟩ := okWide_struct hk h
      simp [isAggT, hk]
    · rename_i m e hk
      simp only [Value.okWide, hk] at h
      obtain ⟨cs, rfl, _⟩ := h
      simp [isAggT, hk]
    · cases hs

theorem open_arg {H : Type} {enc : TypeId × Value → H} {P : Program} {w : World} {I : Nat → Prop} (hI : ∀ b, b < w.heap.size → I b) {r : Reach} {b0 base n : Nat} {spare : Nat → Bool} {held : Bool} {t : TypeId} {v : Value} {ss : List Sh} {d : DataW H} {ps : List MemPlace} {T : Tbl}
    (hs : shapes P n t = some ss) (h : Value.okWide P w r b0 t v) (hd : DataW.Trod enc P w base spare held t v d ps) (hw : ∀ k ∈ d.weights P t, k ≤ lenM) : ∃ avs, Fit ss avs ∧ Rep w I T v (argAV P t avs) := by
  obtain ⟨fuel, hf⟩ := hd
  obtain ⟨avs, h1, h2, h3⟩ := open_rep hI n t ss fuel _ _ T hs hf hw
  refine ⟨avs, h1, ?_⟩
  obtain ⟨hA, hB⟩ := cells_of_okWide hs h
  unfold argAV
  cases ha : isAggT P t
  · obtain ⟨hc, hl⟩ := hB ha
    simp only [cond_false]
    have hl2 := h1.len
    rw [hl] at hl2
    match avs, hl2 with
    | [x], _ =>
      have := h3 0 x rfl
      rw [hc] at this; exact this
  · obtain ⟨cs, rfl⟩ := hA ha
    simp only [cond_true]
    refine .agg (by simpa [Value.cells] using h2) h1.one fun j c hj => ?_
    have := h3 j c hj
    simpa [Value.cells, List.getD_eq_getElem?_getD, Array.getD_eq_getD_getElem?] using this

theorem open_args {H : Type} {enc : TypeId × Value → H} {P : Program} {w : World} {I : Nat → Prop} (hI : ∀ b, b < w.heap.size → I b) {r : Reach} {b0 base n : Nat} {spare : Nat → Bool} {held : Bool} {T : Tbl} :
    ∀ {ts : List TypeId} {sss : List (List Sh)} {vs : List Value} {ds : List (DataW H)} {ps : List MemPlace}, shapesAll P n ts = some sss → (∀ (j : Nat) (t : TypeId) (v : Value), ts[j]? = some t → vs[j]? = some v → Value.okWide P w r b0 t v) →
      DataW.TrodAll enc P w base spare held ts vs ds ps → (∀ k ∈ DataW.weightsEach P ts ds, k ≤ lenM) → ∃ avs, FitAll P ts sss avs ∧ vs.length = avs.length ∧ ∀ (j : Nat) (av : AV), avs[j]? = some av → Rep w I T (vs.getD j undef) av := by
  intro ts
  induction ts with
  | nil =>
    intro sss vs ds ps hs _ h _
    obtain ⟨rfl, _, _⟩ := trodAll_nil h
    simp only [shapesAll, Option.some.injEq] at hs; subst hs
    exact ⟨[], .nil, rfl, fun j av hj => by simp at hj⟩
  | cons t ts ih =>
    intro sss vs ds ps hs hok h hw
    obtain ⟨v, vs', d, ds', p, q, rfl, rfl, rfl, h1, h2⟩ := trodAll_cons h
    simp only [shapesAll] at hs
    split at hs
    · cases hs
    rename_i a ha
    split at hs
    · cases hs
    rename_i b hb
    injection hs with hs; subst hs
    obtain ⟨av1, f1, r1⟩ := open_arg (T := T) hI ha (hok 0 t v rfl rfl) h1 (fun k hk => hw k (by simp only [DataW.weightsEach, List.mem_append]; exact .inl hk))
    obtain ⟨av2, f2, l2, r2⟩ := ih hb (fun j u x hu hx => hok (j + 1) u x (by simpa using hu) (by simpa using hx)) h2 (fun k hk => hw k (by simp only [DataW.weightsEach, List.mem_append]; exact .inr hk))
    refine ⟨argAV P t av1 :: av2, .cons f1 f2, by simp [l2], fun j av hj => ?_⟩
    cases j with
    | zero => simp at hj; subst hj; exact r1
    | succ j => exact r2 j av (by simpa using hj)

theorem trodAll_len {H : Type} {enc : TypeId × Value → H} {P : Program} {w : World} {base : Nat} {spare : Nat → Bool} {held : Bool} : ∀ {ts : List TypeId} {vs : List Value} {ds : List (DataW H)} {ps : List MemPlace}, DataW.TrodAll enc P w base spare held ts vs ds ps → ds.length = ts.length := by
  intro ts
  induction ts with
  | nil => intro vs ds ps h; obtain ⟨_, rfl, _⟩ := trodAll_nil h; rfl
  | cons t ts ih =>
    intro vs ds ps h
    obtain ⟨v, vs', d, ds', p, q, rfl, rfl, rfl, _, h2⟩ := trodAll_cons h
    simp [ih h2]

theorem weightsEach_app {H : Type} {P : Program} : ∀ {ts us : List TypeId} {ds gs : List (DataW H)}, ∀ k ∈ DataW.weightsEach P ts ds, k ∈ DataW.weightsEach P (ts ++ us) (ds ++ gs) := by
  intro ts
  induction ts with
  | nil => intro us ds gs k hk; simp [DataW.weightsEach] at hk
  | cons t r ih =>
    intro us ds gs k hk
    cases ds with
    | nil => simp [DataW.weightsEach] at hk
    | cons d q =>
      simp only [DataW.weightsEach, List.mem_append, List.cons_append] at hk ⊢
      rcases hk with hk | hk
      · exact .inl hk
      · exact .inr (ih k hk)
theorem law_contract {H : Type} {enc : TypeId × Value → H} {P : Program} {f : FuncId} {fn : Func} {s : ChangeSpec} {tb : TypeId} {n : Nat} {sss : List (List Sh)} (hl : laidOutB P = true) (hv : s.vars = [])
    (hp : (fn.params.toList.all fun t => P.readableRec t && decide (t < P.types.size)) = true) (hs : shapesAll P n fn.params.toList = some sss) (hrt : fn.resultTypes = #[tb]) (htb : P.underlying tb = some .bool)
    (hfn : ∀ ds : List (DataW H), ds.length = fn.params.toList.length → (s.fn H ds).results = [.lit (.bool true)] ∧ (s.fn H ds).args = ds ∧ (s.fn H ds).vars = [])
    (key : ∀ avs, FitAll P fn.params.toList sss avs → Triple P f [] avs [] (.bool true))
    {W : World} {b0 : Nat} {args : Array Value} {ds gs : List (DataW H)} {before : List MemPlace}
    (hval : ∀ (j : Nat) t v, fn.params[j]? = some t → args[j]? = some v → Value.okWide P W .any b0 t v)
    (hW : DataW.Whole enc P fn.params.toList s.vars false W args.toList ds gs before) {us : List TypeId} (hz : (DataW.weightsEach P (fn.params.toList ++ us) (ds ++ gs)).all (· ≤ reachBytes) = true) :
    Calls P f args W fun e W' => ∃ v, e = .returned v ∧ s.post enc P fn false true false false W args v W' := by
  have hlt : ∀ x ∈ before, x.block < W.heap.size := fun x hx => by simpa using hW.lt x hx
  have hW1 := hW
  obtain ⟨p, q, hA, hV, rfl, _, _⟩ := hW
  rw [hv] at hV
  obtain ⟨rfl, rfl⟩ := trodVars_none hV
  obtain ⟨avs, h1, h2, h3⟩ := open_args (I := fun b => b < W.heap.size) (T := fun i => ([] : List Place)[i]?) (fun _ h => h) hs (fun j t v ht hx => hval j t v (by simpa using ht) (by simpa using hx)) hA (fun k hk => by
    have := List.all_eq_true.1 hz k (weightsEach_app k hk)
    have h2 := reachBytes_lt
    simp only [decide_eq_true_eq] at this
    show k ≤ 140737488355328
    omega)
  have hlen : ds.length = fn.params.toList.length := trodAll_len hA
  obtain ⟨k1, k2, k3⟩ := hfn ds hlen
  refine (triple_calls (key avs h1) (by simpa using h2) (fun j av hj => by simpa [List.getD_eq_getElem?_getD, Array.getD_eq_getD_getElem?] using h3 j av hj)).mono ?_
  rintro e W' ⟨rfl, hb⟩
  refine ⟨_, rfl, law_post (ds := ds) hl hv ?_ hW1 hrt htb (by rw [List.append_nil]; exact k1) (by rw [List.append_nil]; exact k2) (by rw [List.append_nil]; exact k3) hlt hb⟩
  intro t ht
  have := List.all_eq_true.1 hp t ht
  simp only [Bool.and_eq_true, decide_eq_true_eq] at this
  exact this

/-- Arguments that fit are typed values. -/
def EncAll {α : Type} (P : Program) (ts : List TypeId) (sss : List (List Sh)) (c : α → List AV) (ok : α → Prop) : Prop := ∀ avs, FitAll P ts sss avs → ∃ x, avs = c x ∧ ok x
theorem encAll_nil {P : Program} : EncAll P [] [] (fun _ : Unit => []) (fun _ => True) := by
  intro avs h; cases h; exact ⟨(), rfl, trivial⟩
theorem encAll_cons {α β : Type} {P : Program} {t : TypeId} {ts : List TypeId} {s : List Sh} {ss : List (List Sh)} {c : α → List AV} {ok : α → Prop} {c' : β → List AV} {ok' : β → Prop} (h : Enc s c ok) (h' : EncAll P ts ss c' ok') :
    EncAll P (t :: ts) (s :: ss) (fun p : α × β => argAV P t (c p.1) :: c' p.2) (fun p => ok p.1 ∧ ok' p.2) := by
  intro avs hf
  cases hf with
  | cons f1 f2 =>
    obtain ⟨x, rfl, hx⟩ := h _ f1
    obtain ⟨y, rfl, hy⟩ := h' _ f2
    exact ⟨(x, y), rfl, hx, hy⟩
/-- Another typed view. -/
theorem Enc.view {α β : Type} {s : List Sh} {c : α → List AV} {ok : α → Prop} (h : Enc s c ok) (f : α → β) {c' : β → List AV} {ok' : β → Prop} (hc : ∀ x, c x = c' (f x)) (ho : ∀ x, ok x → ok' (f x)) : Enc s c' ok' := by
  intro avs hf
  obtain ⟨x, rfl, hx⟩ := h avs hf
  exact ⟨f x, hc x, ho x hx⟩
end Go.Ab
