/- The rules once more, in the shortest words: what the kernel computes is left to it. -/
import Derived.Test.YtldkljbmhfiboaaA41
namespace Go.Ab
open Go

abbrev Ii (x : Int) : AV := .int .i64 x
abbrev Iu (x : Int) : AV := .int .u8 x
abbrev Vb (n : Nat) (l : List AV) : BoxSt := .live (.var n l)
abbrev Rb (n k : Nat) (l : List AV) : BoxSt := .live (.row n k l)
abbrev Hg : Hint := { g := false }
abbrev Ht : Hint := { b := true }
abbrev Hf : Hint := { b := false }
abbrev Hl (l : List AV) : Hint := { l := l }
abbrev Pp (i : Nat) : AV := .ptr i 0 0 0
abbrev Mb (l : List Int) : List AV := List.map (AV.int .u8) l
abbrev Mi (l : List Int) : List AV := List.map (AV.int .i64) l
abbrev Ms (l : List (List Int)) : List AV := List.map AV.str l
abbrev Mp {α : Type} (f : α → AV) (l : List α) : List AV := List.map f l
abbrev lN {α : Type} (l : List α) : Int := ((l.length : Nat) : Int)
theorem bft (b : Bool) : b = true ∨ b = false := Bool.eq_false_or_eq_true b
variable {P : Program} {N np : Nat} {K : Exit → AS → Prop} {c : Code} {st : AS}
theorem sq (h : AW P N np (Code.l c) (thenK P N np (Code.r c) K) st) (hc : c = .seq (Code.l c) (Code.r c) := by kernel_rfl) : AW P N np c K st := aw_seq hc h
theorem rt (h : K .ret st) (hc : c = .ret := by kernel_rfl) : AW P N np c K st := aw_ret hc h
theorem sk (h : K .normal st) (hc : c = .skip := by kernel_rfl) : AW P N np c K st := aw_skip hc h
theorem rg {sl : List (Nat × AV)} {bx : List (Nat × BoxSt)} {n : Nat} (hs : List (Nat × Hint)) (live bl : List Nat) (n' : Nat) {vcs : List Prop} (vals : List AV) (bxs : List BoxSt) (hm : P.follows .mixedOrders = true) (hv : AllP vcs)
    (hk : K .normal (mk (live.zip vals) (bl.zip bxs) n')) (h : regOut P N np c hs sl bx n live bl n' = some (vcs, vals, bxs) := by kernel_rfl) : AW P N np c K (mk sl bx n) := aw_region hs live bl n' h hm hv hk
theorem sr {sl : List (Nat × AV)} {bx : List (Nat × BoxSt)} {n : Nat} (hs : List (Nat × Hint)) (live bl : List Nat) (n' : Nat) {vcs : List Prop} (vals : List AV) (bxs : List BoxSt) (hm : P.follows .mixedOrders = true) (hv : AllP vcs)
    (hk : thenK P N np (Code.r c) K .normal (mk (live.zip vals) (bl.zip bxs) n')) (h : regOut P N np (Code.l c) hs sl bx n live bl n' = some (vcs, vals, bxs) := by kernel_rfl) (hc : c = .seq (Code.l c) (Code.r c) := by kernel_rfl) : AW P N np c K (mk sl bx n) :=
  aw_seq hc (aw_region hs live bl n' h hm hv hk)
theorem sw (ρ ids : List Nat) (sps : List Sp) (bps : List Bp) {vcs : List Prop} {sl2 : List (Nat × AV)} {bx2 : List (Nat × BoxSt)} (hv : AllP vcs) (h : wkm np st ρ ids sps bps = some (vcs, sl2, bx2) := by kernel_rfl) : Sub np st (mk sl2 bx2 ρ.length) := sub_wkm ρ ids sps bps h hv
theorem wk (ρ ids : List Nat) (sps : List Sp) (bps : List Bp) {vcs : List Prop} (sl2 : List (Nat × AV)) (bx2 : List (Nat × BoxSt)) (hv : AllP vcs) (k : AW P N np c K (mk sl2 bx2 ρ.length)) (h : wkm np st ρ ids sps bps = some (vcs, sl2, bx2) := by kernel_rfl) : AW P N np c K st := aw_sub (sub_wkm ρ ids sps bps h hv) k
theorem cd (t : Nat) (b : Bool) (h1 : b = true → AW P N np (Code.t c) K st) (h2 : b = false → AW P N np (Code.e c) K st) (hc : c = .cond (.tmp t) (Code.t c) (Code.e c) := by kernel_rfl) (hs : st.slot t = .bool b := by kernel_rfl) : AW P N np c K st := aw_cond hc hs h1 h2
theorem ar {α : Type} (x : α) {r : List Prop} (t : AllP r) : AllP ((x = x) :: r) := ⟨rfl, t⟩
theorem ax {r : List Prop} (t : AllP r) : AllP ((true = !false) :: r) := ⟨rfl, t⟩
end Go.Ab
