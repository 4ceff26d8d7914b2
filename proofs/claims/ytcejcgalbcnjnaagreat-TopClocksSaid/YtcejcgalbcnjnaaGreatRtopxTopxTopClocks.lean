/- Lemmas. No conditions but those that they name. -/
import Derived.Test.YtcejcgalbcnjnaaGreatRtop
import Derived.Test.YtcejcgalbcnjnaaGreatPtxTopxTopClocks
import Derived.Test.YtcejcgalbcnjnaaGreatRows
namespace Go.Proofs.YtcejcgalbcnjnaaGreat
open Go.Ab
set_option linter.unusedVariables false
theorem own:ownKnob Tryz.prog.godebug=none:=by kernel_rfl
theorem zJm:laidOutB Tryz.prog=true:=by kernel_rfl
set_option maxRecDepth 100000 in
theorem zMY (hs:∀ (a0:uL),WU a0->∃ F,AN F a0=some true):∀ avs,EZ Tryz.prog Tryz.f3.params.toList [[.sl true [.int .i64,.int .i64,.int .i64],.sl true [.int .i64,.int .i64,.int .i64,.int .i64],.sl false [.int .i64],.sl false [.sl false [.int .i64]],.sl true [.int .i64,.int .i64,.int .i64,.int .i64]]] avs->E8 Tryz.prog 3 [] avs [] (.bool true):=by
 intro avs h;obtain ⟨x,rfl,hx⟩:=(zJG zLH zIh) avs h;obtain ⟨F,hF⟩:=hs x.1 hx.1;exact zIT F x.1 true hF
set_option maxRecDepth 100000 in
theorem Top_TopClocks_row (hs:∀ (a0:uL),WU a0->∃ F,AN F a0=some true):Rows.TopClocksSaid :=
 OpenClaim.holds_of_wide 3 Tryz.f3 rfl rfl rfl rfl rfl rfl rfl ⟨rfl,rfl,rfl,rfl,rfl⟩ rfl rfl rfl rfl rfl (by kernel_rfl) Tryz.func3 (by kernel_rfl)
  (of_decide_eq_true (by kernel_rfl)) (by unfold Func.isWrapper;rw [if_neg (by decide +kernel)];exact ⟨rfl,rfl⟩)
  (fun os started H enc _=>returnsInHanded_of_change_sized (C:=Tryz.checked) (s:=Rows.topClocksSpec) own started (by kernel_rfl) Tryz.func3
   (ChangeSpec.witness6 (enc:=enc) (C:=Tryz.checked) false ⟨#[],#[.agg #[.slice none 0 0,.slice none 0 0,.slice none 0 0,.slice none 0 0,.slice none 0 0]],[]⟩ 8 (by kernel_rfl) (by kernel_rfl) (by kernel_rfl) (by kernel_rfl))
   (fun W base args ds gs before hval hW _ hz _=>zLu (n:=12) (tb:=4) zJm rfl (by kernel_rfl) (sss:=[[.sl true [.int .i64,.int .i64,.int .i64],.sl true [.int .i64,.int .i64,.int .i64,.int .i64],.sl false [.int .i64],.sl false [.sl false [.int .i64]],.sl true [.int .i64,.int .i64,.int .i64,.int .i64]]]) (by kernel_rfl) (by kernel_rfl) (by kernel_rfl)
    (fun ds h=>match ds,h with | [_],_=>⟨rfl,rfl,rfl⟩) (zMY hs) hval hW hz))
end Go.Proofs.YtcejcgalbcnjnaaGreat
