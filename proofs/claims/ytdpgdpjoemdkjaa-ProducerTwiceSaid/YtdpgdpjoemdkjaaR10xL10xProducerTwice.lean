/- The row of uT, from its plain law. Printed by row.py. -/
import Derived.Test.YtdpgdpjoemdkjaaR10
import Derived.Test.YtdpgdpjoemdkjaaP10xL10xProducerTwice
import Derived.Test.YtdpgdpjoemdkjaaRows
namespace Go.Proofs.Ytdpgdpjoemdkjaa
open Go.Ab
set_option linter.unusedVariables false
theorem own:ownKnob Try.prog.godebug=none:=by kernel_rfl
theorem zNy:laidOutB Try.prog=true:=by kernel_rfl
set_option maxRecDepth 100000 in
theorem zDd (hs:∀ (a0:List (y3)),(zDI qW) a0→∃ F,uT F a0=some true):∀ avs,zCC Try.prog Try.f6.params.toList [[.sl true [.bool,.int .i64,.int .i64,.str,.int .i64,.int .i64,.sl false [.str]]]] avs→zD9 Try.prog 6 [] avs [] (.bool true):=by
 intro avs h
 obtain ⟨x,rfl,hx⟩:=(zJS (zLM zCQ) zKA) avs h
 obtain ⟨F,hF⟩:=hs x.1 hx.1
 exact zDZ F x.1 true hF
set_option maxRecDepth 100000 in
theorem L10_ProducerTwice_row (hs:∀ (a0:List (y3)),(zDI qW) a0→∃ F,uT F a0=some true):Rows.ProducerTwiceSaid :=
 OpenClaim.holds_of_wide 6 Try.f6 rfl rfl rfl rfl rfl rfl rfl ⟨rfl,rfl,rfl,rfl,rfl⟩ rfl rfl rfl rfl rfl (by kernel_rfl) Try.func6 (by kernel_rfl)
  (of_decide_eq_true (by kernel_rfl)) (by unfold Func.isWrapper;rw [if_neg (by decide +kernel)];exact ⟨rfl,rfl⟩)
  (fun os started H enc _=>returnsInHanded_of_change_sized (C:=Try.checked) (s:=Rows.producerTwiceSpec) own started (by kernel_rfl) Try.func6
   (ChangeSpec.witness6 (enc:=enc) (C:=Try.checked) false ⟨#[],#[.slice none 0 0],[]⟩ 8 (by kernel_rfl) (by kernel_rfl) (by kernel_rfl) (by kernel_rfl))
   (fun W base args ds gs before hval hW _ hz _=>zIy (n:=12) (tb:=4) zNy rfl (by kernel_rfl) (sss:=[[.sl true [.bool,.int .i64,.int .i64,.str,.int .i64,.int .i64,.sl false [.str]]]]) (by kernel_rfl) (by kernel_rfl) (by kernel_rfl)
    (fun ds h=>match ds,h with | [_],_=>⟨rfl,rfl,rfl⟩) (zDd hs) hval hW hz))
end Go.Proofs.Ytdpgdpjoemdkjaa
