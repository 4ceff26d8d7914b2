/- The row of wR, from its plain law. Printed by row.py. -/
import Derived.Test.YtdpgdpjoemdkjaaR10
import Derived.Test.YtdpgdpjoemdkjaaP10xL10xProducerAccounts
import Derived.Test.YtdpgdpjoemdkjaaRows
namespace Go.Proofs.Ytdpgdpjoemdkjaa
open Go.Ab
set_option linter.unusedVariables false
theorem own:ownKnob Try.prog.godebug=none:=by kernel_rfl
theorem zLQ:laidOutB Try.prog=true:=by kernel_rfl
set_option maxRecDepth 100000 in
theorem zA1 (hs:∀ (a0:Int) (a1:Bool) (a2:List (yG)),z8 a0→zCO a1→(zBY uP) a2→∃ F,wR F a0 a1 a2=some true):∀ avs,zA5 Try.prog Try.f5.params.toList [[.int .i64],[.bool],[.sl true [.bool,.int .i64,.int .i64,.str,.int .i64,.int .i64,.sl false [.str]]]] avs→zCP Try.prog 5 [] avs [] (.bool true):=by
 intro avs h
 obtain ⟨x,rfl,hx⟩:=(zBz uB (zBz zKf (zBz (zKo zBm) zJj))) avs h
 obtain ⟨F,hF⟩:=hs x.1 x.2.1 x.2.2.1 hx.1 hx.2.1 hx.2.2.1
 exact zBl F x.1 x.2.1 x.2.2.1 true hF
set_option maxRecDepth 100000 in
theorem L10_ProducerAccounts_row (hs:∀ (a0:Int) (a1:Bool) (a2:List (yG)),z8 a0→zCO a1→(zBY uP) a2→∃ F,wR F a0 a1 a2=some true):Rows.ProducerAccountsSaid :=
 OpenClaim.holds_of_wide 5 Try.f5 rfl rfl rfl rfl rfl rfl rfl ⟨rfl,rfl,rfl,rfl,rfl⟩ rfl rfl rfl rfl rfl (by kernel_rfl) Try.func5 (by kernel_rfl)
  (of_decide_eq_true (by kernel_rfl)) (by unfold Func.isWrapper;rw [if_neg (by decide +kernel)];exact ⟨rfl,rfl⟩)
  (fun os started H enc _=>returnsInHanded_of_change_sized (C:=Try.checked) (s:=Rows.producerAccountsSpec) own started (by kernel_rfl) Try.func5
   (ChangeSpec.witness6 (enc:=enc) (C:=Try.checked) false ⟨#[],#[.int .i64 0,.bool false,.slice none 0 0],[]⟩ 8 (by kernel_rfl) (by kernel_rfl) (by kernel_rfl) (by kernel_rfl))
   (fun W base args ds gs before hval hW _ hz _=>zHM (n:=12) (tb:=4) zLQ rfl (by kernel_rfl) (sss:=[[.int .i64],[.bool],[.sl true [.bool,.int .i64,.int .i64,.str,.int .i64,.int .i64,.sl false [.str]]]]) (by kernel_rfl) (by kernel_rfl) (by kernel_rfl)
    (fun ds h=>match ds,h with | [_,_,_],_=>⟨rfl,rfl,rfl⟩) (zA1 hs) hval hW hz))
end Go.Proofs.Ytdpgdpjoemdkjaa
