/- The row of wD, from its plain law. Printed by row.py. -/
import Derived.Test.YtdpgdpjoemdkjaaR10
import Derived.Test.YtdpgdpjoemdkjaaP10xL10xProducerThreads
import Derived.Test.YtdpgdpjoemdkjaaRows
namespace Go.Proofs.Ytdpgdpjoemdkjaa
open Go.Ab
set_option linter.unusedVariables false
theorem own:ownKnob Try.prog.godebug=none:=by kernel_rfl
theorem zLR:laidOutB Try.prog=true:=by kernel_rfl
set_option maxRecDepth 100000 in
theorem zBc (hs:∀ (a0:zC) (a1:Int) (a2:Int),t6 a0→yC a1→yC a2→∃ F,wD F a0 a1 a2=some true):∀ avs,zBb Try.prog Try.f3.params.toList [[.int .i64,.str,.int .i64],[.int .i64],[.int .i64]] avs→zCP Try.prog 3 [] avs [] (.bool true):=by
 intro avs h
 obtain ⟨x,rfl,hx⟩:=(zBu zA5 (zBu vF (zBu vF zIM))) avs h
 obtain ⟨F,hF⟩:=hs x.1 x.2.1 x.2.2.1 hx.1 hx.2.1 hx.2.2.1
 exact zBp F x.1 x.2.1 x.2.2.1 true hF
set_option maxRecDepth 100000 in
theorem L10_ProducerThreads_row (hs:∀ (a0:zC) (a1:Int) (a2:Int),t6 a0→yC a1→yC a2→∃ F,wD F a0 a1 a2=some true):Rows.ProducerThreadsSaid :=
 OpenClaim.holds_of_wide 3 Try.f3 rfl rfl rfl rfl rfl rfl rfl ⟨rfl,rfl,rfl,rfl,rfl⟩ rfl rfl rfl rfl rfl (by kernel_rfl) Try.func3 (by kernel_rfl)
  (of_decide_eq_true (by kernel_rfl)) (by unfold Func.isWrapper;rw [if_neg (by decide +kernel)];exact ⟨rfl,rfl⟩)
  (fun os started H enc _=>returnsInHanded_of_change_sized (C:=Try.checked) (s:=Rows.producerThreadsSpec) own started (by kernel_rfl) Try.func3
   (ChangeSpec.witness6 (enc:=enc) (C:=Try.checked) false ⟨#[],#[.agg #[.int .i64 0,.string ⟨#[]⟩,.int .i64 0],.int .i64 0,.int .i64 0],[]⟩ 8 (by kernel_rfl) (by kernel_rfl) (by kernel_rfl) (by kernel_rfl))
   (fun W base args ds gs before hval hW _ hz _=>zHu (n:=12) (tb:=4) zLR rfl (by kernel_rfl) (sss:=[[.int .i64,.str,.int .i64],[.int .i64],[.int .i64]]) (by kernel_rfl) (by kernel_rfl) (by kernel_rfl)
    (fun ds h=>match ds,h with | [_,_,_],_=>⟨rfl,rfl,rfl⟩) (zBc hs) hval hW hz))
end Go.Proofs.Ytdpgdpjoemdkjaa
