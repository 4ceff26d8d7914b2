/- The row of tF, from its plain law. Printed by row.py. -/
import Derived.Test.YtdpgdpjoemdkjaaR10
import Derived.Test.YtdpgdpjoemdkjaaP10xL10xProducerChecks
import Derived.Test.YtdpgdpjoemdkjaaRows
namespace Go.Proofs.Ytdpgdpjoemdkjaa
open Go.Ab
set_option linter.unusedVariables false
theorem own:ownKnob Try.prog.godebug=none:=by kernel_rfl
theorem zRj:laidOutB Try.prog=true:=by kernel_rfl
set_option maxRecDepth 100000 in
theorem zFs (hs:∀ (a0:zK) (a1:zL),nR a0→zAk a1→∃ F,tF F a0 a1=some true):∀ avs,zED Try.prog Try.f7.params.toList [[.int .i64,.str,.int .i64,.sl false [.str],.sl true [.int .i64,.int .i64],.int .i64,.sl false [.int .u8],.int .i64,.int .i64,.int .i64,.int .i64,.int .i64,.int .i64],[.int .i64,.int .i64,.str,.int .i64,.int .i64,.sl false [.str]]] avs→zGO Try.prog 7 [] avs [] (.bool true):=by
 intro avs h
 obtain ⟨x,rfl,hx⟩:=(zHH zGK (zHH zFd zOg)) avs h
 obtain ⟨F,hF⟩:=hs x.1 x.2.1 hx.1 hx.2.1
 exact zFG F x.1 x.2.1 true hF
set_option maxRecDepth 100000 in
theorem L10_ProducerChecks_row (hs:∀ (a0:zK) (a1:zL),nR a0→zAk a1→∃ F,tF F a0 a1=some true):Rows.ProducerChecksSaid :=
 OpenClaim.holds_of_wide 7 Try.f7 rfl rfl rfl rfl rfl rfl rfl ⟨rfl,rfl,rfl,rfl,rfl⟩ rfl rfl rfl rfl rfl (by kernel_rfl) Try.func7 (by kernel_rfl)
  (of_decide_eq_true (by kernel_rfl)) (by unfold Func.isWrapper;rw [if_neg (by decide +kernel)];exact ⟨rfl,rfl⟩)
  (fun os started H enc _=>returnsInHanded_of_change_sized (C:=Try.checked) (s:=Rows.producerChecksSpec) own started (by kernel_rfl) Try.func7
   (ChangeSpec.witness6 (enc:=enc) (C:=Try.checked) false ⟨#[],#[.agg #[.int .i64 0,.string ⟨#[]⟩,.int .i64 0,.slice none 0 0,.slice none 0 0,.int .i64 0,.slice none 0 0,.int .i64 0,.int .i64 0,.int .i64 0,.int .i64 0,.int .i64 0,.int .i64 0],.agg #[.int .i64 0,.int .i64 0,.string ⟨#[]⟩,.int .i64 0,.int .i64 0,.slice none 0 0]],[]⟩ 8 (by kernel_rfl) (by kernel_rfl) (by kernel_rfl) (by kernel_rfl))
   (fun W base args ds gs before hval hW _ hz _=>zLJ (n:=12) (tb:=4) zRj rfl (by kernel_rfl) (sss:=[[.int .i64,.str,.int .i64,.sl false [.str],.sl true [.int .i64,.int .i64],.int .i64,.sl false [.int .u8],.int .i64,.int .i64,.int .i64,.int .i64,.int .i64,.int .i64],[.int .i64,.int .i64,.str,.int .i64,.int .i64,.sl false [.str]]]) (by kernel_rfl) (by kernel_rfl) (by kernel_rfl)
    (fun ds h=>match ds,h with | [_,_],_=>⟨rfl,rfl,rfl⟩) (zFs hs) hval hW hz))
end Go.Proofs.Ytdpgdpjoemdkjaa
