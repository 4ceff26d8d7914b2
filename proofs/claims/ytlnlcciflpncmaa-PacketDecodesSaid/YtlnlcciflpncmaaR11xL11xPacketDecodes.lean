/- The row of uK, from its plain law. Printed by row.py. -/
import Derived.Test.YtlnlcciflpncmaaR11
import Derived.Test.YtlnlcciflpncmaaP11xL11xPacketDecodes
import Derived.Test.YtlnlcciflpncmaaRows
namespace Go.Proofs.Ytlnlcciflpncmaa
open Go.Ab
set_option linter.unusedVariables false
theorem own:ownKnob Try.prog.godebug=none:=by kernel_rfl
theorem zNq:laidOutB Try.prog=true:=by kernel_rfl
set_option maxRecDepth 100000 in
theorem zC3 (hs:∀ (a0:List (Int)),(zFS y8) a0→∃ F,uK F a0=some true):∀ avs,zCC Try.prog Try.f6.params.toList [[.sl false [.int .u8]]] avs→zEk Try.prog 6 [] avs [] (.bool true):=by
 intro avs h
 obtain ⟨x,rfl,hx⟩:=(zKb (zLM zNV) zK8) avs h
 obtain ⟨F,hF⟩:=hs x.1 hx.1
 exact zDN F x.1 true hF
set_option maxRecDepth 100000 in
theorem L11_PacketDecodes_row (hs:∀ (a0:List (Int)),(zFS y8) a0→∃ F,uK F a0=some true):Rows.PacketDecodesSaid :=
 OpenClaim.holds_of_wide 6 Try.f6 rfl rfl rfl rfl rfl rfl rfl ⟨rfl,rfl,rfl,rfl,rfl⟩ rfl rfl rfl rfl rfl (by kernel_rfl) Try.func6 (by kernel_rfl)
  (of_decide_eq_true (by kernel_rfl)) (by unfold Func.isWrapper;rw [if_neg (by decide +kernel)];exact ⟨rfl,rfl⟩)
  (fun os started H enc _=>returnsInHanded_of_change_sized (C:=Try.checked) (s:=Rows.packetDecodesSpec) own started (by kernel_rfl) Try.func6
   (ChangeSpec.witness6 (enc:=enc) (C:=Try.checked) false ⟨#[],#[.slice none 0 0],[]⟩ 8 (by kernel_rfl) (by kernel_rfl) (by kernel_rfl) (by kernel_rfl))
   (fun W base args ds gs before hval hW _ hz _=>zJD (n:=12) (tb:=4) zNq rfl (by kernel_rfl) (sss:=[[.sl false [.int .u8]]]) (by kernel_rfl) (by kernel_rfl) (by kernel_rfl)
    (fun ds h=>match ds,h with | [_],_=>⟨rfl,rfl,rfl⟩) (zC3 hs) hval hW hz))
end Go.Proofs.Ytlnlcciflpncmaa
