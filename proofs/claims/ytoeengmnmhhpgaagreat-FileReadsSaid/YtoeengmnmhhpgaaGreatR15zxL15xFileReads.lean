/- The row of g9, from its plain law. Printed by row.py. -/
import Derived.Test.YtoeengmnmhhpgaaGreatR15z
import Derived.Test.YtoeengmnmhhpgaaGreatP15zxL15xFileReads
import Derived.Test.YtoeengmnmhhpgaaGreatRows
namespace Go.Proofs.YtoeengmnmhhpgaaGreat
open Go.Ab
set_option linter.unusedVariables false
theorem own:ownKnob Tryz.prog.godebug=none:=by kernel_rfl
theorem zCF:laidOutB Tryz.prog=true:=by kernel_rfl
set_option maxRecDepth 100000 in
theorem YU (hs:∀ (a0:List (Int)),(nW x6) a0→∃ F,g9 F a0=some true):∀ avs,iD Tryz.prog Tryz.f3.params.toList [[.sl false [.int .u8]]] avs→o3 Tryz.prog 3 [] avs [] (.bool true):=by
 intro avs h
 obtain ⟨x,rfl,hx⟩:=(zFi (QK WT) zGG) avs h
 obtain ⟨F,hF⟩:=hs x.1 hx.1
 exact ZH F x.1 true hF
set_option maxRecDepth 100000 in
theorem L15_FileReads_row (hs:∀ (a0:List (Int)),(nW x6) a0→∃ F,g9 F a0=some true):Rows.FileReadsSaid :=
 OpenClaim.holds_of_wide 3 Tryz.f3 rfl rfl rfl rfl rfl rfl rfl ⟨rfl,rfl,rfl,rfl,rfl⟩ rfl rfl rfl rfl rfl (by kernel_rfl) Tryz.func3 (by kernel_rfl)
  (of_decide_eq_true (by kernel_rfl)) (by unfold Func.isWrapper;rw [if_neg (by decide +kernel)];exact ⟨rfl,rfl⟩)
  (fun os started H enc _=>returnsInHanded_of_change_sized (C:=Tryz.checked) (s:=Rows.fileReadsSpec) own started (by kernel_rfl) Tryz.func3
   (ChangeSpec.witness6 (enc:=enc) (C:=Tryz.checked) false ⟨#[],#[.slice none 0 0],[]⟩ 8 (by kernel_rfl) (by kernel_rfl) (by kernel_rfl) (by kernel_rfl))
   (fun W base args ds gs before hval hW _ hz _=>zF5 (n:=12) (tb:=4) zCF rfl (by kernel_rfl) (sss:=[[.sl false [.int .u8]]]) (by kernel_rfl) (by kernel_rfl) (by kernel_rfl)
    (fun ds h=>match ds,h with | [_],_=>⟨rfl,rfl,rfl⟩) (YU hs) hval hW hz))
end Go.Proofs.YtoeengmnmhhpgaaGreat
