/- The row of aT, from its plain law. Printed by row.py. -/
import Derived.Test.YtoeengmnmhhpgaaGreatR15z
import Derived.Test.YtoeengmnmhhpgaaGreatP15zxL15xFileHeads
import Derived.Test.YtoeengmnmhhpgaaGreatRows
namespace Go.Proofs.YtoeengmnmhhpgaaGreat
open Go.Ab
set_option linter.unusedVariables false
theorem own:ownKnob Tryz.prog.godebug=none:=by kernel_rfl
theorem VB:laidOutB Tryz.prog=true:=by kernel_rfl

set_option maxRecDepth 100000 in
theorem WN (hs:∀ (a0:z6) (a1:Int) (a2:List (Int)),o9 a0→v6 a1→(jJ v6) a2→∃ F,aT F a0 a1 a2=some true):∀ avs,aW Tryz.prog Tryz.f5.params.toList [[.sl true [.int .i64,.str,.int .i64],.sl true [.int .i64,.int .i64],.sl true [.int .i64,.int .i64,.int .i64,.int .i64,.int .i64]],[.int .u8],[.sl false [.int .u8]]] avs→bZ Tryz.prog 5 [] avs [] (.bool true):=by
  intro avs h
  obtain ⟨x,rfl,hx⟩:=(BM U9 (BM CO (BM (GK CO) WL))) avs h
  obtain ⟨F,hF⟩:=hs x.1 x.2.1 x.2.2.1 hx.1 hx.2.1 hx.2.2.1
  exact ST F x.1 x.2.1 x.2.2.1 true hF

set_option maxRecDepth 100000 in
theorem L15_FileHeads_row (hs:∀ (a0:z6) (a1:Int) (a2:List (Int)),o9 a0→v6 a1→(jJ v6) a2→∃ F,aT F a0 a1 a2=some true):Rows.FileHeadsSaid :=
  OpenClaim.holds_of_wide 5 Tryz.f5 rfl rfl rfl rfl rfl rfl rfl ⟨rfl,rfl,rfl,rfl,rfl⟩ rfl rfl rfl rfl rfl (by kernel_rfl) Tryz.func5 (by kernel_rfl)
    (of_decide_eq_true (by kernel_rfl)) (by unfold Func.isWrapper;rw [if_neg (by decide +kernel)];exact ⟨rfl,rfl⟩)
    (fun os started H enc _=>returnsInHanded_of_change_sized (C:=Tryz.checked) (s:=Rows.fileHeadsSpec) own started (by kernel_rfl) Tryz.func5
      (ChangeSpec.witness6 (enc:=enc) (C:=Tryz.checked) false ⟨#[],#[.agg #[.slice none 0 0,.slice none 0 0,.slice none 0 0],.int .u8 0,.slice none 0 0],[]⟩ 8 (by kernel_rfl) (by kernel_rfl) (by kernel_rfl) (by kernel_rfl))
      (fun W base args ds gs before hval hW _ hz _=>UU (n:=12) (tb:=4) VB rfl (by kernel_rfl) (sss:=[[.sl true [.int .i64,.str,.int .i64],.sl true [.int .i64,.int .i64],.sl true [.int .i64,.int .i64,.int .i64,.int .i64,.int .i64]],[.int .u8],[.sl false [.int .u8]]]) (by kernel_rfl) (by kernel_rfl) (by kernel_rfl)
        (fun ds h=>match ds,h with | [_,_,_],_=>⟨rfl,rfl,rfl⟩) (WN hs) hval hW hz))
end Go.Proofs.YtoeengmnmhhpgaaGreat
