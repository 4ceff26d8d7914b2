/- The row of qO, from its plain law. Printed by row.py. -/
import Derived.Test.YtdpgdpjoemdkjaaR10
import Derived.Test.YtdpgdpjoemdkjaaP10xL10xProducerPlays
import Derived.Test.YtdpgdpjoemdkjaaRows
namespace Go.Proofs.Ytdpgdpjoemdkjaa
open Go.Ab
set_option linter.unusedVariables false
theorem own:ownKnob Try.prog.godebug=none:=by kernel_rfl
theorem zRP:laidOutB Try.prog=true:=by kernel_rfl
set_option maxRecDepth 100000 in
theorem zFQ (hs:∀ (a0:Int) (a1:Int) (a2:List (xP)),y2 a0→y2 a1→(zGl kW) a2→∃ F,qO F a0 a1 a2=some true):∀ avs,zEH Try.prog Try.f4.params.toList [[.int .i64],[.int .i64],[.sl true [.bool,.int .i64,.int .i64,.str,.int .i64,.int .i64,.sl false [.str]]]] avs→zGM Try.prog 4 [] avs [] (.bool true):=by
 intro avs h
 obtain ⟨x,rfl,hx⟩:=(zFr jS (zFr jS (zFr (zPN zE9) zOq))) avs h
 obtain ⟨F,hF⟩:=hs x.1 x.2.1 x.2.2.1 hx.1 hx.2.1 hx.2.2.1
 exact zGi F x.1 x.2.1 x.2.2.1 true hF
set_option maxRecDepth 100000 in
theorem L10_ProducerPlays_row (hs:∀ (a0:Int) (a1:Int) (a2:List (xP)),y2 a0→y2 a1→(zGl kW) a2→∃ F,qO F a0 a1 a2=some true):Rows.ProducerPlaysSaid :=
 OpenClaim.holds_of_wide 4 Try.f4 rfl rfl rfl rfl rfl rfl rfl ⟨rfl,rfl,rfl,rfl,rfl⟩ rfl rfl rfl rfl rfl (by kernel_rfl) Try.func4 (by kernel_rfl)
  (of_decide_eq_true (by kernel_rfl)) (by unfold Func.isWrapper;rw [if_neg (by decide +kernel)];exact ⟨rfl,rfl⟩)
  (fun os started H enc _=>returnsInHanded_of_change_sized (C:=Try.checked) (s:=Rows.producerPlaysSpec) own started (by kernel_rfl) Try.func4
   (ChangeSpec.witness6 (enc:=enc) (C:=Try.checked) false ⟨#[],#[.int .i64 0,.int .i64 0,.slice none 0 0],[]⟩ 8 (by kernel_rfl) (by kernel_rfl) (by kernel_rfl) (by kernel_rfl))
   (fun W base args ds gs before hval hW _ hz _=>zM9 (n:=12) (tb:=4) zRP rfl (by kernel_rfl) (sss:=[[.int .i64],[.int .i64],[.sl true [.bool,.int .i64,.int .i64,.str,.int .i64,.int .i64,.sl false [.str]]]]) (by kernel_rfl) (by kernel_rfl) (by kernel_rfl)
    (fun ds h=>match ds,h with | [_,_,_],_=>⟨rfl,rfl,rfl⟩) (zFQ hs) hval hW hz))
end Go.Proofs.Ytdpgdpjoemdkjaa
