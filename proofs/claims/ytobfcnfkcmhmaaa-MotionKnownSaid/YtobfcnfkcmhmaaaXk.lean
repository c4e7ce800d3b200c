/- MotionKnown holds: for every input the law function answers true, and each argument reads afterwards as it read before. No condition. -/
import Derived.Test.YtobfcnfkcmhmaaaLh
import Derived.Test.YtobfcnfkcmhmaaaXa
set_option linter.unusedVariables false
namespace Go.Proofs.Ytobfcnfkcmhmaaa
open Go Go.RowKit Go.Proofs.Zed

def shMotionKnown : Sh := .nil
set_option maxRecDepth 100000 in
theorem MotionKnown_lifted (os : Os) (started : os.Started) (H : Type) (enc : TypeId × Value → H) :
    ReturnsInHanded {} Try.checked os 9 .any (Rows.motionKnownSpec.pre6 enc Try.prog Try.f9 Rows.motionKnownRow.domain false) (Rows.motionKnownSpec.post enc Try.prog Try.f9 false true false false) := by
  refine returnsInHanded_of_change_sized (C := Try.checked) Try.own started (by kernel_rfl) Try.func9
    (ChangeSpec.witness6 (enc := enc) (C := Try.checked) false ⟨#[], #[], []⟩ 8 (by kernel_rfl) (by kernel_rfl) (by kernel_rfl) (by kernel_rfl)) ?_
  intro W base args ds gs before hval hW _ hsz _
  refine law_calls (P := Try.prog) (tb := 4) shMotionKnown Try.laidOut (by kernel_rfl) rfl rfl (by kernel_rfl) (by kernel_rfl) (fun ds hds => ?_) ?_ W base args ds gs before hval hW hsz
  · match ds, hds with
    | [], _ => rfl
  · rintro W _ _
    exact MotionKnown_fun
theorem MotionKnown_holds : Rows.MotionKnownSaid :=
  OpenClaim.holds_of_wide 9 Try.f9 rfl rfl rfl rfl rfl rfl rfl ⟨rfl, rfl, rfl, rfl, rfl⟩ rfl rfl rfl rfl rfl (by kernel_rfl) Try.func9 (by kernel_rfl)
    (of_decide_eq_true (by kernel_rfl)) (by unfold Func.isWrapper; first | (rw [if_pos (by decide +kernel)]; kernel_rfl) | (rw [if_neg (by decide +kernel)]; exact ⟨rfl, rfl⟩))
    (fun os started H enc _ => MotionKnown_lifted os started H enc)
end Go.Proofs.Ytobfcnfkcmhmaaa
#print axioms Go.Proofs.Ytobfcnfkcmhmaaa.MotionKnown_holds
