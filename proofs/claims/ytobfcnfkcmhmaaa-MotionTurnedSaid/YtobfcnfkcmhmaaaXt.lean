/- MotionTurned holds: for every input the law function answers true, and each argument reads afterwards as it read before. No condition. -/
import Derived.Test.YtobfcnfkcmhmaaaLf
import Derived.Test.YtobfcnfkcmhmaaaXa
set_option linter.unusedVariables false
namespace Go.Proofs.Ytobfcnfkcmhmaaa
open Go Go.RowKit Go.Proofs.Zed

def shMotionTurned : Sh := .cons (.agg (.cons (.slc 1 (.int .u8)) (.cons (.int .i64) (.cons (.agg (.cons (.int .i64) (.cons (.int .i64) (.cons (.int .i64) (.cons (.int .i64) .nil))))) (.cons (.slc 1 (.int .u8)) .nil))))) .nil
set_option maxRecDepth 100000 in
theorem MotionTurned_lifted (os : Os) (started : os.Started) (H : Type) (enc : TypeId × Value → H) :
    ReturnsInHanded {} Try.checked os 8 .any (Rows.motionTurnedSpec.pre6 enc Try.prog Try.f8 Rows.motionTurnedRow.domain false) (Rows.motionTurnedSpec.post enc Try.prog Try.f8 false true false false) := by
  refine returnsInHanded_of_change_sized (C := Try.checked) Try.own started (by kernel_rfl) Try.func8
    (ChangeSpec.witness6 (enc := enc) (C := Try.checked) false ⟨#[], #[.agg #[.slice none 0 0, .int .i64 0, .int .i64 0, .int .i64 0, .int .i64 0, .int .i64 0, .slice none 0 0]], []⟩ 8 (by kernel_rfl) (by kernel_rfl) (by kernel_rfl) (by kernel_rfl)) ?_
  intro W base args ds gs before hval hW _ hsz _
  refine law_calls (P := Try.prog) (tb := 4) shMotionTurned Try.laidOut (by kernel_rfl) rfl rfl (by kernel_rfl) (by kernel_rfl) (fun ds hds => ?_) ?_ W base args ds gs before hval hW hsz
  · match ds, hds with
    | [d1], _ => rfl
  · rintro W ⟨⟨⟨A, m, c, xs⟩, sw, ⟨X, Y, W, H, ⟨⟩⟩, ⟨B, m2, c2, ys⟩, ⟨⟩⟩, ⟨⟩⟩ ⟨⟨⟨hr, _, hx, hc, hs1⟩, _, _, ⟨hr2, _, hy, hc2, hs2⟩, _⟩, _⟩
    exact MotionTurned_fun (flat_u8 _ ▸ hr) (fun x hxx => wf_u8 (hx x hxx)) (flat_u8 _ ▸ hr2) (fun x hxx => wf_u8 (hy x hxx)) hs1 hs2
theorem MotionTurned_holds : Rows.MotionTurnedSaid :=
  OpenClaim.holds_of_wide 8 Try.f8 rfl rfl rfl rfl rfl rfl rfl ⟨rfl, rfl, rfl, rfl, rfl⟩ rfl rfl rfl rfl rfl (by kernel_rfl) Try.func8 (by kernel_rfl)
    (of_decide_eq_true (by kernel_rfl)) (by unfold Func.isWrapper; first | (rw [if_pos (by decide +kernel)]; kernel_rfl) | (rw [if_neg (by decide +kernel)]; exact ⟨rfl, rfl⟩))
    (fun os started H enc _ => MotionTurned_lifted os started H enc)
end Go.Proofs.Ytobfcnfkcmhmaaa
#print axioms Go.Proofs.Ytobfcnfkcmhmaaa.MotionTurned_holds
