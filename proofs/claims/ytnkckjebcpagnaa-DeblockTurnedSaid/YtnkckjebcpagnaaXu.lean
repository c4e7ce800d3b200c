/- DeblockTurned holds: for every input the law function answers true, and each argument reads afterwards as it read before. No condition. -/
import Derived.Test.YtnkckjebcpagnaaDu
import Derived.Test.YtnkckjebcpagnaaXa
set_option linter.unusedVariables false
namespace Go.Proofs.Ytnkckjebcpagnaa
open Go Go.RowKit Go.Proofs.Zed

set_option maxRecDepth 100000 in
theorem DeblockTurned_lifted (os : Os) (started : os.Started) (H : Type) (enc : TypeId × Value → H) :
    ReturnsInHanded {} Try.checked os 4 .any (Rows.deblockTurnedSpec.pre6 enc Try.prog Try.f4 Rows.deblockTurnedRow.domain false) (Rows.deblockTurnedSpec.post enc Try.prog Try.f4 false true false false) := by
  refine returnsInHanded_of_change (C := Try.checked) Try.own started (by kernel_rfl) Try.func4
    (ChangeSpec.witness6 (enc := enc) (C := Try.checked) false ⟨#[], #[.agg #[.int .i64 0, .int .i64 0], .slice none 0 0, .agg #[.bool false, .bool false, .int .i64 0, .int .i64 0]], []⟩ 8 (by kernel_rfl) (by kernel_rfl) (by kernel_rfl) (by kernel_rfl)) ?_
  intro W base args ds gs before hval hW _ _
  refine law_calls (P := Try.prog) (tb := 4) shFar Try.laidOut (by kernel_rfl) rfl rfl (by kernel_rfl) (by kernel_rfl) (fun ds hds => ?_) ?_ W base args ds gs before hval hW
  · match ds, hds with
    | [d1, d2, d3], _ => rfl
  · rintro W ⟨⟨a, b, ⟨⟩⟩, ⟨A, m, c, xs⟩, ⟨up, co, lv, sh, ⟨⟩⟩, ⟨⟩⟩ ⟨_, ⟨hr, _, hx⟩, _⟩
    have hr2 : Rd W A m 1 (u8s xs) := flat_u8 xs ▸ hr
    exact DeblockTurned_fun hr2 (fun x hxx => wf_u8 (hx x hxx))
theorem DeblockTurned_holds : Rows.DeblockTurnedSaid :=
  OpenClaim.holds_of_wide 4 Try.f4 rfl rfl rfl rfl rfl rfl rfl ⟨rfl, rfl, rfl, rfl, rfl⟩ rfl rfl rfl rfl rfl (by kernel_rfl) Try.func4 (by kernel_rfl)
    (of_decide_eq_true (by kernel_rfl)) (by unfold Func.isWrapper; first | (rw [if_pos (by decide +kernel)]; kernel_rfl) | (rw [if_neg (by decide +kernel)]; exact ⟨rfl, rfl⟩))
    (fun os started H enc _ => DeblockTurned_lifted os started H enc)
end Go.Proofs.Ytnkckjebcpagnaa
#print axioms Go.Proofs.Ytnkckjebcpagnaa.DeblockTurned_holds
