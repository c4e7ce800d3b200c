/- DeblockFar holds: for every input the law function answers true, and each argument reads afterwards as it read before. No condition. -/
import Derived.Test.YtnkckjebcpagnaaDf
import Derived.Test.YtnkckjebcpagnaaZf
import Derived.Test.YtnkckjebcpagnaaRows
set_option linter.unusedVariables false
namespace Go.Proofs.Zed
open Go Go.RowKit
theorem flat_u8 : ∀ xs : List Int, xs.flatMap (Sh.cells (.int .u8)) = u8s xs
  | [] => rfl
  | x :: xs => congrArg (Value.int .u8 x :: ·) (flat_u8 xs)
theorem wf_u8 {n : Int} (h : (Lit.int .u8 n).wf = true) : 0 ≤ n ∧ n ≤ 255 := by
  simp only [Lit.wf, Bool.and_eq_true, decide_eq_true_eq] at h
  exact h
end Go.Proofs.Zed
namespace Go.Proofs.Ytnkckjebcpagnaa
open Go Go.RowKit Go.Proofs.Zed

theorem Try.own : ownKnob Try.prog.godebug = none := by kernel_rfl
theorem Try.laidOut : laidOutB Try.prog = true := by kernel_rfl
def shFar : Sh := .cons (.agg (.cons (.int .i64) (.cons (.int .i64) .nil))) (.cons (.slc (.int .u8)) (.cons (.agg (.cons .bool (.cons .bool (.cons (.int .i64) (.cons (.int .i64) .nil))))) .nil))

set_option maxRecDepth 100000 in
theorem DeblockFar_lifted (os : Os) (started : os.Started) (H : Type) (enc : TypeId × Value → H) :
    ReturnsInHanded {} Try.checked os 3 .any (Rows.deblockFarSpec.pre6 enc Try.prog Try.f3 Rows.deblockFarRow.domain false) (Rows.deblockFarSpec.post enc Try.prog Try.f3 false true false false) := by
  refine returnsInHanded_of_change (C := Try.checked) Try.own started (by kernel_rfl) Try.func3
    (ChangeSpec.witness6 (enc := enc) (C := Try.checked) false ⟨#[], #[.agg #[.int .i64 0, .int .i64 0], .slice none 0 0, .agg #[.bool false, .bool false, .int .i64 0, .int .i64 0]], []⟩ 8 (by kernel_rfl) (by kernel_rfl) (by kernel_rfl) (by kernel_rfl)) ?_
  intro W base args ds gs before hval hW _ _
  refine law_calls (P := Try.prog) (tb := 4) shFar Try.laidOut (by kernel_rfl) rfl rfl (by kernel_rfl) (by kernel_rfl) (fun ds hds => ?_) ?_ W base args ds gs before hval hW
  · match ds, hds with
    | [d1, d2, d3], _ => rfl
  · rintro W ⟨⟨a, b, ⟨⟩⟩, ⟨A, m, c, xs⟩, ⟨up, co, lv, sh, ⟨⟩⟩, ⟨⟩⟩ ⟨_, ⟨hr, _, hx⟩, _⟩
    have hr2 : Rd W A m 1 (u8s xs) := flat_u8 xs ▸ hr
    exact DeblockFar_fun hr2 (fun x hxx => wf_u8 (hx x hxx))
theorem DeblockFar_holds : Rows.DeblockFarSaid :=
  OpenClaim.holds_of_wide 3 Try.f3 rfl rfl rfl rfl rfl rfl rfl ⟨rfl, rfl, rfl, rfl, rfl⟩ rfl rfl rfl rfl rfl (by kernel_rfl) Try.func3 (by kernel_rfl)
    (of_decide_eq_true (by kernel_rfl)) (by unfold Func.isWrapper; first | (rw [if_pos (by decide +kernel)]; kernel_rfl) | (rw [if_neg (by decide +kernel)]; exact ⟨rfl, rfl⟩))
    (fun os started H enc _ => DeblockFar_lifted os started H enc)
end Go.Proofs.Ytnkckjebcpagnaa
#print axioms Go.Proofs.Ytnkckjebcpagnaa.DeblockFar_holds
