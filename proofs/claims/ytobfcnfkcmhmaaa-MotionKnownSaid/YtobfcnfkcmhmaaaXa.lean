/- What the row theorems of chapter 22 share: two closed facts of the program, the shape of the arguments. -/
import Derived.Test.YtobfcnfkcmhmaaaZf
import Derived.Test.YtobfcnfkcmhmaaaRows
set_option linter.unusedVariables false
namespace Go.Proofs.Zed
open Go Go.RowKit
theorem flat_u8 : ∀ xs : List Int, xs.flatMap (Sh.cells (.int .u8)) = u8s xs
  | [] => rfl
  | x :: xs => congrArg (Value.int .u8 x :: ·) (flat_u8 xs)
theorem wf_u8 {n : Int} (h : (Lit.int .u8 n).wf = true) : 0 ≤ n ∧ n ≤ 255 := by
  simp only [Lit.wf, Bool.and_eq_true, decide_eq_true_eq] at h
  exact h
end Go.Proofs.Zed
namespace Go.Proofs.Ytobfcnfkcmhmaaa
open Go Go.RowKit Go.Proofs.Zed

theorem Try.own : ownKnob Try.prog.godebug = none := by kernel_rfl
theorem Try.laidOut : laidOutB Try.prog = true := by kernel_rfl
def shFar : Sh := .cons (.agg (.cons (.int .i64) (.cons (.int .i64) .nil))) (.cons (.slc 1 (.int .u8)) (.cons (.agg (.cons .bool (.cons .bool (.cons (.int .i64) (.cons (.int .i64) .nil))))) .nil))

end Go.Proofs.Ytobfcnfkcmhmaaa
