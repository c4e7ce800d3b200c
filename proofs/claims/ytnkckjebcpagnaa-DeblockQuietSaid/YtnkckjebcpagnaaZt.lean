/- What the walks ask of the types of the program. -/
import Derived.Test.YtnkckjebcpagnaaZi
import Derived.Test.YtnkckjebcpagnaaProg
namespace Go.Proofs.Zed.Tf
open Go Go.RowKit
theorem mixed : Try.prog.follows .mixedOrders = true := by kernel_rfl
theorem A111 : Agg Try.prog 111 true := by unfold Agg; kernel_rfl
theorem A115 : Agg Try.prog 115 true := by unfold Agg; kernel_rfl
theorem A23 : Agg Try.prog 23 false := by unfold Agg; kernel_rfl
theorem A28 : Agg Try.prog 28 true := by unfold Agg; kernel_rfl
theorem A3 : Agg Try.prog 3 false := by unfold Agg; kernel_rfl
theorem A34 : Agg Try.prog 34 false := by unfold Agg; kernel_rfl
theorem A35 : Agg Try.prog 35 false := by unfold Agg; kernel_rfl
theorem A37 : Agg Try.prog 37 true := by unfold Agg; kernel_rfl
theorem A4 : Agg Try.prog 4 false := by unfold Agg; kernel_rfl
theorem A5 : Agg Try.prog 5 false := by unfold Agg; kernel_rfl
theorem F111_0 : fieldInfo Try.prog 111 0 = some 0 := by kernel_rfl
theorem F111_1 : fieldInfo Try.prog 111 1 = some 1 := by kernel_rfl
theorem F111_2 : fieldInfo Try.prog 111 2 = some 2 := by kernel_rfl
theorem F115_0 : fieldInfo Try.prog 115 0 = some 0 := by kernel_rfl
theorem F115_1 : fieldInfo Try.prog 115 1 = some 1 := by kernel_rfl
theorem F25_0 : fieldInfo Try.prog 25 0 = some 0 := by kernel_rfl
theorem F25_1 : fieldInfo Try.prog 25 1 = some 1 := by kernel_rfl
theorem F25_2 : fieldInfo Try.prog 25 2 = some 2 := by kernel_rfl
theorem F25_3 : fieldInfo Try.prog 25 3 = some 3 := by kernel_rfl
theorem F28_0 : fieldInfo Try.prog 28 0 = some 0 := by kernel_rfl
theorem F28_1 : fieldInfo Try.prog 28 1 = some 1 := by kernel_rfl
theorem F28_2 : fieldInfo Try.prog 28 2 = some 2 := by kernel_rfl
theorem F37_0 : fieldInfo Try.prog 37 0 = some 0 := by kernel_rfl
theorem F37_1 : fieldInfo Try.prog 37 1 = some 1 := by kernel_rfl
theorem F37_2 : fieldInfo Try.prog 37 2 = some 2 := by kernel_rfl
theorem F37_3 : fieldInfo Try.prog 37 3 = some 3 := by kernel_rfl
theorem F37_4 : fieldInfo Try.prog 37 4 = some 4 := by kernel_rfl
theorem L23 : slcInfo Try.prog 23 = some (5, 1, 1) := by kernel_rfl
theorem L34 : slcInfo Try.prog 34 = some (3, 1, 8) := by kernel_rfl
theorem L35 : slcInfo Try.prog 35 = some (4, 1, 1) := by kernel_rfl
theorem R22 : arrInfo Try.prog 22 = some (2, 3, 1) := by kernel_rfl
theorem S111 : Sz Try.prog 111 3 := by unfold Sz; kernel_rfl
theorem S115 : Sz Try.prog 115 2 := by unfold Sz; kernel_rfl
theorem S23 : Sz Try.prog 23 1 := by unfold Sz; kernel_rfl
theorem S28 : Sz Try.prog 28 3 := by unfold Sz; kernel_rfl
theorem S3 : Sz Try.prog 3 1 := by unfold Sz; kernel_rfl
theorem S34 : Sz Try.prog 34 1 := by unfold Sz; kernel_rfl
theorem S35 : Sz Try.prog 35 1 := by unfold Sz; kernel_rfl
theorem S37 : Sz Try.prog 37 5 := by unfold Sz; kernel_rfl
theorem S5 : Sz Try.prog 5 1 := by unfold Sz; kernel_rfl
theorem T111 : StrT Try.prog 111 [(0, 1), (1, 1), (2, 1)] [.int .i64 0, .int .i64 0, .int .i64 0] := by exact StrT.of (by unfold Zv; kernel_rfl) (by kernel_rfl)
theorem T115 : StrT Try.prog 115 [(0, 1), (1, 1)] [.slice none 0 0, .int .i64 0] := by exact StrT.of (by unfold Zv; kernel_rfl) (by kernel_rfl)
theorem T28 : StrT Try.prog 28 [(0, 1), (1, 1), (2, 1)] [.int .i64 0, .int .i64 0, .slice none 0 0] := by exact StrT.of (by unfold Zv; kernel_rfl) (by kernel_rfl)
theorem T37 : StrT Try.prog 37 [(0, 1), (1, 1), (2, 1), (3, 1), (4, 1)] [.int .i64 0, .int .i64 0, .slice none 0 0, .slice none 0 0, .slice none 0 0] := by exact StrT.of (by unfold Zv; kernel_rfl) (by kernel_rfl)
theorem U3 : Try.prog.underlying 3 = some (.int .i64) := by kernel_rfl
theorem U5 : Try.prog.underlying 5 = some (.int .u8) := by kernel_rfl
theorem V3 : (Try.prog.underlying 3).isSome = true := by kernel_rfl
theorem V5 : (Try.prog.underlying 5).isSome = true := by kernel_rfl
theorem Z111 : Zv Try.prog 111 (.agg #[.int .i64 0, .int .i64 0, .int .i64 0]) := by unfold Zv; kernel_rfl
theorem Z115 : Zv Try.prog 115 (.agg #[.slice none 0 0, .int .i64 0]) := by unfold Zv; kernel_rfl
theorem Z23 : Zv Try.prog 23 (.slice none 0 0) := by unfold Zv; kernel_rfl
theorem Z28 : Zv Try.prog 28 (.agg #[.int .i64 0, .int .i64 0, .slice none 0 0]) := by unfold Zv; kernel_rfl
theorem Z3 : Zv Try.prog 3 (.int .i64 0) := by unfold Zv; kernel_rfl
theorem Z37 : Zv Try.prog 37 (.agg #[.int .i64 0, .int .i64 0, .slice none 0 0, .slice none 0 0, .slice none 0 0]) := by unfold Zv; kernel_rfl
theorem Z4 : Zv Try.prog 4 (.bool false) := by unfold Zv; kernel_rfl
theorem Z5 : Zv Try.prog 5 (.int .u8 0) := by unfold Zv; kernel_rfl
end Go.Proofs.Zed.Tf
