/- What the walks ask of the types of the program. -/
import Derived.Test.YtobfcnfkcmhmaaaZj
import Derived.Test.YtobfcnfkcmhmaaaProg
namespace Go.Proofs.Zed.Tf
open Go Go.RowKit
theorem mixed : Try.prog.follows .mixedOrders = true := by kernel_rfl
theorem A22 : Agg Try.prog 22 false := by unfold Agg; kernel_rfl
theorem A24 : Agg Try.prog 24 true := by unfold Agg; kernel_rfl
theorem A25 : Agg Try.prog 25 true := by unfold Agg; kernel_rfl
theorem A27 : Agg Try.prog 27 true := by unfold Agg; kernel_rfl
theorem A29 : Agg Try.prog 29 true := by unfold Agg; kernel_rfl
theorem A3 : Agg Try.prog 3 false := by unfold Agg; kernel_rfl
theorem A31 : Agg Try.prog 31 true := by unfold Agg; kernel_rfl
theorem A33 : Agg Try.prog 33 true := by unfold Agg; kernel_rfl
theorem A45 : Agg Try.prog 45 false := by unfold Agg; kernel_rfl
theorem A5 : Agg Try.prog 5 false := by unfold Agg; kernel_rfl
theorem A81 : Agg Try.prog 81 true := by unfold Agg; kernel_rfl
theorem A86 : Agg Try.prog 86 false := by unfold Agg; kernel_rfl
theorem A90 : Agg Try.prog 90 true := by unfold Agg; kernel_rfl
theorem F24_0 : fieldInfo Try.prog 24 0 = some 0 := by kernel_rfl
theorem F24_1 : fieldInfo Try.prog 24 1 = some 1 := by kernel_rfl
theorem F24_2 : fieldInfo Try.prog 24 2 = some 2 := by kernel_rfl
theorem F27_0 : fieldInfo Try.prog 27 0 = some 0 := by kernel_rfl
theorem F29_0 : fieldInfo Try.prog 29 0 = some 0 := by kernel_rfl
theorem F29_1 : fieldInfo Try.prog 29 1 = some 1 := by kernel_rfl
theorem F29_2 : fieldInfo Try.prog 29 2 = some 2 := by kernel_rfl
theorem F29_3 : fieldInfo Try.prog 29 3 = some 3 := by kernel_rfl
theorem F31_0 : fieldInfo Try.prog 31 0 = some 0 := by kernel_rfl
theorem F31_1 : fieldInfo Try.prog 31 1 = some 1 := by kernel_rfl
theorem F33_0 : fieldInfo Try.prog 33 0 = some 0 := by kernel_rfl
theorem F33_1 : fieldInfo Try.prog 33 1 = some 1 := by kernel_rfl
theorem F33_2 : fieldInfo Try.prog 33 2 = some 5 := by kernel_rfl
theorem F33_3 : fieldInfo Try.prog 33 3 = some 7 := by kernel_rfl
theorem F51_0 : fieldInfo Try.prog 51 0 = some 0 := by kernel_rfl
theorem F51_1 : fieldInfo Try.prog 51 1 = some 1 := by kernel_rfl
theorem F51_2 : fieldInfo Try.prog 51 2 = some 2 := by kernel_rfl
theorem F51_3 : fieldInfo Try.prog 51 3 = some 6 := by kernel_rfl
theorem L22 : slcInfo Try.prog 22 = some (5, 1, 1) := by kernel_rfl
theorem L45 : slcInfo Try.prog 45 = some (3, 1, 8) := by kernel_rfl
theorem L64 : slcInfo Try.prog 64 = some (33, 8, 64) := by kernel_rfl
theorem L65 : slcInfo Try.prog 65 = some (29, 4, 32) := by kernel_rfl
theorem L86 : slcInfo Try.prog 86 = some (45, 1, 24) := by kernel_rfl
theorem R25 : arrInfo Try.prog 25 = some (3, 24, 3) := by kernel_rfl
theorem R54 : arrInfo Try.prog 54 = some (2, 3, 1) := by kernel_rfl
theorem R81 : arrInfo Try.prog 81 = some (8, 3, 1) := by kernel_rfl
theorem R90 : arrInfo Try.prog 90 = some (9, 81, 8) := by kernel_rfl
theorem S22 : Sz Try.prog 22 1 := by unfold Sz; kernel_rfl
theorem S24 : Sz Try.prog 24 3 := by unfold Sz; kernel_rfl
theorem S25 : Sz Try.prog 25 9 := by unfold Sz; kernel_rfl
theorem S27 : Sz Try.prog 27 9 := by unfold Sz; kernel_rfl
theorem S29 : Sz Try.prog 29 4 := by unfold Sz; kernel_rfl
theorem S3 : Sz Try.prog 3 1 := by unfold Sz; kernel_rfl
theorem S31 : Sz Try.prog 31 2 := by unfold Sz; kernel_rfl
theorem S33 : Sz Try.prog 33 8 := by unfold Sz; kernel_rfl
theorem S45 : Sz Try.prog 45 1 := by unfold Sz; kernel_rfl
theorem S5 : Sz Try.prog 5 1 := by unfold Sz; kernel_rfl
theorem S81 : Sz Try.prog 81 8 := by unfold Sz; kernel_rfl
theorem S86 : Sz Try.prog 86 1 := by unfold Sz; kernel_rfl
theorem S90 : Sz Try.prog 90 72 := by unfold Sz; kernel_rfl
theorem T24 : StrT Try.prog 24 [(0, 1), (1, 1), (2, 1)] [.int .i64 0, .int .i64 0, .slice none 0 0] := by exact StrT.of (by unfold Zv; kernel_rfl) (by kernel_rfl)
theorem T27 : StrT Try.prog 27 [(0, 9)] [.int .i64 0, .int .i64 0, .slice none 0 0, .int .i64 0, .int .i64 0, .slice none 0 0, .int .i64 0, .int .i64 0, .slice none 0 0] := by exact StrT.of (by unfold Zv; kernel_rfl) (by kernel_rfl)
theorem T29 : StrT Try.prog 29 [(0, 1), (1, 1), (2, 1), (3, 1)] [.int .i64 0, .int .i64 0, .int .i64 0, .int .i64 0] := by exact StrT.of (by unfold Zv; kernel_rfl) (by kernel_rfl)
theorem T31 : StrT Try.prog 31 [(0, 1), (1, 1)] [.int .i64 0, .int .i64 0] := by exact StrT.of (by unfold Zv; kernel_rfl) (by kernel_rfl)
theorem T33 : StrT Try.prog 33 [(0, 1), (1, 4), (5, 2), (7, 1)] [.int .i64 0, .int .i64 0, .int .i64 0, .int .i64 0, .int .i64 0, .int .i64 0, .int .i64 0, .int .i64 0] := by exact StrT.of (by unfold Zv; kernel_rfl) (by kernel_rfl)
theorem T81 : ArrT Try.prog 81 1 [.int .i64 0, .int .i64 0, .int .i64 0, .int .i64 0, .int .i64 0, .int .i64 0, .int .i64 0, .int .i64 0] := by exact ArrT.of (by unfold Zv; kernel_rfl) (by kernel_rfl)
theorem T90 : ArrT Try.prog 90 8 [.int .i64 0, .int .i64 0, .int .i64 0, .int .i64 0, .int .i64 0, .int .i64 0, .int .i64 0, .int .i64 0, .int .i64 0, .int .i64 0, .int .i64 0, .int .i64 0, .int .i64 0, .int .i64 0, .int .i64 0, .int .i64 0, .int .i64 0, .int .i64 0, .int .i64 0, .int .i64 0, .int .i64 0, .int .i64 0, .int .i64 0, .int .i64 0, .int .i64 0, .int .i64 0, .int .i64 0, .int .i64 0, .int .i64 0, .int .i64 0, .int .i64 0, .int .i64 0, .int .i64 0, .int .i64 0, .int .i64 0, .int .i64 0, .int .i64 0, .int .i64 0, .int .i64 0, .int .i64 0, .int .i64 0, .int .i64 0, .int .i64 0, .int .i64 0, .int .i64 0, .int .i64 0, .int .i64 0, .int .i64 0, .int .i64 0, .int .i64 0, .int .i64 0, .int .i64 0, .int .i64 0, .int .i64 0, .int .i64 0, .int .i64 0, .int .i64 0, .int .i64 0, .int .i64 0, .int .i64 0, .int .i64 0, .int .i64 0, .int .i64 0, .int .i64 0, .int .i64 0, .int .i64 0, .int .i64 0, .int .i64 0, .int .i64 0, .int .i64 0, .int .i64 0, .int .i64 0] := by exact ArrT.of (by unfold Zv; kernel_rfl) (by kernel_rfl)
theorem U3 : Try.prog.underlying 3 = some (.int .i64) := by kernel_rfl
theorem U5 : Try.prog.underlying 5 = some (.int .u8) := by kernel_rfl
theorem U73 : Try.prog.underlying 73 = some (.int .u64) := by kernel_rfl
theorem V3 : (Try.prog.underlying 3).isSome = true := by kernel_rfl
theorem V5 : (Try.prog.underlying 5).isSome = true := by kernel_rfl
theorem V73 : (Try.prog.underlying 73).isSome = true := by kernel_rfl
theorem Z22 : Zv Try.prog 22 (.slice none 0 0) := by unfold Zv; kernel_rfl
theorem Z24 : Zv Try.prog 24 (.agg #[.int .i64 0, .int .i64 0, .slice none 0 0]) := by unfold Zv; kernel_rfl
theorem Z27 : Zv Try.prog 27 (.agg #[.int .i64 0, .int .i64 0, .slice none 0 0, .int .i64 0, .int .i64 0, .slice none 0 0, .int .i64 0, .int .i64 0, .slice none 0 0]) := by unfold Zv; kernel_rfl
theorem Z29 : Zv Try.prog 29 (.agg #[.int .i64 0, .int .i64 0, .int .i64 0, .int .i64 0]) := by unfold Zv; kernel_rfl
theorem Z3 : Zv Try.prog 3 (.int .i64 0) := by unfold Zv; kernel_rfl
theorem Z31 : Zv Try.prog 31 (.agg #[.int .i64 0, .int .i64 0]) := by unfold Zv; kernel_rfl
theorem Z33 : Zv Try.prog 33 (.agg #[.int .i64 0, .int .i64 0, .int .i64 0, .int .i64 0, .int .i64 0, .int .i64 0, .int .i64 0, .int .i64 0]) := by unfold Zv; kernel_rfl
theorem Z45 : Zv Try.prog 45 (.slice none 0 0) := by unfold Zv; kernel_rfl
theorem Z5 : Zv Try.prog 5 (.int .u8 0) := by unfold Zv; kernel_rfl
theorem Z81 : Zv Try.prog 81 (.agg #[.int .i64 0, .int .i64 0, .int .i64 0, .int .i64 0, .int .i64 0, .int .i64 0, .int .i64 0, .int .i64 0]) := by unfold Zv; kernel_rfl
theorem Z86 : Zv Try.prog 86 (.slice none 0 0) := by unfold Zv; kernel_rfl
theorem Z90 : Zv Try.prog 90 (.agg #[.int .i64 0, .int .i64 0, .int .i64 0, .int .i64 0, .int .i64 0, .int .i64 0, .int .i64 0, .int .i64 0, .int .i64 0, .int .i64 0, .int .i64 0, .int .i64 0, .int .i64 0, .int .i64 0, .int .i64 0, .int .i64 0, .int .i64 0, .int .i64 0, .int .i64 0, .int .i64 0, .int .i64 0, .int .i64 0, .int .i64 0, .int .i64 0, .int .i64 0, .int .i64 0, .int .i64 0, .int .i64 0, .int .i64 0, .int .i64 0, .int .i64 0, .int .i64 0, .int .i64 0, .int .i64 0, .int .i64 0, .int .i64 0, .int .i64 0, .int .i64 0, .int .i64 0, .int .i64 0, .int .i64 0, .int .i64 0, .int .i64 0, .int .i64 0, .int .i64 0, .int .i64 0, .int .i64 0, .int .i64 0, .int .i64 0, .int .i64 0, .int .i64 0, .int .i64 0, .int .i64 0, .int .i64 0, .int .i64 0, .int .i64 0, .int .i64 0, .int .i64 0, .int .i64 0, .int .i64 0, .int .i64 0, .int .i64 0, .int .i64 0, .int .i64 0, .int .i64 0, .int .i64 0, .int .i64 0, .int .i64 0, .int .i64 0, .int .i64 0, .int .i64 0, .int .i64 0]) := by unfold Zv; kernel_rfl
end Go.Proofs.Zed.Tf
