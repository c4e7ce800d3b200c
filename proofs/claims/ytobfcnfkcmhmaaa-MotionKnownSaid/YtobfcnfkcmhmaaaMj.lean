/- Plain laws for the chapter's examples (no program in sight): a block of a frame of one sample. -/
import Derived.Test.YtobfcnfkcmhmaaaMk
set_option linter.unusedVariables false
namespace Go.Proofs.Zed
open Go Go.RowKit
theorem far_law : singleOut 16 16 256 8 8 64 8 8 64 (List.replicate 256 5) (List.replicate 64 5) (List.replicate 64 5) 2 1024 1024 64 64 4095 (-4095) 1 = List.replicate 4096 5 := by
  rw [(single_ok (by decide)).2]
  show fetchOut (List.replicate 64 5) 8 8 64 (16 * 1024 + 4095) (16 * 1024 + -4095) 64 64 1 = _
  rw [(fetch_ok (by decide)).2]
  exact fetch_alike (n := 64) (v := 5) (W := 8) (H := 8) (w := 64) (h := 64) (by decide) (by decide) (by decide) (by decide) (by decide) (by decide)
end Go.Proofs.Zed
