/- The walks of subpel (chapter 14): taps. -/
import Derived.Test.YtobfcnfkcmhmaaaMp
set_option linter.unusedVariables false
set_option linter.unusedSimpArgs false
namespace Go.Proofs.Zed
open Go Go.RowKit Tf
attribute [local irreducible] Try.prog

theorem soft_fun {w : World}  : Fun Try.prog 64 [] w fun v w' => v = .agg #[.int .i64 0, .int .i64 0, .int .i64 0, .int .i64 128, .int .i64 0, .int .i64 0, .int .i64 0, .int .i64 0, .int .i64 0, .int .i64 2, .int .i64 28, .int .i64 62, .int .i64 34, .int .i64 2, .int .i64 0, .int .i64 0, .int .i64 0, .int .i64 0, .int .i64 26, .int .i64 62, .int .i64 36, .int .i64 4, .int .i64 0, .int .i64 0, .int .i64 0, .int .i64 0, .int .i64 22, .int .i64 62, .int .i64 40, .int .i64 4, .int .i64 0, .int .i64 0, .int .i64 0, .int .i64 0, .int .i64 20, .int .i64 60, .int .i64 42, .int .i64 6, .int .i64 0, .int .i64 0, .int .i64 0, .int .i64 0, .int .i64 18, .int .i64 58, .int .i64 44, .int .i64 8, .int .i64 0, .int .i64 0, .int .i64 0, .int .i64 0, .int .i64 16, .int .i64 56, .int .i64 46, .int .i64 10, .int .i64 0, .int .i64 0, .int .i64 0, .int .i64 (-2), .int .i64 16, .int .i64 54, .int .i64 48, .int .i64 12, .int .i64 0, .int .i64 0, .int .i64 0, .int .i64 (-2), .int .i64 14, .int .i64 52, .int .i64 52, .int .i64 14, .int .i64 (-2), .int .i64 0] ∧ HS w [] w' := by
  refine fun_run (m := 11) (rs := [.cell 0 90]) Try.func64 rfl rfl rfl rfl rfl ?_
  have hs0 := HS.start w
  refine run_seq fun K1 k1 => ?_
  refine run_region ?_
  refine Ops.s (Step.alloc (cs := [.int .i64 0, .int .i64 0, .int .i64 0, .int .i64 0, .int .i64 0, .int .i64 0, .int .i64 0, .int .i64 0, .int .i64 0, .int .i64 0, .int .i64 0, .int .i64 0, .int .i64 0, .int .i64 0, .int .i64 0, .int .i64 0, .int .i64 0, .int .i64 0, .int .i64 0, .int .i64 0, .int .i64 0, .int .i64 0, .int .i64 0, .int .i64 0, .int .i64 0, .int .i64 0, .int .i64 0, .int .i64 0, .int .i64 0, .int .i64 0, .int .i64 0, .int .i64 0, .int .i64 0, .int .i64 0, .int .i64 0, .int .i64 0, .int .i64 0, .int .i64 0, .int .i64 0, .int .i64 0, .int .i64 0, .int .i64 0, .int .i64 0, .int .i64 0, .int .i64 0, .int .i64 0, .int .i64 0, .int .i64 0, .int .i64 0, .int .i64 0, .int .i64 0, .int .i64 0, .int .i64 0, .int .i64 0, .int .i64 0, .int .i64 0, .int .i64 0, .int .i64 0, .int .i64 0, .int .i64 0, .int .i64 0, .int .i64 0, .int .i64 0, .int .i64 0, .int .i64 0, .int .i64 0, .int .i64 0, .int .i64 0, .int .i64 0, .int .i64 0, .int .i64 0, .int .i64 0]) hs0 Z90 rfl (fun b2 w3 hs3 hb3 => ?_) True.intro (by rfl))
  refine Ops.nil ?_
  refine k1 _ _ ?_
  refine run_seq fun K5 k5 => ?_
  refine run_region ?_
  refine Ops.v (Yv.buildA (cs := #[.int .i64 0, .int .i64 0, .int .i64 0, .int .i64 128, .int .i64 0, .int .i64 0, .int .i64 0, .int .i64 0]) T81 rfl rfl) ?_
  refine Ops.v (Yv.buildA (cs := #[.int .i64 0, .int .i64 2, .int .i64 28, .int .i64 62, .int .i64 34, .int .i64 2, .int .i64 0, .int .i64 0]) T81 rfl rfl) ?_
  refine Ops.v (Yv.buildA (cs := #[.int .i64 0, .int .i64 0, .int .i64 26, .int .i64 62, .int .i64 36, .int .i64 4, .int .i64 0, .int .i64 0]) T81 rfl rfl) ?_
  refine Ops.v (Yv.buildA (cs := #[.int .i64 0, .int .i64 0, .int .i64 22, .int .i64 62, .int .i64 40, .int .i64 4, .int .i64 0, .int .i64 0]) T81 rfl rfl) ?_
  refine Ops.v (Yv.buildA (cs := #[.int .i64 0, .int .i64 0, .int .i64 20, .int .i64 60, .int .i64 42, .int .i64 6, .int .i64 0, .int .i64 0]) T81 rfl rfl) ?_
  refine Ops.v (Yv.buildA (cs := #[.int .i64 0, .int .i64 0, .int .i64 18, .int .i64 58, .int .i64 44, .int .i64 8, .int .i64 0, .int .i64 0]) T81 rfl rfl) ?_
  refine Ops.v (Yv.buildA (cs := #[.int .i64 0, .int .i64 0, .int .i64 16, .int .i64 56, .int .i64 46, .int .i64 10, .int .i64 0, .int .i64 0]) T81 rfl rfl) ?_
  refine Ops.v (Yv.buildA (cs := #[.int .i64 0, .int .i64 (-2), .int .i64 16, .int .i64 54, .int .i64 48, .int .i64 12, .int .i64 0, .int .i64 0]) T81 rfl rfl) ?_
  refine Ops.v (Yv.buildA (cs := #[.int .i64 0, .int .i64 (-2), .int .i64 14, .int .i64 52, .int .i64 52, .int .i64 14, .int .i64 (-2), .int .i64 0]) T81 rfl rfl) ?_
  refine Ops.v (Yv.buildA (cs := #[.int .i64 0, .int .i64 0, .int .i64 0, .int .i64 128, .int .i64 0, .int .i64 0, .int .i64 0, .int .i64 0, .int .i64 0, .int .i64 2, .int .i64 28, .int .i64 62, .int .i64 34, .int .i64 2, .int .i64 0, .int .i64 0, .int .i64 0, .int .i64 0, .int .i64 26, .int .i64 62, .int .i64 36, .int .i64 4, .int .i64 0, .int .i64 0, .int .i64 0, .int .i64 0, .int .i64 22, .int .i64 62, .int .i64 40, .int .i64 4, .int .i64 0, .int .i64 0, .int .i64 0, .int .i64 0, .int .i64 20, .int .i64 60, .int .i64 42, .int .i64 6, .int .i64 0, .int .i64 0, .int .i64 0, .int .i64 0, .int .i64 18, .int .i64 58, .int .i64 44, .int .i64 8, .int .i64 0, .int .i64 0, .int .i64 0, .int .i64 0, .int .i64 16, .int .i64 56, .int .i64 46, .int .i64 10, .int .i64 0, .int .i64 0, .int .i64 0, .int .i64 (-2), .int .i64 16, .int .i64 54, .int .i64 48, .int .i64 12, .int .i64 0, .int .i64 0, .int .i64 0, .int .i64 (-2), .int .i64 14, .int .i64 52, .int .i64 52, .int .i64 14, .int .i64 (-2), .int .i64 0]) T90 rfl rfl) ?_
  refine Ops.s (Step.store (vs := [.int .i64 0, .int .i64 0, .int .i64 0, .int .i64 128, .int .i64 0, .int .i64 0, .int .i64 0, .int .i64 0, .int .i64 0, .int .i64 2, .int .i64 28, .int .i64 62, .int .i64 34, .int .i64 2, .int .i64 0, .int .i64 0, .int .i64 0, .int .i64 0, .int .i64 26, .int .i64 62, .int .i64 36, .int .i64 4, .int .i64 0, .int .i64 0, .int .i64 0, .int .i64 0, .int .i64 22, .int .i64 62, .int .i64 40, .int .i64 4, .int .i64 0, .int .i64 0, .int .i64 0, .int .i64 0, .int .i64 20, .int .i64 60, .int .i64 42, .int .i64 6, .int .i64 0, .int .i64 0, .int .i64 0, .int .i64 0, .int .i64 18, .int .i64 58, .int .i64 44, .int .i64 8, .int .i64 0, .int .i64 0, .int .i64 0, .int .i64 0, .int .i64 16, .int .i64 56, .int .i64 46, .int .i64 10, .int .i64 0, .int .i64 0, .int .i64 0, .int .i64 (-2), .int .i64 16, .int .i64 54, .int .i64 48, .int .i64 12, .int .i64 0, .int .i64 0, .int .i64 0, .int .i64 (-2), .int .i64 14, .int .i64 52, .int .i64 52, .int .i64 14, .int .i64 (-2), .int .i64 0]) 0 hs3 rfl rfl rfl rfl S90 (Nat.le_of_ble_eq_true rfl) rfl (fun w6 hs6 => ?_) True.intro)
  replace hs6 : HS _ [.blk b2 [.int .i64 0, .int .i64 0, .int .i64 0, .int .i64 128, .int .i64 0, .int .i64 0, .int .i64 0, .int .i64 0, .int .i64 0, .int .i64 2, .int .i64 28, .int .i64 62, .int .i64 34, .int .i64 2, .int .i64 0, .int .i64 0, .int .i64 0, .int .i64 0, .int .i64 26, .int .i64 62, .int .i64 36, .int .i64 4, .int .i64 0, .int .i64 0, .int .i64 0, .int .i64 0, .int .i64 22, .int .i64 62, .int .i64 40, .int .i64 4, .int .i64 0, .int .i64 0, .int .i64 0, .int .i64 0, .int .i64 20, .int .i64 60, .int .i64 42, .int .i64 6, .int .i64 0, .int .i64 0, .int .i64 0, .int .i64 0, .int .i64 18, .int .i64 58, .int .i64 44, .int .i64 8, .int .i64 0, .int .i64 0, .int .i64 0, .int .i64 0, .int .i64 16, .int .i64 56, .int .i64 46, .int .i64 10, .int .i64 0, .int .i64 0, .int .i64 0, .int .i64 (-2), .int .i64 16, .int .i64 54, .int .i64 48, .int .i64 12, .int .i64 0, .int .i64 0, .int .i64 0, .int .i64 (-2), .int .i64 14, .int .i64 52, .int .i64 52, .int .i64 14, .int .i64 (-2), .int .i64 0] 90] _ := hs6
  refine Ops.nil ?_
  refine k5 _ _ ?_
  refine run_ret ?_
  refine ⟨[.agg #[.int .i64 0, .int .i64 0, .int .i64 0, .int .i64 128, .int .i64 0, .int .i64 0, .int .i64 0, .int .i64 0, .int .i64 0, .int .i64 2, .int .i64 28, .int .i64 62, .int .i64 34, .int .i64 2, .int .i64 0, .int .i64 0, .int .i64 0, .int .i64 0, .int .i64 26, .int .i64 62, .int .i64 36, .int .i64 4, .int .i64 0, .int .i64 0, .int .i64 0, .int .i64 0, .int .i64 22, .int .i64 62, .int .i64 40, .int .i64 4, .int .i64 0, .int .i64 0, .int .i64 0, .int .i64 0, .int .i64 20, .int .i64 60, .int .i64 42, .int .i64 6, .int .i64 0, .int .i64 0, .int .i64 0, .int .i64 0, .int .i64 18, .int .i64 58, .int .i64 44, .int .i64 8, .int .i64 0, .int .i64 0, .int .i64 0, .int .i64 0, .int .i64 16, .int .i64 56, .int .i64 46, .int .i64 10, .int .i64 0, .int .i64 0, .int .i64 0, .int .i64 (-2), .int .i64 16, .int .i64 54, .int .i64 48, .int .i64 12, .int .i64 0, .int .i64 0, .int .i64 0, .int .i64 (-2), .int .i64 14, .int .i64 52, .int .i64 52, .int .i64 14, .int .i64 (-2), .int .i64 0]], ⟨_, _, _, rfl, rfl, run_loadn (cs := [.int .i64 0, .int .i64 0, .int .i64 0, .int .i64 128, .int .i64 0, .int .i64 0, .int .i64 0, .int .i64 0, .int .i64 0, .int .i64 2, .int .i64 28, .int .i64 62, .int .i64 34, .int .i64 2, .int .i64 0, .int .i64 0, .int .i64 0, .int .i64 0, .int .i64 26, .int .i64 62, .int .i64 36, .int .i64 4, .int .i64 0, .int .i64 0, .int .i64 0, .int .i64 0, .int .i64 22, .int .i64 62, .int .i64 40, .int .i64 4, .int .i64 0, .int .i64 0, .int .i64 0, .int .i64 0, .int .i64 20, .int .i64 60, .int .i64 42, .int .i64 6, .int .i64 0, .int .i64 0, .int .i64 0, .int .i64 0, .int .i64 18, .int .i64 58, .int .i64 44, .int .i64 8, .int .i64 0, .int .i64 0, .int .i64 0, .int .i64 0, .int .i64 16, .int .i64 56, .int .i64 46, .int .i64 10, .int .i64 0, .int .i64 0, .int .i64 0, .int .i64 (-2), .int .i64 16, .int .i64 54, .int .i64 48, .int .i64 12, .int .i64 0, .int .i64 0, .int .i64 0, .int .i64 (-2), .int .i64 14, .int .i64 52, .int .i64 52, .int .i64 14, .int .i64 (-2), .int .i64 0]) A90 S90 (hs6.all 0 rfl), rfl⟩, ?_⟩
  exact ⟨rfl, hs6.pick [] _ (by decide) rfl⟩

theorem sharp_fun {w : World}  : Fun Try.prog 65 [] w fun v w' => v = .agg #[.int .i64 0, .int .i64 0, .int .i64 0, .int .i64 128, .int .i64 0, .int .i64 0, .int .i64 0, .int .i64 0, .int .i64 0, .int .i64 2, .int .i64 (-6), .int .i64 126, .int .i64 8, .int .i64 (-2), .int .i64 0, .int .i64 0, .int .i64 0, .int .i64 2, .int .i64 (-10), .int .i64 122, .int .i64 18, .int .i64 (-4), .int .i64 0, .int .i64 0, .int .i64 0, .int .i64 2, .int .i64 (-12), .int .i64 116, .int .i64 28, .int .i64 (-8), .int .i64 2, .int .i64 0, .int .i64 0, .int .i64 2, .int .i64 (-14), .int .i64 110, .int .i64 38, .int .i64 (-10), .int .i64 2, .int .i64 0, .int .i64 0, .int .i64 2, .int .i64 (-14), .int .i64 102, .int .i64 48, .int .i64 (-12), .int .i64 2, .int .i64 0, .int .i64 0, .int .i64 2, .int .i64 (-16), .int .i64 94, .int .i64 58, .int .i64 (-12), .int .i64 2, .int .i64 0, .int .i64 0, .int .i64 2, .int .i64 (-14), .int .i64 84, .int .i64 66, .int .i64 (-12), .int .i64 2, .int .i64 0, .int .i64 0, .int .i64 2, .int .i64 (-14), .int .i64 76, .int .i64 76, .int .i64 (-14), .int .i64 2, .int .i64 0] ∧ HS w [] w' := by
  refine fun_run (m := 11) (rs := [.cell 0 90]) Try.func65 rfl rfl rfl rfl rfl ?_
  have hs0 := HS.start w
  refine run_seq fun K1 k1 => ?_
  refine run_region ?_
  refine Ops.s (Step.alloc (cs := [.int .i64 0, .int .i64 0, .int .i64 0, .int .i64 0, .int .i64 0, .int .i64 0, .int .i64 0, .int .i64 0, .int .i64 0, .int .i64 0, .int .i64 0, .int .i64 0, .int .i64 0, .int .i64 0, .int .i64 0, .int .i64 0, .int .i64 0, .int .i64 0, .int .i64 0, .int .i64 0, .int .i64 0, .int .i64 0, .int .i64 0, .int .i64 0, .int .i64 0, .int .i64 0, .int .i64 0, .int .i64 0, .int .i64 0, .int .i64 0, .int .i64 0, .int .i64 0, .int .i64 0, .int .i64 0, .int .i64 0, .int .i64 0, .int .i64 0, .int .i64 0, .int .i64 0, .int .i64 0, .int .i64 0, .int .i64 0, .int .i64 0, .int .i64 0, .int .i64 0, .int .i64 0, .int .i64 0, .int .i64 0, .int .i64 0, .int .i64 0, .int .i64 0, .int .i64 0, .int .i64 0, .int .i64 0, .int .i64 0, .int .i64 0, .int .i64 0, .int .i64 0, .int .i64 0, .int .i64 0, .int .i64 0, .int .i64 0, .int .i64 0, .int .i64 0, .int .i64 0, .int .i64 0, .int .i64 0, .int .i64 0, .int .i64 0, .int .i64 0, .int .i64 0, .int .i64 0]) hs0 Z90 rfl (fun b2 w3 hs3 hb3 => ?_) True.intro (by rfl))
  refine Ops.nil ?_
  refine k1 _ _ ?_
  refine run_seq fun K5 k5 => ?_
  refine run_region ?_
  refine Ops.v (Yv.buildA (cs := #[.int .i64 0, .int .i64 0, .int .i64 0, .int .i64 128, .int .i64 0, .int .i64 0, .int .i64 0, .int .i64 0]) T81 rfl rfl) ?_
  refine Ops.v (Yv.buildA (cs := #[.int .i64 0, .int .i64 2, .int .i64 (-6), .int .i64 126, .int .i64 8, .int .i64 (-2), .int .i64 0, .int .i64 0]) T81 rfl rfl) ?_
  refine Ops.v (Yv.buildA (cs := #[.int .i64 0, .int .i64 2, .int .i64 (-10), .int .i64 122, .int .i64 18, .int .i64 (-4), .int .i64 0, .int .i64 0]) T81 rfl rfl) ?_
  refine Ops.v (Yv.buildA (cs := #[.int .i64 0, .int .i64 2, .int .i64 (-12), .int .i64 116, .int .i64 28, .int .i64 (-8), .int .i64 2, .int .i64 0]) T81 rfl rfl) ?_
  refine Ops.v (Yv.buildA (cs := #[.int .i64 0, .int .i64 2, .int .i64 (-14), .int .i64 110, .int .i64 38, .int .i64 (-10), .int .i64 2, .int .i64 0]) T81 rfl rfl) ?_
  refine Ops.v (Yv.buildA (cs := #[.int .i64 0, .int .i64 2, .int .i64 (-14), .int .i64 102, .int .i64 48, .int .i64 (-12), .int .i64 2, .int .i64 0]) T81 rfl rfl) ?_
  refine Ops.v (Yv.buildA (cs := #[.int .i64 0, .int .i64 2, .int .i64 (-16), .int .i64 94, .int .i64 58, .int .i64 (-12), .int .i64 2, .int .i64 0]) T81 rfl rfl) ?_
  refine Ops.v (Yv.buildA (cs := #[.int .i64 0, .int .i64 2, .int .i64 (-14), .int .i64 84, .int .i64 66, .int .i64 (-12), .int .i64 2, .int .i64 0]) T81 rfl rfl) ?_
  refine Ops.v (Yv.buildA (cs := #[.int .i64 0, .int .i64 2, .int .i64 (-14), .int .i64 76, .int .i64 76, .int .i64 (-14), .int .i64 2, .int .i64 0]) T81 rfl rfl) ?_
  refine Ops.v (Yv.buildA (cs := #[.int .i64 0, .int .i64 0, .int .i64 0, .int .i64 128, .int .i64 0, .int .i64 0, .int .i64 0, .int .i64 0, .int .i64 0, .int .i64 2, .int .i64 (-6), .int .i64 126, .int .i64 8, .int .i64 (-2), .int .i64 0, .int .i64 0, .int .i64 0, .int .i64 2, .int .i64 (-10), .int .i64 122, .int .i64 18, .int .i64 (-4), .int .i64 0, .int .i64 0, .int .i64 0, .int .i64 2, .int .i64 (-12), .int .i64 116, .int .i64 28, .int .i64 (-8), .int .i64 2, .int .i64 0, .int .i64 0, .int .i64 2, .int .i64 (-14), .int .i64 110, .int .i64 38, .int .i64 (-10), .int .i64 2, .int .i64 0, .int .i64 0, .int .i64 2, .int .i64 (-14), .int .i64 102, .int .i64 48, .int .i64 (-12), .int .i64 2, .int .i64 0, .int .i64 0, .int .i64 2, .int .i64 (-16), .int .i64 94, .int .i64 58, .int .i64 (-12), .int .i64 2, .int .i64 0, .int .i64 0, .int .i64 2, .int .i64 (-14), .int .i64 84, .int .i64 66, .int .i64 (-12), .int .i64 2, .int .i64 0, .int .i64 0, .int .i64 2, .int .i64 (-14), .int .i64 76, .int .i64 76, .int .i64 (-14), .int .i64 2, .int .i64 0]) T90 rfl rfl) ?_
  refine Ops.s (Step.store (vs := [.int .i64 0, .int .i64 0, .int .i64 0, .int .i64 128, .int .i64 0, .int .i64 0, .int .i64 0, .int .i64 0, .int .i64 0, .int .i64 2, .int .i64 (-6), .int .i64 126, .int .i64 8, .int .i64 (-2), .int .i64 0, .int .i64 0, .int .i64 0, .int .i64 2, .int .i64 (-10), .int .i64 122, .int .i64 18, .int .i64 (-4), .int .i64 0, .int .i64 0, .int .i64 0, .int .i64 2, .int .i64 (-12), .int .i64 116, .int .i64 28, .int .i64 (-8), .int .i64 2, .int .i64 0, .int .i64 0, .int .i64 2, .int .i64 (-14), .int .i64 110, .int .i64 38, .int .i64 (-10), .int .i64 2, .int .i64 0, .int .i64 0, .int .i64 2, .int .i64 (-14), .int .i64 102, .int .i64 48, .int .i64 (-12), .int .i64 2, .int .i64 0, .int .i64 0, .int .i64 2, .int .i64 (-16), .int .i64 94, .int .i64 58, .int .i64 (-12), .int .i64 2, .int .i64 0, .int .i64 0, .int .i64 2, .int .i64 (-14), .int .i64 84, .int .i64 66, .int .i64 (-12), .int .i64 2, .int .i64 0, .int .i64 0, .int .i64 2, .int .i64 (-14), .int .i64 76, .int .i64 76, .int .i64 (-14), .int .i64 2, .int .i64 0]) 0 hs3 rfl rfl rfl rfl S90 (Nat.le_of_ble_eq_true rfl) rfl (fun w6 hs6 => ?_) True.intro)
  replace hs6 : HS _ [.blk b2 [.int .i64 0, .int .i64 0, .int .i64 0, .int .i64 128, .int .i64 0, .int .i64 0, .int .i64 0, .int .i64 0, .int .i64 0, .int .i64 2, .int .i64 (-6), .int .i64 126, .int .i64 8, .int .i64 (-2), .int .i64 0, .int .i64 0, .int .i64 0, .int .i64 2, .int .i64 (-10), .int .i64 122, .int .i64 18, .int .i64 (-4), .int .i64 0, .int .i64 0, .int .i64 0, .int .i64 2, .int .i64 (-12), .int .i64 116, .int .i64 28, .int .i64 (-8), .int .i64 2, .int .i64 0, .int .i64 0, .int .i64 2, .int .i64 (-14), .int .i64 110, .int .i64 38, .int .i64 (-10), .int .i64 2, .int .i64 0, .int .i64 0, .int .i64 2, .int .i64 (-14), .int .i64 102, .int .i64 48, .int .i64 (-12), .int .i64 2, .int .i64 0, .int .i64 0, .int .i64 2, .int .i64 (-16), .int .i64 94, .int .i64 58, .int .i64 (-12), .int .i64 2, .int .i64 0, .int .i64 0, .int .i64 2, .int .i64 (-14), .int .i64 84, .int .i64 66, .int .i64 (-12), .int .i64 2, .int .i64 0, .int .i64 0, .int .i64 2, .int .i64 (-14), .int .i64 76, .int .i64 76, .int .i64 (-14), .int .i64 2, .int .i64 0] 90] _ := hs6
  refine Ops.nil ?_
  refine k5 _ _ ?_
  refine run_ret ?_
  refine ⟨[.agg #[.int .i64 0, .int .i64 0, .int .i64 0, .int .i64 128, .int .i64 0, .int .i64 0, .int .i64 0, .int .i64 0, .int .i64 0, .int .i64 2, .int .i64 (-6), .int .i64 126, .int .i64 8, .int .i64 (-2), .int .i64 0, .int .i64 0, .int .i64 0, .int .i64 2, .int .i64 (-10), .int .i64 122, .int .i64 18, .int .i64 (-4), .int .i64 0, .int .i64 0, .int .i64 0, .int .i64 2, .int .i64 (-12), .int .i64 116, .int .i64 28, .int .i64 (-8), .int .i64 2, .int .i64 0, .int .i64 0, .int .i64 2, .int .i64 (-14), .int .i64 110, .int .i64 38, .int .i64 (-10), .int .i64 2, .int .i64 0, .int .i64 0, .int .i64 2, .int .i64 (-14), .int .i64 102, .int .i64 48, .int .i64 (-12), .int .i64 2, .int .i64 0, .int .i64 0, .int .i64 2, .int .i64 (-16), .int .i64 94, .int .i64 58, .int .i64 (-12), .int .i64 2, .int .i64 0, .int .i64 0, .int .i64 2, .int .i64 (-14), .int .i64 84, .int .i64 66, .int .i64 (-12), .int .i64 2, .int .i64 0, .int .i64 0, .int .i64 2, .int .i64 (-14), .int .i64 76, .int .i64 76, .int .i64 (-14), .int .i64 2, .int .i64 0]], ⟨_, _, _, rfl, rfl, run_loadn (cs := [.int .i64 0, .int .i64 0, .int .i64 0, .int .i64 128, .int .i64 0, .int .i64 0, .int .i64 0, .int .i64 0, .int .i64 0, .int .i64 2, .int .i64 (-6), .int .i64 126, .int .i64 8, .int .i64 (-2), .int .i64 0, .int .i64 0, .int .i64 0, .int .i64 2, .int .i64 (-10), .int .i64 122, .int .i64 18, .int .i64 (-4), .int .i64 0, .int .i64 0, .int .i64 0, .int .i64 2, .int .i64 (-12), .int .i64 116, .int .i64 28, .int .i64 (-8), .int .i64 2, .int .i64 0, .int .i64 0, .int .i64 2, .int .i64 (-14), .int .i64 110, .int .i64 38, .int .i64 (-10), .int .i64 2, .int .i64 0, .int .i64 0, .int .i64 2, .int .i64 (-14), .int .i64 102, .int .i64 48, .int .i64 (-12), .int .i64 2, .int .i64 0, .int .i64 0, .int .i64 2, .int .i64 (-16), .int .i64 94, .int .i64 58, .int .i64 (-12), .int .i64 2, .int .i64 0, .int .i64 0, .int .i64 2, .int .i64 (-14), .int .i64 84, .int .i64 66, .int .i64 (-12), .int .i64 2, .int .i64 0, .int .i64 0, .int .i64 2, .int .i64 (-14), .int .i64 76, .int .i64 76, .int .i64 (-14), .int .i64 2, .int .i64 0]) A90 S90 (hs6.all 0 rfl), rfl⟩, ?_⟩
  exact ⟨rfl, hs6.pick [] _ (by decide) rfl⟩

theorem reverse8_fun {w0 w : World} {H : List Ent} {b : Nat} {ty : TypeId} {x0 x1 x2 x3 x4 x5 x6 x7 : Int} (hs0 : HS w0 (.blk b [.int .i64 x0, .int .i64 x1, .int .i64 x2, .int .i64 x3, .int .i64 x4, .int .i64 x5, .int .i64 x6, .int .i64 x7] ty :: H) w) : Fun Try.prog 66 [.slice (some ⟨b, 0, none⟩) 8 8] w fun v w' => v = .tuple #[] ∧ HS w0 (.blk b [.int .i64 x7, .int .i64 x6, .int .i64 x5, .int .i64 x4, .int .i64 x3, .int .i64 x2, .int .i64 x1, .int .i64 x0] ty :: H) w' := by
  refine fun_run (m := 28) (rs := []) Try.func66 rfl rfl rfl rfl rfl ?_
  refine run_seq fun K1 k1 => ?_
  refine run_region ?_
  refine Ops.v (Yv.move rfl) ?_
  refine Ops.v (Yv.len (by rw [L45]; rfl) rfl) ?_
  refine Ops.v ((Yv.sub rfl rfl (by omega)).to (v := .int .i64 7) (by rfl)) ?_
  refine Ops.v (Yv.assign rfl) ?_
  refine Ops.v (Yv.assign rfl) ?_
  refine Ops.nil ?_
  refine k1 _ _ ?_
  refine run_block ?_
  refine run_rounds 5 ?_
  show Run _ _ _ (seqQ _ _) _ _
  refine run_seq fun K2 k2 => ?_
  refine run_seq fun K3 k3 => ?_
  refine run_region ?_
  refine Ops.v (Yv.move rfl) ?_
  refine Ops.v (Yv.move rfl) ?_
  refine Ops.v ((Yv.lt rfl rfl).to (v := .bool true) (by rfl)) ?_
  refine Ops.nil ?_
  refine k3 _ _ ?_
  refine run_if1 rfl ?_
  refine run_skip ?_
  refine k2 _ _ ?_
  refine run_seq fun K4 k4 => ?_
  refine run_block ?_
  refine run_drawn [13, 15] (fun x => Below (w.drew).heap.size (w.drew) x) ?_ Tf.mixed (by kernel_rfl) (fun _ _ _ h => h)
  have hs5 := hs0.drew
  have hS6 := Below.refl (w.drew).heap.size (w.drew)
  refine Drw.a 0 rfl (by kernel_rfl) (Yv.move rfl) ?_
  refine Drw.a 1 rfl (by kernel_rfl) (Yv.move rfl) ?_
  refine Drw.a 2 rfl (by kernel_rfl) (Yv.move rfl) ?_
  refine Drw.a 3 rfl (by kernel_rfl) (Yv.move rfl) ?_
  refine Drw.a 4 rfl (by kernel_rfl) (Yv.move rfl) ?_
  refine Drw.a 5 rfl (by kernel_rfl) (Yv.move rfl) ?_
  refine Drw.a 6 rfl (by kernel_rfl) ((Yv.idx L45 rfl rfl rfl (by decide) (by decide)).to (v := .pointer (some ⟨b, 7, none⟩)) (by rfl)) ?_
  refine Drw.l 7 rfl (by kernel_rfl) hS6 (Yv.load A3 rfl (fun _ hq_ => ((hs5.grow hq_).cell 0 rfl 7 rfl))) ?_
  refine Drw.a 8 rfl (by kernel_rfl) (Yv.move rfl) ?_
  refine Drw.a 9 rfl (by kernel_rfl) (Yv.move rfl) ?_
  refine Drw.a 10 rfl (by kernel_rfl) ((Yv.idx L45 rfl rfl rfl (by decide) (by decide)).to (v := .pointer (some ⟨b, 0, none⟩)) (by rfl)) ?_
  refine Drw.l 11 rfl (by kernel_rfl) hS6 (Yv.load A3 rfl (fun _ hq_ => ((hs5.grow hq_).cell 0 rfl 0 rfl))) ?_
  refine Drw.a 12 rfl (by kernel_rfl) ((Yv.idx L45 rfl rfl rfl (by decide) (by decide)).to (v := .pointer (some ⟨b, 0, none⟩)) (by rfl)) ?_
  refine Drw.one 13 rfl (by kernel_rfl) (Step.store (vs := [.int .i64 x7]) 0 hs5 rfl rfl rfl rfl S3 (Nat.le_of_ble_eq_true rfl) rfl (fun w7 hs7 => ?_) True.intro)
  refine ⟨fun h => absurd h (by decide), ?_⟩
  replace hs7 : HS _ (.blk _ [_, _, _, _, _, _, _, _] _ :: H) _ := hs7
  refine Drw.a 14 rfl (by kernel_rfl) ((Yv.idx L45 rfl rfl rfl (by decide) (by decide)).to (v := .pointer (some ⟨b, 7, none⟩)) (by rfl)) ?_
  refine Drw.one 15 rfl (by kernel_rfl) (Step.store (vs := [.int .i64 x0]) 0 hs7 rfl rfl rfl rfl S3 (Nat.le_of_ble_eq_true rfl) rfl (fun w8 hs8 => ?_) True.intro)
  refine ⟨fun h => absurd h (by decide), ?_⟩
  replace hs8 : HS _ (.blk _ [_, _, _, _, _, _, _, _] _ :: H) _ := hs8
  refine Drw.done ?_ (by kernel_rfl)
  refine k4 _ _ ?_
  refine run_region ?_
  refine Ops.v (Yv.move rfl) ?_
  refine Ops.v ((Yv.add rfl rfl (by omega)).to (v := .int .i64 1) (by rfl)) ?_
  refine Ops.v (Yv.move rfl) ?_
  refine Ops.v ((Yv.sub rfl rfl (by omega)).to (v := .int .i64 6) (by rfl)) ?_
  refine Ops.v (Yv.assign rfl) ?_
  refine Ops.v (Yv.assign rfl) ?_
  refine Ops.nil ?_
  show Run _ _ _ (seqQ _ _) _ _
  refine run_seq fun K9 k9 => ?_
  refine run_seq fun K10 k10 => ?_
  refine run_region ?_
  refine Ops.v (Yv.move rfl) ?_
  refine Ops.v (Yv.move rfl) ?_
  refine Ops.v ((Yv.lt rfl rfl).to (v := .bool true) (by rfl)) ?_
  refine Ops.nil ?_
  refine k10 _ _ ?_
  refine run_if1 rfl ?_
  refine run_skip ?_
  refine k9 _ _ ?_
  refine run_seq fun K11 k11 => ?_
  refine run_block ?_
  refine run_drawn [13, 15] (fun x => Below (w8.drew).heap.size (w8.drew) x) ?_ Tf.mixed (by kernel_rfl) (fun _ _ _ h => h)
  have hs12 := hs8.drew
  have hS13 := Below.refl (w8.drew).heap.size (w8.drew)
  refine Drw.a 0 rfl (by kernel_rfl) (Yv.move rfl) ?_
  refine Drw.a 1 rfl (by kernel_rfl) (Yv.move rfl) ?_
  refine Drw.a 2 rfl (by kernel_rfl) (Yv.move rfl) ?_
  refine Drw.a 3 rfl (by kernel_rfl) (Yv.move rfl) ?_
  refine Drw.a 4 rfl (by kernel_rfl) (Yv.move rfl) ?_
  refine Drw.a 5 rfl (by kernel_rfl) (Yv.move rfl) ?_
  refine Drw.a 6 rfl (by kernel_rfl) ((Yv.idx L45 rfl rfl rfl (by decide) (by decide)).to (v := .pointer (some ⟨b, 6, none⟩)) (by rfl)) ?_
  refine Drw.l 7 rfl (by kernel_rfl) hS13 (Yv.load A3 rfl (fun _ hq_ => ((hs12.grow hq_).cell 0 rfl 6 rfl))) ?_
  refine Drw.a 8 rfl (by kernel_rfl) (Yv.move rfl) ?_
  refine Drw.a 9 rfl (by kernel_rfl) (Yv.move rfl) ?_
  refine Drw.a 10 rfl (by kernel_rfl) ((Yv.idx L45 rfl rfl rfl (by decide) (by decide)).to (v := .pointer (some ⟨b, 1, none⟩)) (by rfl)) ?_
  refine Drw.l 11 rfl (by kernel_rfl) hS13 (Yv.load A3 rfl (fun _ hq_ => ((hs12.grow hq_).cell 0 rfl 1 rfl))) ?_
  refine Drw.a 12 rfl (by kernel_rfl) ((Yv.idx L45 rfl rfl rfl (by decide) (by decide)).to (v := .pointer (some ⟨b, 1, none⟩)) (by rfl)) ?_
  refine Drw.one 13 rfl (by kernel_rfl) (Step.store (vs := [.int .i64 x6]) 0 hs12 rfl rfl rfl rfl S3 (Nat.le_of_ble_eq_true rfl) rfl (fun w14 hs14 => ?_) True.intro)
  refine ⟨fun h => absurd h (by decide), ?_⟩
  replace hs14 : HS _ (.blk _ [_, _, _, _, _, _, _, _] _ :: H) _ := hs14
  refine Drw.a 14 rfl (by kernel_rfl) ((Yv.idx L45 rfl rfl rfl (by decide) (by decide)).to (v := .pointer (some ⟨b, 6, none⟩)) (by rfl)) ?_
  refine Drw.one 15 rfl (by kernel_rfl) (Step.store (vs := [.int .i64 x1]) 0 hs14 rfl rfl rfl rfl S3 (Nat.le_of_ble_eq_true rfl) rfl (fun w15 hs15 => ?_) True.intro)
  refine ⟨fun h => absurd h (by decide), ?_⟩
  replace hs15 : HS _ (.blk _ [_, _, _, _, _, _, _, _] _ :: H) _ := hs15
  refine Drw.done ?_ (by kernel_rfl)
  refine k11 _ _ ?_
  refine run_region ?_
  refine Ops.v (Yv.move rfl) ?_
  refine Ops.v ((Yv.add rfl rfl (by omega)).to (v := .int .i64 2) (by rfl)) ?_
  refine Ops.v (Yv.move rfl) ?_
  refine Ops.v ((Yv.sub rfl rfl (by omega)).to (v := .int .i64 5) (by rfl)) ?_
  refine Ops.v (Yv.assign rfl) ?_
  refine Ops.v (Yv.assign rfl) ?_
  refine Ops.nil ?_
  show Run _ _ _ (seqQ _ _) _ _
  refine run_seq fun K16 k16 => ?_
  refine run_seq fun K17 k17 => ?_
  refine run_region ?_
  refine Ops.v (Yv.move rfl) ?_
  refine Ops.v (Yv.move rfl) ?_
  refine Ops.v ((Yv.lt rfl rfl).to (v := .bool true) (by rfl)) ?_
  refine Ops.nil ?_
  refine k17 _ _ ?_
  refine run_if1 rfl ?_
  refine run_skip ?_
  refine k16 _ _ ?_
  refine run_seq fun K18 k18 => ?_
  refine run_block ?_
  refine run_drawn [13, 15] (fun x => Below (w15.drew).heap.size (w15.drew) x) ?_ Tf.mixed (by kernel_rfl) (fun _ _ _ h => h)
  have hs19 := hs15.drew
  have hS20 := Below.refl (w15.drew).heap.size (w15.drew)
  refine Drw.a 0 rfl (by kernel_rfl) (Yv.move rfl) ?_
  refine Drw.a 1 rfl (by kernel_rfl) (Yv.move rfl) ?_
  refine Drw.a 2 rfl (by kernel_rfl) (Yv.move rfl) ?_
  refine Drw.a 3 rfl (by kernel_rfl) (Yv.move rfl) ?_
  refine Drw.a 4 rfl (by kernel_rfl) (Yv.move rfl) ?_
  refine Drw.a 5 rfl (by kernel_rfl) (Yv.move rfl) ?_
  refine Drw.a 6 rfl (by kernel_rfl) ((Yv.idx L45 rfl rfl rfl (by decide) (by decide)).to (v := .pointer (some ⟨b, 5, none⟩)) (by rfl)) ?_
  refine Drw.l 7 rfl (by kernel_rfl) hS20 (Yv.load A3 rfl (fun _ hq_ => ((hs19.grow hq_).cell 0 rfl 5 rfl))) ?_
  refine Drw.a 8 rfl (by kernel_rfl) (Yv.move rfl) ?_
  refine Drw.a 9 rfl (by kernel_rfl) (Yv.move rfl) ?_
  refine Drw.a 10 rfl (by kernel_rfl) ((Yv.idx L45 rfl rfl rfl (by decide) (by decide)).to (v := .pointer (some ⟨b, 2, none⟩)) (by rfl)) ?_
  refine Drw.l 11 rfl (by kernel_rfl) hS20 (Yv.load A3 rfl (fun _ hq_ => ((hs19.grow hq_).cell 0 rfl 2 rfl))) ?_
  refine Drw.a 12 rfl (by kernel_rfl) ((Yv.idx L45 rfl rfl rfl (by decide) (by decide)).to (v := .pointer (some ⟨b, 2, none⟩)) (by rfl)) ?_
  refine Drw.one 13 rfl (by kernel_rfl) (Step.store (vs := [.int .i64 x5]) 0 hs19 rfl rfl rfl rfl S3 (Nat.le_of_ble_eq_true rfl) rfl (fun w21 hs21 => ?_) True.intro)
  refine ⟨fun h => absurd h (by decide), ?_⟩
  replace hs21 : HS _ (.blk _ [_, _, _, _, _, _, _, _] _ :: H) _ := hs21
  refine Drw.a 14 rfl (by kernel_rfl) ((Yv.idx L45 rfl rfl rfl (by decide) (by decide)).to (v := .pointer (some ⟨b, 5, none⟩)) (by rfl)) ?_
  refine Drw.one 15 rfl (by kernel_rfl) (Step.store (vs := [.int .i64 x2]) 0 hs21 rfl rfl rfl rfl S3 (Nat.le_of_ble_eq_true rfl) rfl (fun w22 hs22 => ?_) True.intro)
  refine ⟨fun h => absurd h (by decide), ?_⟩
  replace hs22 : HS _ (.blk _ [_, _, _, _, _, _, _, _] _ :: H) _ := hs22
  refine Drw.done ?_ (by kernel_rfl)
  refine k18 _ _ ?_
  refine run_region ?_
  refine Ops.v (Yv.move rfl) ?_
  refine Ops.v ((Yv.add rfl rfl (by omega)).to (v := .int .i64 3) (by rfl)) ?_
  refine Ops.v (Yv.move rfl) ?_
  refine Ops.v ((Yv.sub rfl rfl (by omega)).to (v := .int .i64 4) (by rfl)) ?_
  refine Ops.v (Yv.assign rfl) ?_
  refine Ops.v (Yv.assign rfl) ?_
  refine Ops.nil ?_
  show Run _ _ _ (seqQ _ _) _ _
  refine run_seq fun K23 k23 => ?_
  refine run_seq fun K24 k24 => ?_
  refine run_region ?_
  refine Ops.v (Yv.move rfl) ?_
  refine Ops.v (Yv.move rfl) ?_
  refine Ops.v ((Yv.lt rfl rfl).to (v := .bool true) (by rfl)) ?_
  refine Ops.nil ?_
  refine k24 _ _ ?_
  refine run_if1 rfl ?_
  refine run_skip ?_
  refine k23 _ _ ?_
  refine run_seq fun K25 k25 => ?_
  refine run_block ?_
  refine run_drawn [13, 15] (fun x => Below (w22.drew).heap.size (w22.drew) x) ?_ Tf.mixed (by kernel_rfl) (fun _ _ _ h => h)
  have hs26 := hs22.drew
  have hS27 := Below.refl (w22.drew).heap.size (w22.drew)
  refine Drw.a 0 rfl (by kernel_rfl) (Yv.move rfl) ?_
  refine Drw.a 1 rfl (by kernel_rfl) (Yv.move rfl) ?_
  refine Drw.a 2 rfl (by kernel_rfl) (Yv.move rfl) ?_
  refine Drw.a 3 rfl (by kernel_rfl) (Yv.move rfl) ?_
  refine Drw.a 4 rfl (by kernel_rfl) (Yv.move rfl) ?_
  refine Drw.a 5 rfl (by kernel_rfl) (Yv.move rfl) ?_
  refine Drw.a 6 rfl (by kernel_rfl) ((Yv.idx L45 rfl rfl rfl (by decide) (by decide)).to (v := .pointer (some ⟨b, 4, none⟩)) (by rfl)) ?_
  refine Drw.l 7 rfl (by kernel_rfl) hS27 (Yv.load A3 rfl (fun _ hq_ => ((hs26.grow hq_).cell 0 rfl 4 rfl))) ?_
  refine Drw.a 8 rfl (by kernel_rfl) (Yv.move rfl) ?_
  refine Drw.a 9 rfl (by kernel_rfl) (Yv.move rfl) ?_
  refine Drw.a 10 rfl (by kernel_rfl) ((Yv.idx L45 rfl rfl rfl (by decide) (by decide)).to (v := .pointer (some ⟨b, 3, none⟩)) (by rfl)) ?_
  refine Drw.l 11 rfl (by kernel_rfl) hS27 (Yv.load A3 rfl (fun _ hq_ => ((hs26.grow hq_).cell 0 rfl 3 rfl))) ?_
  refine Drw.a 12 rfl (by kernel_rfl) ((Yv.idx L45 rfl rfl rfl (by decide) (by decide)).to (v := .pointer (some ⟨b, 3, none⟩)) (by rfl)) ?_
  refine Drw.one 13 rfl (by kernel_rfl) (Step.store (vs := [.int .i64 x4]) 0 hs26 rfl rfl rfl rfl S3 (Nat.le_of_ble_eq_true rfl) rfl (fun w28 hs28 => ?_) True.intro)
  refine ⟨fun h => absurd h (by decide), ?_⟩
  replace hs28 : HS _ (.blk _ [_, _, _, _, _, _, _, _] _ :: H) _ := hs28
  refine Drw.a 14 rfl (by kernel_rfl) ((Yv.idx L45 rfl rfl rfl (by decide) (by decide)).to (v := .pointer (some ⟨b, 4, none⟩)) (by rfl)) ?_
  refine Drw.one 15 rfl (by kernel_rfl) (Step.store (vs := [.int .i64 x3]) 0 hs28 rfl rfl rfl rfl S3 (Nat.le_of_ble_eq_true rfl) rfl (fun w29 hs29 => ?_) True.intro)
  refine ⟨fun h => absurd h (by decide), ?_⟩
  replace hs29 : HS _ (.blk _ [_, _, _, _, _, _, _, _] _ :: H) _ := hs29
  refine Drw.done ?_ (by kernel_rfl)
  refine k25 _ _ ?_
  refine run_region ?_
  refine Ops.v (Yv.move rfl) ?_
  refine Ops.v ((Yv.add rfl rfl (by omega)).to (v := .int .i64 4) (by rfl)) ?_
  refine Ops.v (Yv.move rfl) ?_
  refine Ops.v ((Yv.sub rfl rfl (by omega)).to (v := .int .i64 3) (by rfl)) ?_
  refine Ops.v (Yv.assign rfl) ?_
  refine Ops.v (Yv.assign rfl) ?_
  refine Ops.nil ?_
  show Run _ _ _ (seqQ _ _) _ _
  refine run_seq fun K30 k30 => ?_
  refine run_seq fun K31 k31 => ?_
  refine run_region ?_
  refine Ops.v (Yv.move rfl) ?_
  refine Ops.v (Yv.move rfl) ?_
  refine Ops.v ((Yv.lt rfl rfl).to (v := .bool false) (by rfl)) ?_
  refine Ops.nil ?_
  refine k31 _ _ ?_
  refine run_if0 rfl ?_
  refine run_exit ?_
  refine ⟨[], rfl, ?_⟩
  exact ⟨rfl, hs29⟩

theorem taps_fun {w : World} {kd q : Int} : Fun Try.prog 52 [.int .i64 kd, .int .i64 q] w fun v w' => v = .tuple #[.agg #[.int .i64 (gi (tapsOut kd q) 0), .int .i64 (gi (tapsOut kd q) 1), .int .i64 (gi (tapsOut kd q) 2), .int .i64 (gi (tapsOut kd q) 3), .int .i64 (gi (tapsOut kd q) 4), .int .i64 (gi (tapsOut kd q) 5), .int .i64 (gi (tapsOut kd q) 6), .int .i64 (gi (tapsOut kd q) 7)], .int .i64 (tapsE kd q)] ∧ HS w [] w' := by
  refine fun_run (m := 43) (rs := [.cell 4 81, .tmp 5]) Try.func52 rfl rfl rfl rfl rfl ?_
  have hs0 := HS.start w
  refine run_seq fun K1 k1 => ?_
  refine run_region ?_
  refine Ops.s (Step.alloc (cs := [.int .i64 0, .int .i64 0, .int .i64 0, .int .i64 0, .int .i64 0, .int .i64 0, .int .i64 0, .int .i64 0]) hs0 Z81 rfl (fun b2 w3 hs3 hb3 => ?_) True.intro (by rfl))
  refine Ops.v (Yv.assign rfl) ?_
  refine Ops.nil ?_
  refine k1 _ _ ?_
  refine run_seq fun K5 k5 => ?_
  refine run_seq fun K6 k6 => ?_
  refine Run.cut (fun e_ w_ => w3 = w_ ∧ Le [(0, .int .i64 kd), (1, .int .i64 q), (4, .pointer (some ⟨b2, 0, none⟩)), (5, .int .i64 0), (13, .bool (decide ((q < (0 : Int)) ∨ ((15 : Int) < q))))] e_) ?_ ?_
  · -- region 1: its ways meet again
    refine run_region ?_
    refine Ops.v (Yv.move rfl) ?_
    refine Ops.v (Yv.lt rfl rfl) ?_
    refine Ops.dec (fun h7 => ?_) (fun h7 => ?_)
    · -- yes
      refine Ops.v (Yv.move rfl) ?_
      refine Ops.skip ⟨_, rfl, rfl⟩ ?_
      refine Ops.skip ⟨_, rfl, rfl⟩ ?_
      refine Ops.v (Yv.pick1 rfl rfl) ?_
      refine Ops.nil ?_
      refine ⟨rfl, Sub.le ⟨rfl, rfl, rfl, rfl, lookB rfl (by first | (simp only [h7, ne_eq, not_true_eq_false, not_false_eq_true, or_true, true_or, or_false, false_or, and_true, true_and, and_false, false_and, decide_true, decide_false, or_self, and_self, Bool.decide_eq_true]; done) | simp [h7]), trivial⟩⟩
    · -- no
      refine Ops.v (Yv.move rfl) ?_
      refine Ops.vg ⟨_, rfl, rfl⟩ (Yv.move rfl) ?_
      refine Ops.vg ⟨_, rfl, rfl⟩ (Yv.gt rfl rfl) ?_
      refine Ops.v (Yv.pick0 rfl rfl) ?_
      refine Ops.nil ?_
      refine ⟨rfl, Sub.le ⟨rfl, rfl, rfl, rfl, lookB rfl (by first | (simp only [h7, ne_eq, not_true_eq_false, not_false_eq_true, or_true, true_or, or_false, false_or, and_true, true_and, and_false, false_and, decide_true, decide_false, or_self, and_self, Bool.decide_eq_true]; done) | simp [h7]), trivial⟩⟩
  rintro e8 _ ⟨rfl, he8⟩
  refine k6 _ _ ?_
  refine Run.le he8 ?_
  refine run_ifp rfl (fun h9 => ?_) (fun h9 => ?_)
  · -- yes (q < (0 : Int)) ∨ ((15 : Int) < q)
    refine run_seq fun K10 k10 => ?_
    refine run_region ?_
    refine Ops.v (Yv.buildA (cs := #[.int .i64 0, .int .i64 0, .int .i64 0, .int .i64 0, .int .i64 0, .int .i64 0, .int .i64 0, .int .i64 0]) T81 rfl rfl) ?_
    refine Ops.s (Step.store (vs := [.int .i64 0, .int .i64 0, .int .i64 0, .int .i64 0, .int .i64 0, .int .i64 0, .int .i64 0, .int .i64 0]) 0 hs3 rfl rfl rfl rfl S81 (Nat.le_of_ble_eq_true rfl) rfl (fun w11 hs11 => ?_) True.intro)
    replace hs11 : HS _ [.blk _ [_, _, _, _, _, _, _, _] _] _ := hs11
    refine Ops.v (Yv.assign rfl) ?_
    refine Ops.nil ?_
    refine k10 _ _ ?_
    refine run_ret ?_
    refine ⟨[.agg #[.int .i64 0, .int .i64 0, .int .i64 0, .int .i64 0, .int .i64 0, .int .i64 0, .int .i64 0, .int .i64 0], .int .i64 2], ⟨_, _, _, rfl, rfl, run_loadn (cs := [.int .i64 0, .int .i64 0, .int .i64 0, .int .i64 0, .int .i64 0, .int .i64 0, .int .i64 0, .int .i64 0]) A81 S81 (hs11.cells 0 rfl 0 8), ⟨_, _, rfl, rfl, rfl⟩⟩, ?_⟩
    obtain ⟨e1, e2⟩ := taps_bad (kd := kd) (q := q) (by omega)
    rw [e1, e2]
    exact ⟨rfl, hs11.pick [] _ (by decide) rfl⟩
  · -- no
    refine run_skip ?_
    refine k5 _ _ ?_
    refine run_seq fun K12 k12 => ?_
    refine run_region ?_
    refine Ops.s (Step.call rfl rfl (soft_fun) (?_) True.intro (by rfl))
    rintro _ w13 ⟨rfl, hs13⟩
    replace hs13 := hs3.call hs13
    refine Ops.s (Step.alloc (cs := [.int .i64 0, .int .i64 0, .int .i64 0, .int .i64 0, .int .i64 0, .int .i64 0, .int .i64 0, .int .i64 0, .int .i64 0, .int .i64 0, .int .i64 0, .int .i64 0, .int .i64 0, .int .i64 0, .int .i64 0, .int .i64 0, .int .i64 0, .int .i64 0, .int .i64 0, .int .i64 0, .int .i64 0, .int .i64 0, .int .i64 0, .int .i64 0, .int .i64 0, .int .i64 0, .int .i64 0, .int .i64 0, .int .i64 0, .int .i64 0, .int .i64 0, .int .i64 0, .int .i64 0, .int .i64 0, .int .i64 0, .int .i64 0, .int .i64 0, .int .i64 0, .int .i64 0, .int .i64 0, .int .i64 0, .int .i64 0, .int .i64 0, .int .i64 0, .int .i64 0, .int .i64 0, .int .i64 0, .int .i64 0, .int .i64 0, .int .i64 0, .int .i64 0, .int .i64 0, .int .i64 0, .int .i64 0, .int .i64 0, .int .i64 0, .int .i64 0, .int .i64 0, .int .i64 0, .int .i64 0, .int .i64 0, .int .i64 0, .int .i64 0, .int .i64 0, .int .i64 0, .int .i64 0, .int .i64 0, .int .i64 0, .int .i64 0, .int .i64 0, .int .i64 0, .int .i64 0]) hs13 Z90 rfl (fun b14 w15 hs15 hb15 => ?_) True.intro (by rfl))
    refine Ops.s (Step.store (vs := [.int .i64 0, .int .i64 0, .int .i64 0, .int .i64 128, .int .i64 0, .int .i64 0, .int .i64 0, .int .i64 0, .int .i64 0, .int .i64 2, .int .i64 28, .int .i64 62, .int .i64 34, .int .i64 2, .int .i64 0, .int .i64 0, .int .i64 0, .int .i64 0, .int .i64 26, .int .i64 62, .int .i64 36, .int .i64 4, .int .i64 0, .int .i64 0, .int .i64 0, .int .i64 0, .int .i64 22, .int .i64 62, .int .i64 40, .int .i64 4, .int .i64 0, .int .i64 0, .int .i64 0, .int .i64 0, .int .i64 20, .int .i64 60, .int .i64 42, .int .i64 6, .int .i64 0, .int .i64 0, .int .i64 0, .int .i64 0, .int .i64 18, .int .i64 58, .int .i64 44, .int .i64 8, .int .i64 0, .int .i64 0, .int .i64 0, .int .i64 0, .int .i64 16, .int .i64 56, .int .i64 46, .int .i64 10, .int .i64 0, .int .i64 0, .int .i64 0, .int .i64 (-2), .int .i64 16, .int .i64 54, .int .i64 48, .int .i64 12, .int .i64 0, .int .i64 0, .int .i64 0, .int .i64 (-2), .int .i64 14, .int .i64 52, .int .i64 52, .int .i64 14, .int .i64 (-2), .int .i64 0]) 0 hs15 rfl rfl rfl rfl S90 (Nat.le_of_ble_eq_true rfl) rfl (fun w17 hs17 => ?_) True.intro)
    replace hs17 : HS _ [.blk b14 [.int .i64 0, .int .i64 0, .int .i64 0, .int .i64 128, .int .i64 0, .int .i64 0, .int .i64 0, .int .i64 0, .int .i64 0, .int .i64 2, .int .i64 28, .int .i64 62, .int .i64 34, .int .i64 2, .int .i64 0, .int .i64 0, .int .i64 0, .int .i64 0, .int .i64 26, .int .i64 62, .int .i64 36, .int .i64 4, .int .i64 0, .int .i64 0, .int .i64 0, .int .i64 0, .int .i64 22, .int .i64 62, .int .i64 40, .int .i64 4, .int .i64 0, .int .i64 0, .int .i64 0, .int .i64 0, .int .i64 20, .int .i64 60, .int .i64 42, .int .i64 6, .int .i64 0, .int .i64 0, .int .i64 0, .int .i64 0, .int .i64 18, .int .i64 58, .int .i64 44, .int .i64 8, .int .i64 0, .int .i64 0, .int .i64 0, .int .i64 0, .int .i64 16, .int .i64 56, .int .i64 46, .int .i64 10, .int .i64 0, .int .i64 0, .int .i64 0, .int .i64 (-2), .int .i64 16, .int .i64 54, .int .i64 48, .int .i64 12, .int .i64 0, .int .i64 0, .int .i64 0, .int .i64 (-2), .int .i64 14, .int .i64 52, .int .i64 52, .int .i64 14, .int .i64 (-2), .int .i64 0] 90, .blk _ [_, _, _, _, _, _, _, _] _] _ := hs17
    refine Ops.nil ?_
    refine k12 _ _ ?_
    refine run_seq fun K18 k18 => ?_
    refine run_seq fun K19 k19 => ?_
    refine run_region ?_
    refine Ops.v (Yv.move rfl) ?_
    refine Ops.nil ?_
    refine k19 _ _ ?_
    refine run_block ?_
    refine run_seq fun K20 k20 => ?_
    refine run_region ?_
    refine Ops.v (Yv.eq rfl rfl) ?_
    refine Ops.v (Yv.assign rfl) ?_
    refine Ops.nil ?_
    refine k20 _ _ ?_
    refine run_ifp rfl (fun h21 => ?_) (fun h21 => ?_)
    · -- yes kd = (2 : Int)
      refine run_seq fun K22 k22 => ?_
      refine run_region ?_
      refine Ops.v (Yv.move rfl) ?_
      refine Ops.v (Yv.mul rfl rfl (by omega)) ?_
      refine Ops.v (Yv.sub rfl rfl (by omega)) ?_
      refine Ops.v (Yv.move rfl) ?_
      refine Ops.v (Yv.mul rfl rfl (by omega)) ?_
      refine Ops.v (Yv.buildA (cs := #[.int .i64 0, .int .i64 0, .int .i64 0, .int .i64 ((128 : Int) - ((8 : Int) * q)), .int .i64 ((8 : Int) * q), .int .i64 0, .int .i64 0, .int .i64 0]) T81 rfl rfl) ?_
      refine Ops.s (Step.store (vs := [.int .i64 0, .int .i64 0, .int .i64 0, .int .i64 ((128 : Int) - ((8 : Int) * q)), .int .i64 ((8 : Int) * q), .int .i64 0, .int .i64 0, .int .i64 0]) 1 hs17 rfl rfl rfl rfl S81 (Nat.le_of_ble_eq_true rfl) rfl (fun w23 hs23 => ?_) True.intro)
      replace hs23 : HS _ [.blk b14 [.int .i64 0, .int .i64 0, .int .i64 0, .int .i64 128, .int .i64 0, .int .i64 0, .int .i64 0, .int .i64 0, .int .i64 0, .int .i64 2, .int .i64 28, .int .i64 62, .int .i64 34, .int .i64 2, .int .i64 0, .int .i64 0, .int .i64 0, .int .i64 0, .int .i64 26, .int .i64 62, .int .i64 36, .int .i64 4, .int .i64 0, .int .i64 0, .int .i64 0, .int .i64 0, .int .i64 22, .int .i64 62, .int .i64 40, .int .i64 4, .int .i64 0, .int .i64 0, .int .i64 0, .int .i64 0, .int .i64 20, .int .i64 60, .int .i64 42, .int .i64 6, .int .i64 0, .int .i64 0, .int .i64 0, .int .i64 0, .int .i64 18, .int .i64 58, .int .i64 44, .int .i64 8, .int .i64 0, .int .i64 0, .int .i64 0, .int .i64 0, .int .i64 16, .int .i64 56, .int .i64 46, .int .i64 10, .int .i64 0, .int .i64 0, .int .i64 0, .int .i64 (-2), .int .i64 16, .int .i64 54, .int .i64 48, .int .i64 12, .int .i64 0, .int .i64 0, .int .i64 0, .int .i64 (-2), .int .i64 14, .int .i64 52, .int .i64 52, .int .i64 14, .int .i64 (-2), .int .i64 0] 90, .blk _ [_, _, _, _, _, _, _, _] _] _ := hs23
      refine Ops.v (Yv.assign rfl) ?_
      refine Ops.nil ?_
      refine k22 _ _ ?_
      refine run_ret ?_
      refine ⟨[.agg #[.int .i64 0, .int .i64 0, .int .i64 0, .int .i64 ((128 : Int) - ((8 : Int) * q)), .int .i64 ((8 : Int) * q), .int .i64 0, .int .i64 0, .int .i64 0], .int .i64 0], ⟨_, _, _, rfl, rfl, run_loadn (cs := [.int .i64 0, .int .i64 0, .int .i64 0, .int .i64 ((128 : Int) - ((8 : Int) * q)), .int .i64 ((8 : Int) * q), .int .i64 0, .int .i64 0, .int .i64 0]) A81 S81 (hs23.cells 1 rfl 0 8), ⟨_, _, rfl, rfl, rfl⟩⟩, ?_⟩
      obtain ⟨e1, e2⟩ := taps_ok (kd := kd) (q := q) (by omega)
      rw [e1, e2]
      have hk2 : kd = 2 := by omega
      subst hk2
      exact ⟨rfl, hs23.pick [] _ (by decide) rfl⟩
    · -- no
      refine run_seq fun K24 k24 => ?_
      refine run_region ?_
      refine Ops.v (Yv.eq rfl rfl) ?_
      refine Ops.v (Yv.assign rfl) ?_
      refine Ops.nil ?_
      refine k24 _ _ ?_
      refine run_ifp rfl (fun h25 => ?_) (fun h25 => ?_)
      · -- yes kd = (0 : Int)
        refine run_region ?_
        refine Ops.s (Step.call rfl rfl (sharp_fun) (?_) True.intro (by rfl))
        rintro _ w26 ⟨rfl, hs26⟩
        replace hs26 := hs17.call hs26
        refine Ops.s (Step.store (vs := [.int .i64 0, .int .i64 0, .int .i64 0, .int .i64 128, .int .i64 0, .int .i64 0, .int .i64 0, .int .i64 0, .int .i64 0, .int .i64 2, .int .i64 (-6), .int .i64 126, .int .i64 8, .int .i64 (-2), .int .i64 0, .int .i64 0, .int .i64 0, .int .i64 2, .int .i64 (-10), .int .i64 122, .int .i64 18, .int .i64 (-4), .int .i64 0, .int .i64 0, .int .i64 0, .int .i64 2, .int .i64 (-12), .int .i64 116, .int .i64 28, .int .i64 (-8), .int .i64 2, .int .i64 0, .int .i64 0, .int .i64 2, .int .i64 (-14), .int .i64 110, .int .i64 38, .int .i64 (-10), .int .i64 2, .int .i64 0, .int .i64 0, .int .i64 2, .int .i64 (-14), .int .i64 102, .int .i64 48, .int .i64 (-12), .int .i64 2, .int .i64 0, .int .i64 0, .int .i64 2, .int .i64 (-16), .int .i64 94, .int .i64 58, .int .i64 (-12), .int .i64 2, .int .i64 0, .int .i64 0, .int .i64 2, .int .i64 (-14), .int .i64 84, .int .i64 66, .int .i64 (-12), .int .i64 2, .int .i64 0, .int .i64 0, .int .i64 2, .int .i64 (-14), .int .i64 76, .int .i64 76, .int .i64 (-14), .int .i64 2, .int .i64 0]) 0 hs26 rfl rfl rfl rfl S90 (Nat.le_of_ble_eq_true rfl) rfl (fun w27 hs27 => ?_) True.intro)
        replace hs27 : HS _ [.blk b14 [.int .i64 0, .int .i64 0, .int .i64 0, .int .i64 128, .int .i64 0, .int .i64 0, .int .i64 0, .int .i64 0, .int .i64 0, .int .i64 2, .int .i64 (-6), .int .i64 126, .int .i64 8, .int .i64 (-2), .int .i64 0, .int .i64 0, .int .i64 0, .int .i64 2, .int .i64 (-10), .int .i64 122, .int .i64 18, .int .i64 (-4), .int .i64 0, .int .i64 0, .int .i64 0, .int .i64 2, .int .i64 (-12), .int .i64 116, .int .i64 28, .int .i64 (-8), .int .i64 2, .int .i64 0, .int .i64 0, .int .i64 2, .int .i64 (-14), .int .i64 110, .int .i64 38, .int .i64 (-10), .int .i64 2, .int .i64 0, .int .i64 0, .int .i64 2, .int .i64 (-14), .int .i64 102, .int .i64 48, .int .i64 (-12), .int .i64 2, .int .i64 0, .int .i64 0, .int .i64 2, .int .i64 (-16), .int .i64 94, .int .i64 58, .int .i64 (-12), .int .i64 2, .int .i64 0, .int .i64 0, .int .i64 2, .int .i64 (-14), .int .i64 84, .int .i64 66, .int .i64 (-12), .int .i64 2, .int .i64 0, .int .i64 0, .int .i64 2, .int .i64 (-14), .int .i64 76, .int .i64 76, .int .i64 (-14), .int .i64 2, .int .i64 0] 90, .blk _ [_, _, _, _, _, _, _, _] _] _ := hs27
        refine Ops.nil ?_
        refine k18 _ _ ?_
        refine run_seq fun K28 k28 => ?_
        refine run_seq fun K29 k29 => ?_
        refine run_region ?_
        refine Ops.v (Yv.move rfl) ?_
        refine Ops.v (Yv.lt rfl rfl) ?_
        refine Ops.nil ?_
        refine k29 _ _ ?_
        refine run_ifp rfl (fun h30 => ?_) (fun h30 => ?_)
        · -- yes q < (9 : Int)
          refine run_seq fun K31 k31 => ?_
          refine run_region ?_
          refine Ops.v (Yv.move rfl) ?_
          refine Ops.v (Yv.idxa (o' := (q).toNat * 8) R90 rfl rfl (by omega) (by omega) (ho := by omega)) ?_
          refine Ops.v (Yv.loadn (cs := [.int .i64 (gi (sharpT.getD q.toNat []) 0), .int .i64 (gi (sharpT.getD q.toNat []) 1), .int .i64 (gi (sharpT.getD q.toNat []) 2), .int .i64 (gi (sharpT.getD q.toNat []) 3), .int .i64 (gi (sharpT.getD q.toNat []) 4), .int .i64 (gi (sharpT.getD q.toNat []) 5), .int .i64 (gi (sharpT.getD q.toNat []) 6), .int .i64 (gi (sharpT.getD q.toNat []) 7)]) A81 S81 rfl (now (cells8 (hs27.cells 0 rfl ((q).toNat * 8) 8) (part8 (T := sharpT) (by first | exact .inl rfl | exact .inr rfl) (by omega) (by omega))))) ?_
          refine Ops.s (Step.store (vs := [.int .i64 (gi (sharpT.getD q.toNat []) 0), .int .i64 (gi (sharpT.getD q.toNat []) 1), .int .i64 (gi (sharpT.getD q.toNat []) 2), .int .i64 (gi (sharpT.getD q.toNat []) 3), .int .i64 (gi (sharpT.getD q.toNat []) 4), .int .i64 (gi (sharpT.getD q.toNat []) 5), .int .i64 (gi (sharpT.getD q.toNat []) 6), .int .i64 (gi (sharpT.getD q.toNat []) 7)]) 1 hs27 rfl rfl rfl rfl S81 (Nat.le_of_ble_eq_true rfl) rfl (fun w32 hs32 => ?_) True.intro)
          replace hs32 : HS _ [.blk b14 [.int .i64 0, .int .i64 0, .int .i64 0, .int .i64 128, .int .i64 0, .int .i64 0, .int .i64 0, .int .i64 0, .int .i64 0, .int .i64 2, .int .i64 (-6), .int .i64 126, .int .i64 8, .int .i64 (-2), .int .i64 0, .int .i64 0, .int .i64 0, .int .i64 2, .int .i64 (-10), .int .i64 122, .int .i64 18, .int .i64 (-4), .int .i64 0, .int .i64 0, .int .i64 0, .int .i64 2, .int .i64 (-12), .int .i64 116, .int .i64 28, .int .i64 (-8), .int .i64 2, .int .i64 0, .int .i64 0, .int .i64 2, .int .i64 (-14), .int .i64 110, .int .i64 38, .int .i64 (-10), .int .i64 2, .int .i64 0, .int .i64 0, .int .i64 2, .int .i64 (-14), .int .i64 102, .int .i64 48, .int .i64 (-12), .int .i64 2, .int .i64 0, .int .i64 0, .int .i64 2, .int .i64 (-16), .int .i64 94, .int .i64 58, .int .i64 (-12), .int .i64 2, .int .i64 0, .int .i64 0, .int .i64 2, .int .i64 (-14), .int .i64 84, .int .i64 66, .int .i64 (-12), .int .i64 2, .int .i64 0, .int .i64 0, .int .i64 2, .int .i64 (-14), .int .i64 76, .int .i64 76, .int .i64 (-14), .int .i64 2, .int .i64 0] 90, .blk _ [_, _, _, _, _, _, _, _] _] _ := hs32
          refine Ops.v (Yv.assign rfl) ?_
          refine Ops.nil ?_
          refine k31 _ _ ?_
          refine run_ret ?_
          refine ⟨[.agg #[.int .i64 (gi (sharpT.getD q.toNat []) 0), .int .i64 (gi (sharpT.getD q.toNat []) 1), .int .i64 (gi (sharpT.getD q.toNat []) 2), .int .i64 (gi (sharpT.getD q.toNat []) 3), .int .i64 (gi (sharpT.getD q.toNat []) 4), .int .i64 (gi (sharpT.getD q.toNat []) 5), .int .i64 (gi (sharpT.getD q.toNat []) 6), .int .i64 (gi (sharpT.getD q.toNat []) 7)], .int .i64 0], ⟨_, _, _, rfl, rfl, run_loadn (cs := [.int .i64 (gi (sharpT.getD q.toNat []) 0), .int .i64 (gi (sharpT.getD q.toNat []) 1), .int .i64 (gi (sharpT.getD q.toNat []) 2), .int .i64 (gi (sharpT.getD q.toNat []) 3), .int .i64 (gi (sharpT.getD q.toNat []) 4), .int .i64 (gi (sharpT.getD q.toNat []) 5), .int .i64 (gi (sharpT.getD q.toNat []) 6), .int .i64 (gi (sharpT.getD q.toNat []) 7)]) A81 S81 (hs32.cells 1 rfl 0 8), ⟨_, _, rfl, rfl, rfl⟩⟩, ?_⟩
          obtain ⟨e1, e2⟩ := taps_ok (kd := kd) (q := q) (by omega)
          rw [e1, e2]
          rw [taps_lo (by omega) (by omega)]
          have hh : halfF kd = sharpT := by rw [halfF, if_neg (by omega)]
          rw [hh]
          exact ⟨rfl, hs32.pick [] _ (by decide) rfl⟩
        · -- no
          refine run_skip ?_
          refine k28 _ _ ?_
          refine run_seq fun K33 k33 => ?_
          refine run_region ?_
          refine Ops.v (Yv.move rfl) ?_
          refine Ops.v (Yv.sub rfl rfl (by omega)) ?_
          refine Ops.v (Yv.idxa (o' := ((16 : Int) - q).toNat * 8) R90 rfl rfl (by omega) (by omega) (ho := by omega)) ?_
          refine Ops.v (Yv.loadn (cs := [.int .i64 (gi (sharpT.getD ((16 : Int) - q).toNat []) 0), .int .i64 (gi (sharpT.getD ((16 : Int) - q).toNat []) 1), .int .i64 (gi (sharpT.getD ((16 : Int) - q).toNat []) 2), .int .i64 (gi (sharpT.getD ((16 : Int) - q).toNat []) 3), .int .i64 (gi (sharpT.getD ((16 : Int) - q).toNat []) 4), .int .i64 (gi (sharpT.getD ((16 : Int) - q).toNat []) 5), .int .i64 (gi (sharpT.getD ((16 : Int) - q).toNat []) 6), .int .i64 (gi (sharpT.getD ((16 : Int) - q).toNat []) 7)]) A81 S81 rfl (now (cells8 (hs27.cells 0 rfl (((16 : Int) - q).toNat * 8) 8) (part8 (T := sharpT) (by first | exact .inl rfl | exact .inr rfl) (by omega) (by omega))))) ?_
          refine Ops.s (Step.alloc (cs := [.int .i64 0, .int .i64 0, .int .i64 0, .int .i64 0, .int .i64 0, .int .i64 0, .int .i64 0, .int .i64 0]) hs27 Z81 rfl (fun b34 w35 hs35 hb35 => ?_) True.intro (by rfl))
          refine Ops.s (Step.store (vs := [.int .i64 (gi (sharpT.getD ((16 : Int) - q).toNat []) 0), .int .i64 (gi (sharpT.getD ((16 : Int) - q).toNat []) 1), .int .i64 (gi (sharpT.getD ((16 : Int) - q).toNat []) 2), .int .i64 (gi (sharpT.getD ((16 : Int) - q).toNat []) 3), .int .i64 (gi (sharpT.getD ((16 : Int) - q).toNat []) 4), .int .i64 (gi (sharpT.getD ((16 : Int) - q).toNat []) 5), .int .i64 (gi (sharpT.getD ((16 : Int) - q).toNat []) 6), .int .i64 (gi (sharpT.getD ((16 : Int) - q).toNat []) 7)]) 0 hs35 rfl rfl rfl rfl S81 (Nat.le_of_ble_eq_true rfl) rfl (fun w37 hs37 => ?_) True.intro)
          replace hs37 : HS _ [.blk _ [_, _, _, _, _, _, _, _] _, .blk b14 [.int .i64 0, .int .i64 0, .int .i64 0, .int .i64 128, .int .i64 0, .int .i64 0, .int .i64 0, .int .i64 0, .int .i64 0, .int .i64 2, .int .i64 (-6), .int .i64 126, .int .i64 8, .int .i64 (-2), .int .i64 0, .int .i64 0, .int .i64 0, .int .i64 2, .int .i64 (-10), .int .i64 122, .int .i64 18, .int .i64 (-4), .int .i64 0, .int .i64 0, .int .i64 0, .int .i64 2, .int .i64 (-12), .int .i64 116, .int .i64 28, .int .i64 (-8), .int .i64 2, .int .i64 0, .int .i64 0, .int .i64 2, .int .i64 (-14), .int .i64 110, .int .i64 38, .int .i64 (-10), .int .i64 2, .int .i64 0, .int .i64 0, .int .i64 2, .int .i64 (-14), .int .i64 102, .int .i64 48, .int .i64 (-12), .int .i64 2, .int .i64 0, .int .i64 0, .int .i64 2, .int .i64 (-16), .int .i64 94, .int .i64 58, .int .i64 (-12), .int .i64 2, .int .i64 0, .int .i64 0, .int .i64 2, .int .i64 (-14), .int .i64 84, .int .i64 66, .int .i64 (-12), .int .i64 2, .int .i64 0, .int .i64 0, .int .i64 2, .int .i64 (-14), .int .i64 76, .int .i64 76, .int .i64 (-14), .int .i64 2, .int .i64 0] 90, .blk _ [_, _, _, _, _, _, _, _] _] _ := hs37
          refine Ops.nil ?_
          refine k33 _ _ ?_
          refine run_seq fun K38 k38 => ?_
          refine run_region ?_
          refine Ops.v (Yv.arrAll R81 rfl) ?_
          refine Ops.s (Step.call rfl rfl (reverse8_fun (hs37.pick [0, 1, 2] [.blk b34 [.int .i64 (gi (sharpT.getD ((16 : Int) - q).toNat []) 0), .int .i64 (gi (sharpT.getD ((16 : Int) - q).toNat []) 1), .int .i64 (gi (sharpT.getD ((16 : Int) - q).toNat []) 2), .int .i64 (gi (sharpT.getD ((16 : Int) - q).toNat []) 3), .int .i64 (gi (sharpT.getD ((16 : Int) - q).toNat []) 4), .int .i64 (gi (sharpT.getD ((16 : Int) - q).toNat []) 5), .int .i64 (gi (sharpT.getD ((16 : Int) - q).toNat []) 6), .int .i64 (gi (sharpT.getD ((16 : Int) - q).toNat []) 7)] 81, .blk b14 [.int .i64 0, .int .i64 0, .int .i64 0, .int .i64 128, .int .i64 0, .int .i64 0, .int .i64 0, .int .i64 0, .int .i64 0, .int .i64 2, .int .i64 (-6), .int .i64 126, .int .i64 8, .int .i64 (-2), .int .i64 0, .int .i64 0, .int .i64 0, .int .i64 2, .int .i64 (-10), .int .i64 122, .int .i64 18, .int .i64 (-4), .int .i64 0, .int .i64 0, .int .i64 0, .int .i64 2, .int .i64 (-12), .int .i64 116, .int .i64 28, .int .i64 (-8), .int .i64 2, .int .i64 0, .int .i64 0, .int .i64 2, .int .i64 (-14), .int .i64 110, .int .i64 38, .int .i64 (-10), .int .i64 2, .int .i64 0, .int .i64 0, .int .i64 2, .int .i64 (-14), .int .i64 102, .int .i64 48, .int .i64 (-12), .int .i64 2, .int .i64 0, .int .i64 0, .int .i64 2, .int .i64 (-16), .int .i64 94, .int .i64 58, .int .i64 (-12), .int .i64 2, .int .i64 0, .int .i64 0, .int .i64 2, .int .i64 (-14), .int .i64 84, .int .i64 66, .int .i64 (-12), .int .i64 2, .int .i64 0, .int .i64 0, .int .i64 2, .int .i64 (-14), .int .i64 76, .int .i64 76, .int .i64 (-14), .int .i64 2, .int .i64 0] 90, .blk b2 [.int .i64 0, .int .i64 0, .int .i64 0, .int .i64 0, .int .i64 0, .int .i64 0, .int .i64 0, .int .i64 0] 81] (by decide) rfl)) (?_) True.intro (by rfl))
          rintro _ w39 ⟨rfl, hs39⟩
          refine Ops.nil ?_
          refine k38 _ _ ?_
          refine run_seq fun K40 k40 => ?_
          refine run_region ?_
          refine Ops.v (Yv.loadn (cs := [.int .i64 (gi (sharpT.getD ((16 : Int) - q).toNat []) 7), .int .i64 (gi (sharpT.getD ((16 : Int) - q).toNat []) 6), .int .i64 (gi (sharpT.getD ((16 : Int) - q).toNat []) 5), .int .i64 (gi (sharpT.getD ((16 : Int) - q).toNat []) 4), .int .i64 (gi (sharpT.getD ((16 : Int) - q).toNat []) 3), .int .i64 (gi (sharpT.getD ((16 : Int) - q).toNat []) 2), .int .i64 (gi (sharpT.getD ((16 : Int) - q).toNat []) 1), .int .i64 (gi (sharpT.getD ((16 : Int) - q).toNat []) 0)]) A81 S81 rfl (now (hs39.cells 0 rfl 0 8))) ?_
          refine Ops.s (Step.store (vs := [.int .i64 (gi (sharpT.getD ((16 : Int) - q).toNat []) 7), .int .i64 (gi (sharpT.getD ((16 : Int) - q).toNat []) 6), .int .i64 (gi (sharpT.getD ((16 : Int) - q).toNat []) 5), .int .i64 (gi (sharpT.getD ((16 : Int) - q).toNat []) 4), .int .i64 (gi (sharpT.getD ((16 : Int) - q).toNat []) 3), .int .i64 (gi (sharpT.getD ((16 : Int) - q).toNat []) 2), .int .i64 (gi (sharpT.getD ((16 : Int) - q).toNat []) 1), .int .i64 (gi (sharpT.getD ((16 : Int) - q).toNat []) 0)]) 2 hs39 rfl rfl rfl rfl S81 (Nat.le_of_ble_eq_true rfl) rfl (fun w41 hs41 => ?_) True.intro)
          replace hs41 : HS _ [.blk _ [_, _, _, _, _, _, _, _] _, .blk b14 [.int .i64 0, .int .i64 0, .int .i64 0, .int .i64 128, .int .i64 0, .int .i64 0, .int .i64 0, .int .i64 0, .int .i64 0, .int .i64 2, .int .i64 (-6), .int .i64 126, .int .i64 8, .int .i64 (-2), .int .i64 0, .int .i64 0, .int .i64 0, .int .i64 2, .int .i64 (-10), .int .i64 122, .int .i64 18, .int .i64 (-4), .int .i64 0, .int .i64 0, .int .i64 0, .int .i64 2, .int .i64 (-12), .int .i64 116, .int .i64 28, .int .i64 (-8), .int .i64 2, .int .i64 0, .int .i64 0, .int .i64 2, .int .i64 (-14), .int .i64 110, .int .i64 38, .int .i64 (-10), .int .i64 2, .int .i64 0, .int .i64 0, .int .i64 2, .int .i64 (-14), .int .i64 102, .int .i64 48, .int .i64 (-12), .int .i64 2, .int .i64 0, .int .i64 0, .int .i64 2, .int .i64 (-16), .int .i64 94, .int .i64 58, .int .i64 (-12), .int .i64 2, .int .i64 0, .int .i64 0, .int .i64 2, .int .i64 (-14), .int .i64 84, .int .i64 66, .int .i64 (-12), .int .i64 2, .int .i64 0, .int .i64 0, .int .i64 2, .int .i64 (-14), .int .i64 76, .int .i64 76, .int .i64 (-14), .int .i64 2, .int .i64 0] 90, .blk _ [_, _, _, _, _, _, _, _] _] _ := hs41
          refine Ops.v (Yv.assign rfl) ?_
          refine Ops.nil ?_
          refine k40 _ _ ?_
          refine run_ret ?_
          refine ⟨[.agg #[.int .i64 (gi (sharpT.getD ((16 : Int) - q).toNat []) 7), .int .i64 (gi (sharpT.getD ((16 : Int) - q).toNat []) 6), .int .i64 (gi (sharpT.getD ((16 : Int) - q).toNat []) 5), .int .i64 (gi (sharpT.getD ((16 : Int) - q).toNat []) 4), .int .i64 (gi (sharpT.getD ((16 : Int) - q).toNat []) 3), .int .i64 (gi (sharpT.getD ((16 : Int) - q).toNat []) 2), .int .i64 (gi (sharpT.getD ((16 : Int) - q).toNat []) 1), .int .i64 (gi (sharpT.getD ((16 : Int) - q).toNat []) 0)], .int .i64 0], ⟨_, _, _, rfl, rfl, run_loadn (cs := [.int .i64 (gi (sharpT.getD ((16 : Int) - q).toNat []) 7), .int .i64 (gi (sharpT.getD ((16 : Int) - q).toNat []) 6), .int .i64 (gi (sharpT.getD ((16 : Int) - q).toNat []) 5), .int .i64 (gi (sharpT.getD ((16 : Int) - q).toNat []) 4), .int .i64 (gi (sharpT.getD ((16 : Int) - q).toNat []) 3), .int .i64 (gi (sharpT.getD ((16 : Int) - q).toNat []) 2), .int .i64 (gi (sharpT.getD ((16 : Int) - q).toNat []) 1), .int .i64 (gi (sharpT.getD ((16 : Int) - q).toNat []) 0)]) A81 S81 (hs41.cells 2 rfl 0 8), ⟨_, _, rfl, rfl, rfl⟩⟩, ?_⟩
          obtain ⟨e1, e2⟩ := taps_ok (kd := kd) (q := q) (by omega)
          rw [e1, e2]
          have hh : halfF kd = sharpT := by rw [halfF, if_neg (by omega)]
          have th := fun i h0 h1 => taps_hi (kd := kd) (q := q) (by omega) (by omega) (by omega) i h0 h1
          rw [hh] at th
          exact ⟨congrArg (fun z => Value.tuple #[z, .int .i64 0]) (agg8 (th 0 (by decide) (by decide)).symm (th 1 (by decide) (by decide)).symm (th 2 (by decide) (by decide)).symm (th 3 (by decide) (by decide)).symm (th 4 (by decide) (by decide)).symm (th 5 (by decide) (by decide)).symm (th 6 (by decide) (by decide)).symm (th 7 (by decide) (by decide)).symm), hs41.pick [] _ (by decide) rfl⟩
      · -- no
        refine run_seq fun K42 k42 => ?_
        refine run_region ?_
        refine Ops.v (Yv.eq rfl rfl) ?_
        refine Ops.v (Yv.assign rfl) ?_
        refine Ops.nil ?_
        refine k42 _ _ ?_
        refine run_ifp rfl (fun h43 => ?_) (fun h43 => ?_)
        · -- yes kd = (1 : Int)
          refine run_skip ?_
          refine k18 _ _ ?_
          refine run_seq fun K44 k44 => ?_
          refine run_seq fun K45 k45 => ?_
          refine run_region ?_
          refine Ops.v (Yv.move rfl) ?_
          refine Ops.v (Yv.lt rfl rfl) ?_
          refine Ops.nil ?_
          refine k45 _ _ ?_
          refine run_ifp rfl (fun h46 => ?_) (fun h46 => ?_)
          · -- yes q < (9 : Int)
            refine run_seq fun K47 k47 => ?_
            refine run_region ?_
            refine Ops.v (Yv.move rfl) ?_
            refine Ops.v (Yv.idxa (o' := (q).toNat * 8) R90 rfl rfl (by omega) (by omega) (ho := by omega)) ?_
            refine Ops.v (Yv.loadn (cs := [.int .i64 (gi (softT.getD q.toNat []) 0), .int .i64 (gi (softT.getD q.toNat []) 1), .int .i64 (gi (softT.getD q.toNat []) 2), .int .i64 (gi (softT.getD q.toNat []) 3), .int .i64 (gi (softT.getD q.toNat []) 4), .int .i64 (gi (softT.getD q.toNat []) 5), .int .i64 (gi (softT.getD q.toNat []) 6), .int .i64 (gi (softT.getD q.toNat []) 7)]) A81 S81 rfl (now (cells8 (hs17.cells 0 rfl ((q).toNat * 8) 8) (part8 (T := softT) (by first | exact .inl rfl | exact .inr rfl) (by omega) (by omega))))) ?_
            refine Ops.s (Step.store (vs := [.int .i64 (gi (softT.getD q.toNat []) 0), .int .i64 (gi (softT.getD q.toNat []) 1), .int .i64 (gi (softT.getD q.toNat []) 2), .int .i64 (gi (softT.getD q.toNat []) 3), .int .i64 (gi (softT.getD q.toNat []) 4), .int .i64 (gi (softT.getD q.toNat []) 5), .int .i64 (gi (softT.getD q.toNat []) 6), .int .i64 (gi (softT.getD q.toNat []) 7)]) 1 hs17 rfl rfl rfl rfl S81 (Nat.le_of_ble_eq_true rfl) rfl (fun w48 hs48 => ?_) True.intro)
            replace hs48 : HS _ [.blk b14 [.int .i64 0, .int .i64 0, .int .i64 0, .int .i64 128, .int .i64 0, .int .i64 0, .int .i64 0, .int .i64 0, .int .i64 0, .int .i64 2, .int .i64 28, .int .i64 62, .int .i64 34, .int .i64 2, .int .i64 0, .int .i64 0, .int .i64 0, .int .i64 0, .int .i64 26, .int .i64 62, .int .i64 36, .int .i64 4, .int .i64 0, .int .i64 0, .int .i64 0, .int .i64 0, .int .i64 22, .int .i64 62, .int .i64 40, .int .i64 4, .int .i64 0, .int .i64 0, .int .i64 0, .int .i64 0, .int .i64 20, .int .i64 60, .int .i64 42, .int .i64 6, .int .i64 0, .int .i64 0, .int .i64 0, .int .i64 0, .int .i64 18, .int .i64 58, .int .i64 44, .int .i64 8, .int .i64 0, .int .i64 0, .int .i64 0, .int .i64 0, .int .i64 16, .int .i64 56, .int .i64 46, .int .i64 10, .int .i64 0, .int .i64 0, .int .i64 0, .int .i64 (-2), .int .i64 16, .int .i64 54, .int .i64 48, .int .i64 12, .int .i64 0, .int .i64 0, .int .i64 0, .int .i64 (-2), .int .i64 14, .int .i64 52, .int .i64 52, .int .i64 14, .int .i64 (-2), .int .i64 0] 90, .blk _ [_, _, _, _, _, _, _, _] _] _ := hs48
            refine Ops.v (Yv.assign rfl) ?_
            refine Ops.nil ?_
            refine k47 _ _ ?_
            refine run_ret ?_
            refine ⟨[.agg #[.int .i64 (gi (softT.getD q.toNat []) 0), .int .i64 (gi (softT.getD q.toNat []) 1), .int .i64 (gi (softT.getD q.toNat []) 2), .int .i64 (gi (softT.getD q.toNat []) 3), .int .i64 (gi (softT.getD q.toNat []) 4), .int .i64 (gi (softT.getD q.toNat []) 5), .int .i64 (gi (softT.getD q.toNat []) 6), .int .i64 (gi (softT.getD q.toNat []) 7)], .int .i64 0], ⟨_, _, _, rfl, rfl, run_loadn (cs := [.int .i64 (gi (softT.getD q.toNat []) 0), .int .i64 (gi (softT.getD q.toNat []) 1), .int .i64 (gi (softT.getD q.toNat []) 2), .int .i64 (gi (softT.getD q.toNat []) 3), .int .i64 (gi (softT.getD q.toNat []) 4), .int .i64 (gi (softT.getD q.toNat []) 5), .int .i64 (gi (softT.getD q.toNat []) 6), .int .i64 (gi (softT.getD q.toNat []) 7)]) A81 S81 (hs48.cells 1 rfl 0 8), ⟨_, _, rfl, rfl, rfl⟩⟩, ?_⟩
            obtain ⟨e1, e2⟩ := taps_ok (kd := kd) (q := q) (by omega)
            rw [e1, e2]
            rw [taps_lo (by omega) (by omega)]
            have hh : halfF kd = softT := by rw [halfF, if_pos (by omega)]
            rw [hh]
            exact ⟨rfl, hs48.pick [] _ (by decide) rfl⟩
          · -- no
            refine run_skip ?_
            refine k44 _ _ ?_
            refine run_seq fun K49 k49 => ?_
            refine run_region ?_
            refine Ops.v (Yv.move rfl) ?_
            refine Ops.v (Yv.sub rfl rfl (by omega)) ?_
            refine Ops.v (Yv.idxa (o' := ((16 : Int) - q).toNat * 8) R90 rfl rfl (by omega) (by omega) (ho := by omega)) ?_
            refine Ops.v (Yv.loadn (cs := [.int .i64 (gi (softT.getD ((16 : Int) - q).toNat []) 0), .int .i64 (gi (softT.getD ((16 : Int) - q).toNat []) 1), .int .i64 (gi (softT.getD ((16 : Int) - q).toNat []) 2), .int .i64 (gi (softT.getD ((16 : Int) - q).toNat []) 3), .int .i64 (gi (softT.getD ((16 : Int) - q).toNat []) 4), .int .i64 (gi (softT.getD ((16 : Int) - q).toNat []) 5), .int .i64 (gi (softT.getD ((16 : Int) - q).toNat []) 6), .int .i64 (gi (softT.getD ((16 : Int) - q).toNat []) 7)]) A81 S81 rfl (now (cells8 (hs17.cells 0 rfl (((16 : Int) - q).toNat * 8) 8) (part8 (T := softT) (by first | exact .inl rfl | exact .inr rfl) (by omega) (by omega))))) ?_
            refine Ops.s (Step.alloc (cs := [.int .i64 0, .int .i64 0, .int .i64 0, .int .i64 0, .int .i64 0, .int .i64 0, .int .i64 0, .int .i64 0]) hs17 Z81 rfl (fun b50 w51 hs51 hb51 => ?_) True.intro (by rfl))
            refine Ops.s (Step.store (vs := [.int .i64 (gi (softT.getD ((16 : Int) - q).toNat []) 0), .int .i64 (gi (softT.getD ((16 : Int) - q).toNat []) 1), .int .i64 (gi (softT.getD ((16 : Int) - q).toNat []) 2), .int .i64 (gi (softT.getD ((16 : Int) - q).toNat []) 3), .int .i64 (gi (softT.getD ((16 : Int) - q).toNat []) 4), .int .i64 (gi (softT.getD ((16 : Int) - q).toNat []) 5), .int .i64 (gi (softT.getD ((16 : Int) - q).toNat []) 6), .int .i64 (gi (softT.getD ((16 : Int) - q).toNat []) 7)]) 0 hs51 rfl rfl rfl rfl S81 (Nat.le_of_ble_eq_true rfl) rfl (fun w53 hs53 => ?_) True.intro)
            replace hs53 : HS _ [.blk _ [_, _, _, _, _, _, _, _] _, .blk b14 [.int .i64 0, .int .i64 0, .int .i64 0, .int .i64 128, .int .i64 0, .int .i64 0, .int .i64 0, .int .i64 0, .int .i64 0, .int .i64 2, .int .i64 28, .int .i64 62, .int .i64 34, .int .i64 2, .int .i64 0, .int .i64 0, .int .i64 0, .int .i64 0, .int .i64 26, .int .i64 62, .int .i64 36, .int .i64 4, .int .i64 0, .int .i64 0, .int .i64 0, .int .i64 0, .int .i64 22, .int .i64 62, .int .i64 40, .int .i64 4, .int .i64 0, .int .i64 0, .int .i64 0, .int .i64 0, .int .i64 20, .int .i64 60, .int .i64 42, .int .i64 6, .int .i64 0, .int .i64 0, .int .i64 0, .int .i64 0, .int .i64 18, .int .i64 58, .int .i64 44, .int .i64 8, .int .i64 0, .int .i64 0, .int .i64 0, .int .i64 0, .int .i64 16, .int .i64 56, .int .i64 46, .int .i64 10, .int .i64 0, .int .i64 0, .int .i64 0, .int .i64 (-2), .int .i64 16, .int .i64 54, .int .i64 48, .int .i64 12, .int .i64 0, .int .i64 0, .int .i64 0, .int .i64 (-2), .int .i64 14, .int .i64 52, .int .i64 52, .int .i64 14, .int .i64 (-2), .int .i64 0] 90, .blk _ [_, _, _, _, _, _, _, _] _] _ := hs53
            refine Ops.nil ?_
            refine k49 _ _ ?_
            refine run_seq fun K54 k54 => ?_
            refine run_region ?_
            refine Ops.v (Yv.arrAll R81 rfl) ?_
            refine Ops.s (Step.call rfl rfl (reverse8_fun (hs53.pick [0, 1, 2] [.blk b50 [.int .i64 (gi (softT.getD ((16 : Int) - q).toNat []) 0), .int .i64 (gi (softT.getD ((16 : Int) - q).toNat []) 1), .int .i64 (gi (softT.getD ((16 : Int) - q).toNat []) 2), .int .i64 (gi (softT.getD ((16 : Int) - q).toNat []) 3), .int .i64 (gi (softT.getD ((16 : Int) - q).toNat []) 4), .int .i64 (gi (softT.getD ((16 : Int) - q).toNat []) 5), .int .i64 (gi (softT.getD ((16 : Int) - q).toNat []) 6), .int .i64 (gi (softT.getD ((16 : Int) - q).toNat []) 7)] 81, .blk b14 [.int .i64 0, .int .i64 0, .int .i64 0, .int .i64 128, .int .i64 0, .int .i64 0, .int .i64 0, .int .i64 0, .int .i64 0, .int .i64 2, .int .i64 28, .int .i64 62, .int .i64 34, .int .i64 2, .int .i64 0, .int .i64 0, .int .i64 0, .int .i64 0, .int .i64 26, .int .i64 62, .int .i64 36, .int .i64 4, .int .i64 0, .int .i64 0, .int .i64 0, .int .i64 0, .int .i64 22, .int .i64 62, .int .i64 40, .int .i64 4, .int .i64 0, .int .i64 0, .int .i64 0, .int .i64 0, .int .i64 20, .int .i64 60, .int .i64 42, .int .i64 6, .int .i64 0, .int .i64 0, .int .i64 0, .int .i64 0, .int .i64 18, .int .i64 58, .int .i64 44, .int .i64 8, .int .i64 0, .int .i64 0, .int .i64 0, .int .i64 0, .int .i64 16, .int .i64 56, .int .i64 46, .int .i64 10, .int .i64 0, .int .i64 0, .int .i64 0, .int .i64 (-2), .int .i64 16, .int .i64 54, .int .i64 48, .int .i64 12, .int .i64 0, .int .i64 0, .int .i64 0, .int .i64 (-2), .int .i64 14, .int .i64 52, .int .i64 52, .int .i64 14, .int .i64 (-2), .int .i64 0] 90, .blk b2 [.int .i64 0, .int .i64 0, .int .i64 0, .int .i64 0, .int .i64 0, .int .i64 0, .int .i64 0, .int .i64 0] 81] (by decide) rfl)) (?_) True.intro (by rfl))
            rintro _ w55 ⟨rfl, hs55⟩
            refine Ops.nil ?_
            refine k54 _ _ ?_
            refine run_seq fun K56 k56 => ?_
            refine run_region ?_
            refine Ops.v (Yv.loadn (cs := [.int .i64 (gi (softT.getD ((16 : Int) - q).toNat []) 7), .int .i64 (gi (softT.getD ((16 : Int) - q).toNat []) 6), .int .i64 (gi (softT.getD ((16 : Int) - q).toNat []) 5), .int .i64 (gi (softT.getD ((16 : Int) - q).toNat []) 4), .int .i64 (gi (softT.getD ((16 : Int) - q).toNat []) 3), .int .i64 (gi (softT.getD ((16 : Int) - q).toNat []) 2), .int .i64 (gi (softT.getD ((16 : Int) - q).toNat []) 1), .int .i64 (gi (softT.getD ((16 : Int) - q).toNat []) 0)]) A81 S81 rfl (now (hs55.cells 0 rfl 0 8))) ?_
            refine Ops.s (Step.store (vs := [.int .i64 (gi (softT.getD ((16 : Int) - q).toNat []) 7), .int .i64 (gi (softT.getD ((16 : Int) - q).toNat []) 6), .int .i64 (gi (softT.getD ((16 : Int) - q).toNat []) 5), .int .i64 (gi (softT.getD ((16 : Int) - q).toNat []) 4), .int .i64 (gi (softT.getD ((16 : Int) - q).toNat []) 3), .int .i64 (gi (softT.getD ((16 : Int) - q).toNat []) 2), .int .i64 (gi (softT.getD ((16 : Int) - q).toNat []) 1), .int .i64 (gi (softT.getD ((16 : Int) - q).toNat []) 0)]) 2 hs55 rfl rfl rfl rfl S81 (Nat.le_of_ble_eq_true rfl) rfl (fun w57 hs57 => ?_) True.intro)
            replace hs57 : HS _ [.blk _ [_, _, _, _, _, _, _, _] _, .blk b14 [.int .i64 0, .int .i64 0, .int .i64 0, .int .i64 128, .int .i64 0, .int .i64 0, .int .i64 0, .int .i64 0, .int .i64 0, .int .i64 2, .int .i64 28, .int .i64 62, .int .i64 34, .int .i64 2, .int .i64 0, .int .i64 0, .int .i64 0, .int .i64 0, .int .i64 26, .int .i64 62, .int .i64 36, .int .i64 4, .int .i64 0, .int .i64 0, .int .i64 0, .int .i64 0, .int .i64 22, .int .i64 62, .int .i64 40, .int .i64 4, .int .i64 0, .int .i64 0, .int .i64 0, .int .i64 0, .int .i64 20, .int .i64 60, .int .i64 42, .int .i64 6, .int .i64 0, .int .i64 0, .int .i64 0, .int .i64 0, .int .i64 18, .int .i64 58, .int .i64 44, .int .i64 8, .int .i64 0, .int .i64 0, .int .i64 0, .int .i64 0, .int .i64 16, .int .i64 56, .int .i64 46, .int .i64 10, .int .i64 0, .int .i64 0, .int .i64 0, .int .i64 (-2), .int .i64 16, .int .i64 54, .int .i64 48, .int .i64 12, .int .i64 0, .int .i64 0, .int .i64 0, .int .i64 (-2), .int .i64 14, .int .i64 52, .int .i64 52, .int .i64 14, .int .i64 (-2), .int .i64 0] 90, .blk _ [_, _, _, _, _, _, _, _] _] _ := hs57
            refine Ops.v (Yv.assign rfl) ?_
            refine Ops.nil ?_
            refine k56 _ _ ?_
            refine run_ret ?_
            refine ⟨[.agg #[.int .i64 (gi (softT.getD ((16 : Int) - q).toNat []) 7), .int .i64 (gi (softT.getD ((16 : Int) - q).toNat []) 6), .int .i64 (gi (softT.getD ((16 : Int) - q).toNat []) 5), .int .i64 (gi (softT.getD ((16 : Int) - q).toNat []) 4), .int .i64 (gi (softT.getD ((16 : Int) - q).toNat []) 3), .int .i64 (gi (softT.getD ((16 : Int) - q).toNat []) 2), .int .i64 (gi (softT.getD ((16 : Int) - q).toNat []) 1), .int .i64 (gi (softT.getD ((16 : Int) - q).toNat []) 0)], .int .i64 0], ⟨_, _, _, rfl, rfl, run_loadn (cs := [.int .i64 (gi (softT.getD ((16 : Int) - q).toNat []) 7), .int .i64 (gi (softT.getD ((16 : Int) - q).toNat []) 6), .int .i64 (gi (softT.getD ((16 : Int) - q).toNat []) 5), .int .i64 (gi (softT.getD ((16 : Int) - q).toNat []) 4), .int .i64 (gi (softT.getD ((16 : Int) - q).toNat []) 3), .int .i64 (gi (softT.getD ((16 : Int) - q).toNat []) 2), .int .i64 (gi (softT.getD ((16 : Int) - q).toNat []) 1), .int .i64 (gi (softT.getD ((16 : Int) - q).toNat []) 0)]) A81 S81 (hs57.cells 2 rfl 0 8), ⟨_, _, rfl, rfl, rfl⟩⟩, ?_⟩
            obtain ⟨e1, e2⟩ := taps_ok (kd := kd) (q := q) (by omega)
            rw [e1, e2]
            have hh : halfF kd = softT := by rw [halfF, if_pos (by omega)]
            have th := fun i h0 h1 => taps_hi (kd := kd) (q := q) (by omega) (by omega) (by omega) i h0 h1
            rw [hh] at th
            exact ⟨congrArg (fun z => Value.tuple #[z, .int .i64 0]) (agg8 (th 0 (by decide) (by decide)).symm (th 1 (by decide) (by decide)).symm (th 2 (by decide) (by decide)).symm (th 3 (by decide) (by decide)).symm (th 4 (by decide) (by decide)).symm (th 5 (by decide) (by decide)).symm (th 6 (by decide) (by decide)).symm (th 7 (by decide) (by decide)).symm), hs57.pick [] _ (by decide) rfl⟩
        · -- no
          refine run_seq fun K58 k58 => ?_
          refine run_region ?_
          refine Ops.v (Yv.buildA (cs := #[.int .i64 0, .int .i64 0, .int .i64 0, .int .i64 0, .int .i64 0, .int .i64 0, .int .i64 0, .int .i64 0]) T81 rfl rfl) ?_
          refine Ops.s (Step.store (vs := [.int .i64 0, .int .i64 0, .int .i64 0, .int .i64 0, .int .i64 0, .int .i64 0, .int .i64 0, .int .i64 0]) 1 hs17 rfl rfl rfl rfl S81 (Nat.le_of_ble_eq_true rfl) rfl (fun w59 hs59 => ?_) True.intro)
          replace hs59 : HS _ [.blk b14 [.int .i64 0, .int .i64 0, .int .i64 0, .int .i64 128, .int .i64 0, .int .i64 0, .int .i64 0, .int .i64 0, .int .i64 0, .int .i64 2, .int .i64 28, .int .i64 62, .int .i64 34, .int .i64 2, .int .i64 0, .int .i64 0, .int .i64 0, .int .i64 0, .int .i64 26, .int .i64 62, .int .i64 36, .int .i64 4, .int .i64 0, .int .i64 0, .int .i64 0, .int .i64 0, .int .i64 22, .int .i64 62, .int .i64 40, .int .i64 4, .int .i64 0, .int .i64 0, .int .i64 0, .int .i64 0, .int .i64 20, .int .i64 60, .int .i64 42, .int .i64 6, .int .i64 0, .int .i64 0, .int .i64 0, .int .i64 0, .int .i64 18, .int .i64 58, .int .i64 44, .int .i64 8, .int .i64 0, .int .i64 0, .int .i64 0, .int .i64 0, .int .i64 16, .int .i64 56, .int .i64 46, .int .i64 10, .int .i64 0, .int .i64 0, .int .i64 0, .int .i64 (-2), .int .i64 16, .int .i64 54, .int .i64 48, .int .i64 12, .int .i64 0, .int .i64 0, .int .i64 0, .int .i64 (-2), .int .i64 14, .int .i64 52, .int .i64 52, .int .i64 14, .int .i64 (-2), .int .i64 0] 90, .blk _ [_, _, _, _, _, _, _, _] _] _ := hs59
          refine Ops.v (Yv.assign rfl) ?_
          refine Ops.nil ?_
          refine k58 _ _ ?_
          refine run_ret ?_
          refine ⟨[.agg #[.int .i64 0, .int .i64 0, .int .i64 0, .int .i64 0, .int .i64 0, .int .i64 0, .int .i64 0, .int .i64 0], .int .i64 2], ⟨_, _, _, rfl, rfl, run_loadn (cs := [.int .i64 0, .int .i64 0, .int .i64 0, .int .i64 0, .int .i64 0, .int .i64 0, .int .i64 0, .int .i64 0]) A81 S81 (hs59.cells 1 rfl 0 8), ⟨_, _, rfl, rfl, rfl⟩⟩, ?_⟩
          obtain ⟨e1, e2⟩ := taps_bad (kd := kd) (q := q) (by omega)
          rw [e1, e2]
          exact ⟨rfl, hs59.pick [] _ (by decide) rfl⟩

theorem half_fun {w : World} {kd q : Int} (hq : 0 ≤ q ∧ q < 9) : Fun Try.prog 68 [.int .i64 kd, .int .i64 q] w fun v w' => v = .agg #[.int .i64 (gi ((halfF kd).getD q.toNat []) 0), .int .i64 (gi ((halfF kd).getD q.toNat []) 1), .int .i64 (gi ((halfF kd).getD q.toNat []) 2), .int .i64 (gi ((halfF kd).getD q.toNat []) 3), .int .i64 (gi ((halfF kd).getD q.toNat []) 4), .int .i64 (gi ((halfF kd).getD q.toNat []) 5), .int .i64 (gi ((halfF kd).getD q.toNat []) 6), .int .i64 (gi ((halfF kd).getD q.toNat []) 7)] ∧ HS w [] w' := by
  refine fun_run (m := 35) (rs := [.cell 4 81]) Try.func68 rfl rfl rfl rfl rfl ?_
  have hs0 := HS.start w
  refine run_seq fun K1 k1 => ?_
  refine run_region ?_
  refine Ops.s (Step.alloc (cs := [.int .i64 0, .int .i64 0, .int .i64 0, .int .i64 0, .int .i64 0, .int .i64 0, .int .i64 0, .int .i64 0]) hs0 Z81 rfl (fun b2 w3 hs3 hb3 => ?_) True.intro (by rfl))
  refine Ops.nil ?_
  refine k1 _ _ ?_
  refine run_seq fun K5 k5 => ?_
  refine run_region ?_
  refine Ops.v (Yv.buildA (cs := #[.int .i64 0, .int .i64 0, .int .i64 0, .int .i64 128, .int .i64 0, .int .i64 0, .int .i64 0, .int .i64 0]) T81 rfl rfl) ?_
  refine Ops.v (Yv.buildA (cs := #[.int .i64 0, .int .i64 2, .int .i64 (-6), .int .i64 126, .int .i64 8, .int .i64 (-2), .int .i64 0, .int .i64 0]) T81 rfl rfl) ?_
  refine Ops.v (Yv.buildA (cs := #[.int .i64 0, .int .i64 2, .int .i64 (-10), .int .i64 122, .int .i64 18, .int .i64 (-4), .int .i64 0, .int .i64 0]) T81 rfl rfl) ?_
  refine Ops.v (Yv.buildA (cs := #[.int .i64 0, .int .i64 2, .int .i64 (-12), .int .i64 116, .int .i64 28, .int .i64 (-8), .int .i64 2, .int .i64 0]) T81 rfl rfl) ?_
  refine Ops.v (Yv.buildA (cs := #[.int .i64 0, .int .i64 2, .int .i64 (-14), .int .i64 110, .int .i64 38, .int .i64 (-10), .int .i64 2, .int .i64 0]) T81 rfl rfl) ?_
  refine Ops.v (Yv.buildA (cs := #[.int .i64 0, .int .i64 2, .int .i64 (-14), .int .i64 102, .int .i64 48, .int .i64 (-12), .int .i64 2, .int .i64 0]) T81 rfl rfl) ?_
  refine Ops.v (Yv.buildA (cs := #[.int .i64 0, .int .i64 2, .int .i64 (-16), .int .i64 94, .int .i64 58, .int .i64 (-12), .int .i64 2, .int .i64 0]) T81 rfl rfl) ?_
  refine Ops.v (Yv.buildA (cs := #[.int .i64 0, .int .i64 2, .int .i64 (-14), .int .i64 84, .int .i64 66, .int .i64 (-12), .int .i64 2, .int .i64 0]) T81 rfl rfl) ?_
  refine Ops.v (Yv.buildA (cs := #[.int .i64 0, .int .i64 2, .int .i64 (-14), .int .i64 76, .int .i64 76, .int .i64 (-14), .int .i64 2, .int .i64 0]) T81 rfl rfl) ?_
  refine Ops.v (Yv.buildA (cs := #[.int .i64 0, .int .i64 0, .int .i64 0, .int .i64 128, .int .i64 0, .int .i64 0, .int .i64 0, .int .i64 0, .int .i64 0, .int .i64 2, .int .i64 (-6), .int .i64 126, .int .i64 8, .int .i64 (-2), .int .i64 0, .int .i64 0, .int .i64 0, .int .i64 2, .int .i64 (-10), .int .i64 122, .int .i64 18, .int .i64 (-4), .int .i64 0, .int .i64 0, .int .i64 0, .int .i64 2, .int .i64 (-12), .int .i64 116, .int .i64 28, .int .i64 (-8), .int .i64 2, .int .i64 0, .int .i64 0, .int .i64 2, .int .i64 (-14), .int .i64 110, .int .i64 38, .int .i64 (-10), .int .i64 2, .int .i64 0, .int .i64 0, .int .i64 2, .int .i64 (-14), .int .i64 102, .int .i64 48, .int .i64 (-12), .int .i64 2, .int .i64 0, .int .i64 0, .int .i64 2, .int .i64 (-16), .int .i64 94, .int .i64 58, .int .i64 (-12), .int .i64 2, .int .i64 0, .int .i64 0, .int .i64 2, .int .i64 (-14), .int .i64 84, .int .i64 66, .int .i64 (-12), .int .i64 2, .int .i64 0, .int .i64 0, .int .i64 2, .int .i64 (-14), .int .i64 76, .int .i64 76, .int .i64 (-14), .int .i64 2, .int .i64 0]) T90 rfl rfl) ?_
  refine Ops.s (Step.alloc (cs := [.int .i64 0, .int .i64 0, .int .i64 0, .int .i64 0, .int .i64 0, .int .i64 0, .int .i64 0, .int .i64 0, .int .i64 0, .int .i64 0, .int .i64 0, .int .i64 0, .int .i64 0, .int .i64 0, .int .i64 0, .int .i64 0, .int .i64 0, .int .i64 0, .int .i64 0, .int .i64 0, .int .i64 0, .int .i64 0, .int .i64 0, .int .i64 0, .int .i64 0, .int .i64 0, .int .i64 0, .int .i64 0, .int .i64 0, .int .i64 0, .int .i64 0, .int .i64 0, .int .i64 0, .int .i64 0, .int .i64 0, .int .i64 0, .int .i64 0, .int .i64 0, .int .i64 0, .int .i64 0, .int .i64 0, .int .i64 0, .int .i64 0, .int .i64 0, .int .i64 0, .int .i64 0, .int .i64 0, .int .i64 0, .int .i64 0, .int .i64 0, .int .i64 0, .int .i64 0, .int .i64 0, .int .i64 0, .int .i64 0, .int .i64 0, .int .i64 0, .int .i64 0, .int .i64 0, .int .i64 0, .int .i64 0, .int .i64 0, .int .i64 0, .int .i64 0, .int .i64 0, .int .i64 0, .int .i64 0, .int .i64 0, .int .i64 0, .int .i64 0, .int .i64 0, .int .i64 0]) hs3 Z90 rfl (fun b6 w7 hs7 hb7 => ?_) True.intro (by rfl))
  refine Ops.s (Step.store (vs := [.int .i64 0, .int .i64 0, .int .i64 0, .int .i64 128, .int .i64 0, .int .i64 0, .int .i64 0, .int .i64 0, .int .i64 0, .int .i64 2, .int .i64 (-6), .int .i64 126, .int .i64 8, .int .i64 (-2), .int .i64 0, .int .i64 0, .int .i64 0, .int .i64 2, .int .i64 (-10), .int .i64 122, .int .i64 18, .int .i64 (-4), .int .i64 0, .int .i64 0, .int .i64 0, .int .i64 2, .int .i64 (-12), .int .i64 116, .int .i64 28, .int .i64 (-8), .int .i64 2, .int .i64 0, .int .i64 0, .int .i64 2, .int .i64 (-14), .int .i64 110, .int .i64 38, .int .i64 (-10), .int .i64 2, .int .i64 0, .int .i64 0, .int .i64 2, .int .i64 (-14), .int .i64 102, .int .i64 48, .int .i64 (-12), .int .i64 2, .int .i64 0, .int .i64 0, .int .i64 2, .int .i64 (-16), .int .i64 94, .int .i64 58, .int .i64 (-12), .int .i64 2, .int .i64 0, .int .i64 0, .int .i64 2, .int .i64 (-14), .int .i64 84, .int .i64 66, .int .i64 (-12), .int .i64 2, .int .i64 0, .int .i64 0, .int .i64 2, .int .i64 (-14), .int .i64 76, .int .i64 76, .int .i64 (-14), .int .i64 2, .int .i64 0]) 0 hs7 rfl rfl rfl rfl S90 (Nat.le_of_ble_eq_true rfl) rfl (fun w9 hs9 => ?_) True.intro)
  replace hs9 : HS _ [.blk b6 [.int .i64 0, .int .i64 0, .int .i64 0, .int .i64 128, .int .i64 0, .int .i64 0, .int .i64 0, .int .i64 0, .int .i64 0, .int .i64 2, .int .i64 (-6), .int .i64 126, .int .i64 8, .int .i64 (-2), .int .i64 0, .int .i64 0, .int .i64 0, .int .i64 2, .int .i64 (-10), .int .i64 122, .int .i64 18, .int .i64 (-4), .int .i64 0, .int .i64 0, .int .i64 0, .int .i64 2, .int .i64 (-12), .int .i64 116, .int .i64 28, .int .i64 (-8), .int .i64 2, .int .i64 0, .int .i64 0, .int .i64 2, .int .i64 (-14), .int .i64 110, .int .i64 38, .int .i64 (-10), .int .i64 2, .int .i64 0, .int .i64 0, .int .i64 2, .int .i64 (-14), .int .i64 102, .int .i64 48, .int .i64 (-12), .int .i64 2, .int .i64 0, .int .i64 0, .int .i64 2, .int .i64 (-16), .int .i64 94, .int .i64 58, .int .i64 (-12), .int .i64 2, .int .i64 0, .int .i64 0, .int .i64 2, .int .i64 (-14), .int .i64 84, .int .i64 66, .int .i64 (-12), .int .i64 2, .int .i64 0, .int .i64 0, .int .i64 2, .int .i64 (-14), .int .i64 76, .int .i64 76, .int .i64 (-14), .int .i64 2, .int .i64 0] 90, .blk _ [_, _, _, _, _, _, _, _] _] _ := hs9
  refine Ops.nil ?_
  refine k5 _ _ ?_
  refine run_seq fun K10 k10 => ?_
  refine run_region ?_
  refine Ops.v (Yv.buildA (cs := #[.int .i64 0, .int .i64 0, .int .i64 0, .int .i64 128, .int .i64 0, .int .i64 0, .int .i64 0, .int .i64 0]) T81 rfl rfl) ?_
  refine Ops.v (Yv.buildA (cs := #[.int .i64 0, .int .i64 2, .int .i64 28, .int .i64 62, .int .i64 34, .int .i64 2, .int .i64 0, .int .i64 0]) T81 rfl rfl) ?_
  refine Ops.v (Yv.buildA (cs := #[.int .i64 0, .int .i64 0, .int .i64 26, .int .i64 62, .int .i64 36, .int .i64 4, .int .i64 0, .int .i64 0]) T81 rfl rfl) ?_
  refine Ops.v (Yv.buildA (cs := #[.int .i64 0, .int .i64 0, .int .i64 22, .int .i64 62, .int .i64 40, .int .i64 4, .int .i64 0, .int .i64 0]) T81 rfl rfl) ?_
  refine Ops.v (Yv.buildA (cs := #[.int .i64 0, .int .i64 0, .int .i64 20, .int .i64 60, .int .i64 42, .int .i64 6, .int .i64 0, .int .i64 0]) T81 rfl rfl) ?_
  refine Ops.v (Yv.buildA (cs := #[.int .i64 0, .int .i64 0, .int .i64 18, .int .i64 58, .int .i64 44, .int .i64 8, .int .i64 0, .int .i64 0]) T81 rfl rfl) ?_
  refine Ops.v (Yv.buildA (cs := #[.int .i64 0, .int .i64 0, .int .i64 16, .int .i64 56, .int .i64 46, .int .i64 10, .int .i64 0, .int .i64 0]) T81 rfl rfl) ?_
  refine Ops.v (Yv.buildA (cs := #[.int .i64 0, .int .i64 (-2), .int .i64 16, .int .i64 54, .int .i64 48, .int .i64 12, .int .i64 0, .int .i64 0]) T81 rfl rfl) ?_
  refine Ops.v (Yv.buildA (cs := #[.int .i64 0, .int .i64 (-2), .int .i64 14, .int .i64 52, .int .i64 52, .int .i64 14, .int .i64 (-2), .int .i64 0]) T81 rfl rfl) ?_
  refine Ops.v (Yv.buildA (cs := #[.int .i64 0, .int .i64 0, .int .i64 0, .int .i64 128, .int .i64 0, .int .i64 0, .int .i64 0, .int .i64 0, .int .i64 0, .int .i64 2, .int .i64 28, .int .i64 62, .int .i64 34, .int .i64 2, .int .i64 0, .int .i64 0, .int .i64 0, .int .i64 0, .int .i64 26, .int .i64 62, .int .i64 36, .int .i64 4, .int .i64 0, .int .i64 0, .int .i64 0, .int .i64 0, .int .i64 22, .int .i64 62, .int .i64 40, .int .i64 4, .int .i64 0, .int .i64 0, .int .i64 0, .int .i64 0, .int .i64 20, .int .i64 60, .int .i64 42, .int .i64 6, .int .i64 0, .int .i64 0, .int .i64 0, .int .i64 0, .int .i64 18, .int .i64 58, .int .i64 44, .int .i64 8, .int .i64 0, .int .i64 0, .int .i64 0, .int .i64 0, .int .i64 16, .int .i64 56, .int .i64 46, .int .i64 10, .int .i64 0, .int .i64 0, .int .i64 0, .int .i64 (-2), .int .i64 16, .int .i64 54, .int .i64 48, .int .i64 12, .int .i64 0, .int .i64 0, .int .i64 0, .int .i64 (-2), .int .i64 14, .int .i64 52, .int .i64 52, .int .i64 14, .int .i64 (-2), .int .i64 0]) T90 rfl rfl) ?_
  refine Ops.s (Step.alloc (cs := [.int .i64 0, .int .i64 0, .int .i64 0, .int .i64 0, .int .i64 0, .int .i64 0, .int .i64 0, .int .i64 0, .int .i64 0, .int .i64 0, .int .i64 0, .int .i64 0, .int .i64 0, .int .i64 0, .int .i64 0, .int .i64 0, .int .i64 0, .int .i64 0, .int .i64 0, .int .i64 0, .int .i64 0, .int .i64 0, .int .i64 0, .int .i64 0, .int .i64 0, .int .i64 0, .int .i64 0, .int .i64 0, .int .i64 0, .int .i64 0, .int .i64 0, .int .i64 0, .int .i64 0, .int .i64 0, .int .i64 0, .int .i64 0, .int .i64 0, .int .i64 0, .int .i64 0, .int .i64 0, .int .i64 0, .int .i64 0, .int .i64 0, .int .i64 0, .int .i64 0, .int .i64 0, .int .i64 0, .int .i64 0, .int .i64 0, .int .i64 0, .int .i64 0, .int .i64 0, .int .i64 0, .int .i64 0, .int .i64 0, .int .i64 0, .int .i64 0, .int .i64 0, .int .i64 0, .int .i64 0, .int .i64 0, .int .i64 0, .int .i64 0, .int .i64 0, .int .i64 0, .int .i64 0, .int .i64 0, .int .i64 0, .int .i64 0, .int .i64 0, .int .i64 0, .int .i64 0]) hs9 Z90 rfl (fun b11 w12 hs12 hb12 => ?_) True.intro (by rfl))
  refine Ops.s (Step.store (vs := [.int .i64 0, .int .i64 0, .int .i64 0, .int .i64 128, .int .i64 0, .int .i64 0, .int .i64 0, .int .i64 0, .int .i64 0, .int .i64 2, .int .i64 28, .int .i64 62, .int .i64 34, .int .i64 2, .int .i64 0, .int .i64 0, .int .i64 0, .int .i64 0, .int .i64 26, .int .i64 62, .int .i64 36, .int .i64 4, .int .i64 0, .int .i64 0, .int .i64 0, .int .i64 0, .int .i64 22, .int .i64 62, .int .i64 40, .int .i64 4, .int .i64 0, .int .i64 0, .int .i64 0, .int .i64 0, .int .i64 20, .int .i64 60, .int .i64 42, .int .i64 6, .int .i64 0, .int .i64 0, .int .i64 0, .int .i64 0, .int .i64 18, .int .i64 58, .int .i64 44, .int .i64 8, .int .i64 0, .int .i64 0, .int .i64 0, .int .i64 0, .int .i64 16, .int .i64 56, .int .i64 46, .int .i64 10, .int .i64 0, .int .i64 0, .int .i64 0, .int .i64 (-2), .int .i64 16, .int .i64 54, .int .i64 48, .int .i64 12, .int .i64 0, .int .i64 0, .int .i64 0, .int .i64 (-2), .int .i64 14, .int .i64 52, .int .i64 52, .int .i64 14, .int .i64 (-2), .int .i64 0]) 0 hs12 rfl rfl rfl rfl S90 (Nat.le_of_ble_eq_true rfl) rfl (fun w14 hs14 => ?_) True.intro)
  replace hs14 : HS _ [.blk b11 [.int .i64 0, .int .i64 0, .int .i64 0, .int .i64 128, .int .i64 0, .int .i64 0, .int .i64 0, .int .i64 0, .int .i64 0, .int .i64 2, .int .i64 28, .int .i64 62, .int .i64 34, .int .i64 2, .int .i64 0, .int .i64 0, .int .i64 0, .int .i64 0, .int .i64 26, .int .i64 62, .int .i64 36, .int .i64 4, .int .i64 0, .int .i64 0, .int .i64 0, .int .i64 0, .int .i64 22, .int .i64 62, .int .i64 40, .int .i64 4, .int .i64 0, .int .i64 0, .int .i64 0, .int .i64 0, .int .i64 20, .int .i64 60, .int .i64 42, .int .i64 6, .int .i64 0, .int .i64 0, .int .i64 0, .int .i64 0, .int .i64 18, .int .i64 58, .int .i64 44, .int .i64 8, .int .i64 0, .int .i64 0, .int .i64 0, .int .i64 0, .int .i64 16, .int .i64 56, .int .i64 46, .int .i64 10, .int .i64 0, .int .i64 0, .int .i64 0, .int .i64 (-2), .int .i64 16, .int .i64 54, .int .i64 48, .int .i64 12, .int .i64 0, .int .i64 0, .int .i64 0, .int .i64 (-2), .int .i64 14, .int .i64 52, .int .i64 52, .int .i64 14, .int .i64 (-2), .int .i64 0] 90, .blk b6 [.int .i64 0, .int .i64 0, .int .i64 0, .int .i64 128, .int .i64 0, .int .i64 0, .int .i64 0, .int .i64 0, .int .i64 0, .int .i64 2, .int .i64 (-6), .int .i64 126, .int .i64 8, .int .i64 (-2), .int .i64 0, .int .i64 0, .int .i64 0, .int .i64 2, .int .i64 (-10), .int .i64 122, .int .i64 18, .int .i64 (-4), .int .i64 0, .int .i64 0, .int .i64 0, .int .i64 2, .int .i64 (-12), .int .i64 116, .int .i64 28, .int .i64 (-8), .int .i64 2, .int .i64 0, .int .i64 0, .int .i64 2, .int .i64 (-14), .int .i64 110, .int .i64 38, .int .i64 (-10), .int .i64 2, .int .i64 0, .int .i64 0, .int .i64 2, .int .i64 (-14), .int .i64 102, .int .i64 48, .int .i64 (-12), .int .i64 2, .int .i64 0, .int .i64 0, .int .i64 2, .int .i64 (-16), .int .i64 94, .int .i64 58, .int .i64 (-12), .int .i64 2, .int .i64 0, .int .i64 0, .int .i64 2, .int .i64 (-14), .int .i64 84, .int .i64 66, .int .i64 (-12), .int .i64 2, .int .i64 0, .int .i64 0, .int .i64 2, .int .i64 (-14), .int .i64 76, .int .i64 76, .int .i64 (-14), .int .i64 2, .int .i64 0] 90, .blk _ [_, _, _, _, _, _, _, _] _] _ := hs14
  refine Ops.nil ?_
  refine k10 _ _ ?_
  refine run_seq fun K15 k15 => ?_
  refine run_seq fun K16 k16 => ?_
  refine run_region ?_
  refine Ops.v (Yv.move rfl) ?_
  refine Ops.v (Yv.eq rfl rfl) ?_
  refine Ops.nil ?_
  refine k16 _ _ ?_
  refine run_ifp rfl (fun h17 => ?_) (fun h17 => ?_)
  · -- yes kd = (1 : Int)
    refine run_seq fun K18 k18 => ?_
    refine run_region ?_
    refine Ops.v (Yv.move rfl) ?_
    refine Ops.v (Yv.idxa (o' := (q).toNat * 8) R90 rfl rfl (by omega) (by omega) (ho := by omega)) ?_
    refine Ops.v (Yv.loadn (cs := [.int .i64 (gi (softT.getD q.toNat []) 0), .int .i64 (gi (softT.getD q.toNat []) 1), .int .i64 (gi (softT.getD q.toNat []) 2), .int .i64 (gi (softT.getD q.toNat []) 3), .int .i64 (gi (softT.getD q.toNat []) 4), .int .i64 (gi (softT.getD q.toNat []) 5), .int .i64 (gi (softT.getD q.toNat []) 6), .int .i64 (gi (softT.getD q.toNat []) 7)]) A81 S81 rfl (now (cells8 (hs14.cells 0 rfl ((q).toNat * 8) 8) (part8 (T := softT) (by first | exact .inl rfl | exact .inr rfl) (by omega) (by omega))))) ?_
    refine Ops.s (Step.store (vs := [.int .i64 (gi (softT.getD q.toNat []) 0), .int .i64 (gi (softT.getD q.toNat []) 1), .int .i64 (gi (softT.getD q.toNat []) 2), .int .i64 (gi (softT.getD q.toNat []) 3), .int .i64 (gi (softT.getD q.toNat []) 4), .int .i64 (gi (softT.getD q.toNat []) 5), .int .i64 (gi (softT.getD q.toNat []) 6), .int .i64 (gi (softT.getD q.toNat []) 7)]) 2 hs14 rfl rfl rfl rfl S81 (Nat.le_of_ble_eq_true rfl) rfl (fun w19 hs19 => ?_) True.intro)
    replace hs19 : HS _ [.blk b11 [.int .i64 0, .int .i64 0, .int .i64 0, .int .i64 128, .int .i64 0, .int .i64 0, .int .i64 0, .int .i64 0, .int .i64 0, .int .i64 2, .int .i64 28, .int .i64 62, .int .i64 34, .int .i64 2, .int .i64 0, .int .i64 0, .int .i64 0, .int .i64 0, .int .i64 26, .int .i64 62, .int .i64 36, .int .i64 4, .int .i64 0, .int .i64 0, .int .i64 0, .int .i64 0, .int .i64 22, .int .i64 62, .int .i64 40, .int .i64 4, .int .i64 0, .int .i64 0, .int .i64 0, .int .i64 0, .int .i64 20, .int .i64 60, .int .i64 42, .int .i64 6, .int .i64 0, .int .i64 0, .int .i64 0, .int .i64 0, .int .i64 18, .int .i64 58, .int .i64 44, .int .i64 8, .int .i64 0, .int .i64 0, .int .i64 0, .int .i64 0, .int .i64 16, .int .i64 56, .int .i64 46, .int .i64 10, .int .i64 0, .int .i64 0, .int .i64 0, .int .i64 (-2), .int .i64 16, .int .i64 54, .int .i64 48, .int .i64 12, .int .i64 0, .int .i64 0, .int .i64 0, .int .i64 (-2), .int .i64 14, .int .i64 52, .int .i64 52, .int .i64 14, .int .i64 (-2), .int .i64 0] 90, .blk b6 [.int .i64 0, .int .i64 0, .int .i64 0, .int .i64 128, .int .i64 0, .int .i64 0, .int .i64 0, .int .i64 0, .int .i64 0, .int .i64 2, .int .i64 (-6), .int .i64 126, .int .i64 8, .int .i64 (-2), .int .i64 0, .int .i64 0, .int .i64 0, .int .i64 2, .int .i64 (-10), .int .i64 122, .int .i64 18, .int .i64 (-4), .int .i64 0, .int .i64 0, .int .i64 0, .int .i64 2, .int .i64 (-12), .int .i64 116, .int .i64 28, .int .i64 (-8), .int .i64 2, .int .i64 0, .int .i64 0, .int .i64 2, .int .i64 (-14), .int .i64 110, .int .i64 38, .int .i64 (-10), .int .i64 2, .int .i64 0, .int .i64 0, .int .i64 2, .int .i64 (-14), .int .i64 102, .int .i64 48, .int .i64 (-12), .int .i64 2, .int .i64 0, .int .i64 0, .int .i64 2, .int .i64 (-16), .int .i64 94, .int .i64 58, .int .i64 (-12), .int .i64 2, .int .i64 0, .int .i64 0, .int .i64 2, .int .i64 (-14), .int .i64 84, .int .i64 66, .int .i64 (-12), .int .i64 2, .int .i64 0, .int .i64 0, .int .i64 2, .int .i64 (-14), .int .i64 76, .int .i64 76, .int .i64 (-14), .int .i64 2, .int .i64 0] 90, .blk _ [_, _, _, _, _, _, _, _] _] _ := hs19
    refine Ops.nil ?_
    refine k18 _ _ ?_
    refine run_ret ?_
    refine ⟨[.agg #[.int .i64 (gi (softT.getD q.toNat []) 0), .int .i64 (gi (softT.getD q.toNat []) 1), .int .i64 (gi (softT.getD q.toNat []) 2), .int .i64 (gi (softT.getD q.toNat []) 3), .int .i64 (gi (softT.getD q.toNat []) 4), .int .i64 (gi (softT.getD q.toNat []) 5), .int .i64 (gi (softT.getD q.toNat []) 6), .int .i64 (gi (softT.getD q.toNat []) 7)]], ⟨_, _, _, rfl, rfl, run_loadn (cs := [.int .i64 (gi (softT.getD q.toNat []) 0), .int .i64 (gi (softT.getD q.toNat []) 1), .int .i64 (gi (softT.getD q.toNat []) 2), .int .i64 (gi (softT.getD q.toNat []) 3), .int .i64 (gi (softT.getD q.toNat []) 4), .int .i64 (gi (softT.getD q.toNat []) 5), .int .i64 (gi (softT.getD q.toNat []) 6), .int .i64 (gi (softT.getD q.toNat []) 7)]) A81 S81 (hs19.cells 2 rfl 0 8), rfl⟩, ?_⟩
    have hh : halfF kd = softT := by rw [halfF, if_pos h17]
    rw [hh]
    exact ⟨rfl, hs19.pick [] _ (by decide) rfl⟩
  · -- no
    refine run_skip ?_
    refine k15 _ _ ?_
    refine run_seq fun K20 k20 => ?_
    refine run_region ?_
    refine Ops.v (Yv.move rfl) ?_
    refine Ops.v (Yv.idxa (o' := (q).toNat * 8) R90 rfl rfl (by omega) (by omega) (ho := by omega)) ?_
    refine Ops.v (Yv.loadn (cs := [.int .i64 (gi (sharpT.getD q.toNat []) 0), .int .i64 (gi (sharpT.getD q.toNat []) 1), .int .i64 (gi (sharpT.getD q.toNat []) 2), .int .i64 (gi (sharpT.getD q.toNat []) 3), .int .i64 (gi (sharpT.getD q.toNat []) 4), .int .i64 (gi (sharpT.getD q.toNat []) 5), .int .i64 (gi (sharpT.getD q.toNat []) 6), .int .i64 (gi (sharpT.getD q.toNat []) 7)]) A81 S81 rfl (now (cells8 (hs14.cells 1 rfl ((q).toNat * 8) 8) (part8 (T := sharpT) (by first | exact .inl rfl | exact .inr rfl) (by omega) (by omega))))) ?_
    refine Ops.s (Step.store (vs := [.int .i64 (gi (sharpT.getD q.toNat []) 0), .int .i64 (gi (sharpT.getD q.toNat []) 1), .int .i64 (gi (sharpT.getD q.toNat []) 2), .int .i64 (gi (sharpT.getD q.toNat []) 3), .int .i64 (gi (sharpT.getD q.toNat []) 4), .int .i64 (gi (sharpT.getD q.toNat []) 5), .int .i64 (gi (sharpT.getD q.toNat []) 6), .int .i64 (gi (sharpT.getD q.toNat []) 7)]) 2 hs14 rfl rfl rfl rfl S81 (Nat.le_of_ble_eq_true rfl) rfl (fun w21 hs21 => ?_) True.intro)
    replace hs21 : HS _ [.blk b11 [.int .i64 0, .int .i64 0, .int .i64 0, .int .i64 128, .int .i64 0, .int .i64 0, .int .i64 0, .int .i64 0, .int .i64 0, .int .i64 2, .int .i64 28, .int .i64 62, .int .i64 34, .int .i64 2, .int .i64 0, .int .i64 0, .int .i64 0, .int .i64 0, .int .i64 26, .int .i64 62, .int .i64 36, .int .i64 4, .int .i64 0, .int .i64 0, .int .i64 0, .int .i64 0, .int .i64 22, .int .i64 62, .int .i64 40, .int .i64 4, .int .i64 0, .int .i64 0, .int .i64 0, .int .i64 0, .int .i64 20, .int .i64 60, .int .i64 42, .int .i64 6, .int .i64 0, .int .i64 0, .int .i64 0, .int .i64 0, .int .i64 18, .int .i64 58, .int .i64 44, .int .i64 8, .int .i64 0, .int .i64 0, .int .i64 0, .int .i64 0, .int .i64 16, .int .i64 56, .int .i64 46, .int .i64 10, .int .i64 0, .int .i64 0, .int .i64 0, .int .i64 (-2), .int .i64 16, .int .i64 54, .int .i64 48, .int .i64 12, .int .i64 0, .int .i64 0, .int .i64 0, .int .i64 (-2), .int .i64 14, .int .i64 52, .int .i64 52, .int .i64 14, .int .i64 (-2), .int .i64 0] 90, .blk b6 [.int .i64 0, .int .i64 0, .int .i64 0, .int .i64 128, .int .i64 0, .int .i64 0, .int .i64 0, .int .i64 0, .int .i64 0, .int .i64 2, .int .i64 (-6), .int .i64 126, .int .i64 8, .int .i64 (-2), .int .i64 0, .int .i64 0, .int .i64 0, .int .i64 2, .int .i64 (-10), .int .i64 122, .int .i64 18, .int .i64 (-4), .int .i64 0, .int .i64 0, .int .i64 0, .int .i64 2, .int .i64 (-12), .int .i64 116, .int .i64 28, .int .i64 (-8), .int .i64 2, .int .i64 0, .int .i64 0, .int .i64 2, .int .i64 (-14), .int .i64 110, .int .i64 38, .int .i64 (-10), .int .i64 2, .int .i64 0, .int .i64 0, .int .i64 2, .int .i64 (-14), .int .i64 102, .int .i64 48, .int .i64 (-12), .int .i64 2, .int .i64 0, .int .i64 0, .int .i64 2, .int .i64 (-16), .int .i64 94, .int .i64 58, .int .i64 (-12), .int .i64 2, .int .i64 0, .int .i64 0, .int .i64 2, .int .i64 (-14), .int .i64 84, .int .i64 66, .int .i64 (-12), .int .i64 2, .int .i64 0, .int .i64 0, .int .i64 2, .int .i64 (-14), .int .i64 76, .int .i64 76, .int .i64 (-14), .int .i64 2, .int .i64 0] 90, .blk _ [_, _, _, _, _, _, _, _] _] _ := hs21
    refine Ops.nil ?_
    refine k20 _ _ ?_
    refine run_ret ?_
    refine ⟨[.agg #[.int .i64 (gi (sharpT.getD q.toNat []) 0), .int .i64 (gi (sharpT.getD q.toNat []) 1), .int .i64 (gi (sharpT.getD q.toNat []) 2), .int .i64 (gi (sharpT.getD q.toNat []) 3), .int .i64 (gi (sharpT.getD q.toNat []) 4), .int .i64 (gi (sharpT.getD q.toNat []) 5), .int .i64 (gi (sharpT.getD q.toNat []) 6), .int .i64 (gi (sharpT.getD q.toNat []) 7)]], ⟨_, _, _, rfl, rfl, run_loadn (cs := [.int .i64 (gi (sharpT.getD q.toNat []) 0), .int .i64 (gi (sharpT.getD q.toNat []) 1), .int .i64 (gi (sharpT.getD q.toNat []) 2), .int .i64 (gi (sharpT.getD q.toNat []) 3), .int .i64 (gi (sharpT.getD q.toNat []) 4), .int .i64 (gi (sharpT.getD q.toNat []) 5), .int .i64 (gi (sharpT.getD q.toNat []) 6), .int .i64 (gi (sharpT.getD q.toNat []) 7)]) A81 S81 (hs21.cells 2 rfl 0 8), rfl⟩, ?_⟩
    have hh : halfF kd = sharpT := by rw [halfF, if_neg h17]
    rw [hh]
    exact ⟨rfl, hs21.pick [] _ (by decide) rfl⟩

theorem rtaps_fun {w : World} {kd q : Int} : Fun Try.prog 58 [.int .i64 kd, .int .i64 q] w fun v w' => v = .tuple #[.agg #[.int .i64 (gi (tapsOut kd q) 0), .int .i64 (gi (tapsOut kd q) 1), .int .i64 (gi (tapsOut kd q) 2), .int .i64 (gi (tapsOut kd q) 3), .int .i64 (gi (tapsOut kd q) 4), .int .i64 (gi (tapsOut kd q) 5), .int .i64 (gi (tapsOut kd q) 6), .int .i64 (gi (tapsOut kd q) 7)], .int .i64 (tapsE kd q)] ∧ HS w [] w' := by
  refine fun_run (m := 52) (rs := [.cell 4 81, .tmp 5]) Try.func58 rfl rfl rfl rfl rfl ?_
  have hs0 := HS.start w
  refine run_seq fun K1 k1 => ?_
  refine run_region ?_
  refine Ops.s (Step.alloc (cs := [.int .i64 0, .int .i64 0, .int .i64 0, .int .i64 0, .int .i64 0, .int .i64 0, .int .i64 0, .int .i64 0]) hs0 Z81 rfl (fun b2 w3 hs3 hb3 => ?_) True.intro (by rfl))
  refine Ops.v (Yv.assign rfl) ?_
  refine Ops.nil ?_
  refine k1 _ _ ?_
  refine run_seq fun K5 k5 => ?_
  refine run_seq fun K6 k6 => ?_
  refine Run.cut (fun e_ w_ => w3 = w_ ∧ Le [(0, .int .i64 kd), (1, .int .i64 q), (4, .pointer (some ⟨b2, 0, none⟩)), (5, .int .i64 0), (22, .bool (decide ((((kd < (0 : Int)) ∨ ((2 : Int) < kd)) ∨ (q < (0 : Int))) ∨ ((15 : Int) < q))))] e_) ?_ ?_
  · -- region 1: its ways meet again
    refine run_region ?_
    refine Ops.v (Yv.move rfl) ?_
    refine Ops.v (Yv.lt rfl rfl) ?_
    refine Ops.dec (fun h7 => ?_) (fun h7 => ?_)
    · -- yes
      refine Ops.v (Yv.move rfl) ?_
      refine Ops.skip ⟨_, rfl, rfl⟩ ?_
      refine Ops.skip ⟨_, rfl, rfl⟩ ?_
      refine Ops.v (Yv.pick1 rfl rfl) ?_
      refine Ops.v (Yv.move rfl) ?_
      refine Ops.skip ⟨_, rfl, rfl⟩ ?_
      refine Ops.skip ⟨_, rfl, rfl⟩ ?_
      refine Ops.v (Yv.pick1 rfl rfl) ?_
      refine Ops.v (Yv.move rfl) ?_
      refine Ops.skip ⟨_, rfl, rfl⟩ ?_
      refine Ops.skip ⟨_, rfl, rfl⟩ ?_
      refine Ops.v (Yv.pick1 rfl rfl) ?_
      refine Ops.nil ?_
      refine ⟨rfl, Sub.le ⟨rfl, rfl, rfl, rfl, lookB rfl (by first | (simp only [h7, ne_eq, not_true_eq_false, not_false_eq_true, or_true, true_or, or_false, false_or, and_true, true_and, and_false, false_and, decide_true, decide_false, or_self, and_self, Bool.decide_eq_true]; done) | simp [h7]), trivial⟩⟩
    · -- no
      refine Ops.v (Yv.move rfl) ?_
      refine Ops.vg ⟨_, rfl, rfl⟩ (Yv.move rfl) ?_
      refine Ops.vg ⟨_, rfl, rfl⟩ (Yv.gt rfl rfl) ?_
      refine Ops.dec (fun h8 => ?_) (fun h8 => ?_)
      · -- yes
        refine Ops.v (Yv.pick0 rfl rfl) ?_
        refine Ops.v (Yv.move rfl) ?_
        refine Ops.skip ⟨_, rfl, rfl⟩ ?_
        refine Ops.skip ⟨_, rfl, rfl⟩ ?_
        refine Ops.v (Yv.pick1 rfl rfl) ?_
        refine Ops.v (Yv.move rfl) ?_
        refine Ops.skip ⟨_, rfl, rfl⟩ ?_
        refine Ops.skip ⟨_, rfl, rfl⟩ ?_
        refine Ops.v (Yv.pick1 rfl rfl) ?_
        refine Ops.nil ?_
        refine ⟨rfl, Sub.le ⟨rfl, rfl, rfl, rfl, lookB rfl (by first | (simp only [h7, h8, ne_eq, not_true_eq_false, not_false_eq_true, or_true, true_or, or_false, false_or, and_true, true_and, and_false, false_and, decide_true, decide_false, or_self, and_self, Bool.decide_eq_true]; done) | simp [h7, h8]), trivial⟩⟩
      · -- no
        refine Ops.v (Yv.pick0 rfl rfl) ?_
        refine Ops.v (Yv.move rfl) ?_
        refine Ops.vg ⟨_, rfl, rfl⟩ (Yv.move rfl) ?_
        refine Ops.vg ⟨_, rfl, rfl⟩ (Yv.lt rfl rfl) ?_
        refine Ops.dec (fun h9 => ?_) (fun h9 => ?_)
        · -- yes
          refine Ops.v (Yv.pick0 rfl rfl) ?_
          refine Ops.v (Yv.move rfl) ?_
          refine Ops.skip ⟨_, rfl, rfl⟩ ?_
          refine Ops.skip ⟨_, rfl, rfl⟩ ?_
          refine Ops.v (Yv.pick1 rfl rfl) ?_
          refine Ops.nil ?_
          refine ⟨rfl, Sub.le ⟨rfl, rfl, rfl, rfl, lookB rfl (by first | (simp only [h7, h8, h9, ne_eq, not_true_eq_false, not_false_eq_true, or_true, true_or, or_false, false_or, and_true, true_and, and_false, false_and, decide_true, decide_false, or_self, and_self, Bool.decide_eq_true]; done) | simp [h7, h8, h9]), trivial⟩⟩
        · -- no
          refine Ops.v (Yv.pick0 rfl rfl) ?_
          refine Ops.v (Yv.move rfl) ?_
          refine Ops.vg ⟨_, rfl, rfl⟩ (Yv.move rfl) ?_
          refine Ops.vg ⟨_, rfl, rfl⟩ (Yv.gt rfl rfl) ?_
          refine Ops.v (Yv.pick0 rfl rfl) ?_
          refine Ops.nil ?_
          refine ⟨rfl, Sub.le ⟨rfl, rfl, rfl, rfl, lookB rfl (by first | (simp only [h7, h8, h9, ne_eq, not_true_eq_false, not_false_eq_true, or_true, true_or, or_false, false_or, and_true, true_and, and_false, false_and, decide_true, decide_false, or_self, and_self, Bool.decide_eq_true]; done) | simp [h7, h8, h9]), trivial⟩⟩
  rintro e10 _ ⟨rfl, he10⟩
  refine k6 _ _ ?_
  refine Run.le he10 ?_
  refine run_ifp rfl (fun h11 => ?_) (fun h11 => ?_)
  · -- yes (((kd < (0 : Int)) ∨ ((2 : Int) < kd)) ∨ (q < (0 : Int))) ∨ ((15 : Int) < q)
    refine run_seq fun K12 k12 => ?_
    refine run_region ?_
    refine Ops.v (Yv.buildA (cs := #[.int .i64 0, .int .i64 0, .int .i64 0, .int .i64 0, .int .i64 0, .int .i64 0, .int .i64 0, .int .i64 0]) T81 rfl rfl) ?_
    refine Ops.s (Step.store (vs := [.int .i64 0, .int .i64 0, .int .i64 0, .int .i64 0, .int .i64 0, .int .i64 0, .int .i64 0, .int .i64 0]) 0 hs3 rfl rfl rfl rfl S81 (Nat.le_of_ble_eq_true rfl) rfl (fun w13 hs13 => ?_) True.intro)
    replace hs13 : HS _ [.blk _ [_, _, _, _, _, _, _, _] _] _ := hs13
    refine Ops.v (Yv.assign rfl) ?_
    refine Ops.nil ?_
    refine k12 _ _ ?_
    refine run_ret ?_
    refine ⟨[.agg #[.int .i64 0, .int .i64 0, .int .i64 0, .int .i64 0, .int .i64 0, .int .i64 0, .int .i64 0, .int .i64 0], .int .i64 2], ⟨_, _, _, rfl, rfl, run_loadn (cs := [.int .i64 0, .int .i64 0, .int .i64 0, .int .i64 0, .int .i64 0, .int .i64 0, .int .i64 0, .int .i64 0]) A81 S81 (hs13.cells 0 rfl 0 8), ⟨_, _, rfl, rfl, rfl⟩⟩, ?_⟩
    obtain ⟨e1, e2⟩ := taps_bad (kd := kd) (q := q) (by omega)
    rw [e1, e2]
    exact ⟨rfl, hs13.pick [] _ (by decide) rfl⟩
  · -- no
    refine run_skip ?_
    refine k5 _ _ ?_
    refine run_seq fun K14 k14 => ?_
    refine run_seq fun K15 k15 => ?_
    refine run_region ?_
    refine Ops.v (Yv.move rfl) ?_
    refine Ops.v (Yv.eq rfl rfl) ?_
    refine Ops.nil ?_
    refine k15 _ _ ?_
    refine run_ifp rfl (fun h16 => ?_) (fun h16 => ?_)
    · -- yes kd = (2 : Int)
      refine run_seq fun K17 k17 => ?_
      refine run_region ?_
      refine Ops.v (Yv.move rfl) ?_
      refine Ops.v (Yv.mul rfl rfl (by omega)) ?_
      refine Ops.v (Yv.sub rfl rfl (by omega)) ?_
      refine Ops.v (Yv.move rfl) ?_
      refine Ops.v (Yv.mul rfl rfl (by omega)) ?_
      refine Ops.v (Yv.buildA (cs := #[.int .i64 0, .int .i64 0, .int .i64 0, .int .i64 ((128 : Int) - ((8 : Int) * q)), .int .i64 ((8 : Int) * q), .int .i64 0, .int .i64 0, .int .i64 0]) T81 rfl rfl) ?_
      refine Ops.s (Step.store (vs := [.int .i64 0, .int .i64 0, .int .i64 0, .int .i64 ((128 : Int) - ((8 : Int) * q)), .int .i64 ((8 : Int) * q), .int .i64 0, .int .i64 0, .int .i64 0]) 0 hs3 rfl rfl rfl rfl S81 (Nat.le_of_ble_eq_true rfl) rfl (fun w18 hs18 => ?_) True.intro)
      replace hs18 : HS _ [.blk _ [_, _, _, _, _, _, _, _] _] _ := hs18
      refine Ops.v (Yv.assign rfl) ?_
      refine Ops.nil ?_
      refine k17 _ _ ?_
      refine run_ret ?_
      refine ⟨[.agg #[.int .i64 0, .int .i64 0, .int .i64 0, .int .i64 ((128 : Int) - ((8 : Int) * q)), .int .i64 ((8 : Int) * q), .int .i64 0, .int .i64 0, .int .i64 0], .int .i64 0], ⟨_, _, _, rfl, rfl, run_loadn (cs := [.int .i64 0, .int .i64 0, .int .i64 0, .int .i64 ((128 : Int) - ((8 : Int) * q)), .int .i64 ((8 : Int) * q), .int .i64 0, .int .i64 0, .int .i64 0]) A81 S81 (hs18.cells 0 rfl 0 8), ⟨_, _, rfl, rfl, rfl⟩⟩, ?_⟩
      obtain ⟨e1, e2⟩ := taps_ok (kd := kd) (q := q) (by omega)
      rw [e1, e2]
      have hk2 : kd = 2 := by omega
      subst hk2
      exact ⟨rfl, hs18.pick [] _ (by decide) rfl⟩
    · -- no
      refine run_skip ?_
      refine k14 _ _ ?_
      refine run_seq fun K19 k19 => ?_
      refine run_seq fun K20 k20 => ?_
      refine run_region ?_
      refine Ops.v (Yv.move rfl) ?_
      refine Ops.v (Yv.le rfl rfl) ?_
      refine Ops.nil ?_
      refine k20 _ _ ?_
      refine run_ifp rfl (fun h21 => ?_) (fun h21 => ?_)
      · -- yes q ≤ (8 : Int)
        refine run_seq fun K22 k22 => ?_
        refine run_region ?_
        refine Ops.v (Yv.move rfl) ?_
        refine Ops.v (Yv.move rfl) ?_
        refine Ops.s (Step.call rfl rfl (half_fun (by omega)) (?_) True.intro (by rfl))
        rintro _ w23 ⟨rfl, hs23⟩
        replace hs23 := hs3.call hs23
        refine Ops.s (Step.store (vs := [.int .i64 (gi ((halfF kd).getD q.toNat []) 0), .int .i64 (gi ((halfF kd).getD q.toNat []) 1), .int .i64 (gi ((halfF kd).getD q.toNat []) 2), .int .i64 (gi ((halfF kd).getD q.toNat []) 3), .int .i64 (gi ((halfF kd).getD q.toNat []) 4), .int .i64 (gi ((halfF kd).getD q.toNat []) 5), .int .i64 (gi ((halfF kd).getD q.toNat []) 6), .int .i64 (gi ((halfF kd).getD q.toNat []) 7)]) 0 hs23 rfl rfl rfl rfl S81 (Nat.le_of_ble_eq_true rfl) rfl (fun w24 hs24 => ?_) True.intro)
        replace hs24 : HS _ [.blk _ [_, _, _, _, _, _, _, _] _] _ := hs24
        refine Ops.v (Yv.assign rfl) ?_
        refine Ops.nil ?_
        refine k22 _ _ ?_
        refine run_ret ?_
        refine ⟨[.agg #[.int .i64 (gi ((halfF kd).getD q.toNat []) 0), .int .i64 (gi ((halfF kd).getD q.toNat []) 1), .int .i64 (gi ((halfF kd).getD q.toNat []) 2), .int .i64 (gi ((halfF kd).getD q.toNat []) 3), .int .i64 (gi ((halfF kd).getD q.toNat []) 4), .int .i64 (gi ((halfF kd).getD q.toNat []) 5), .int .i64 (gi ((halfF kd).getD q.toNat []) 6), .int .i64 (gi ((halfF kd).getD q.toNat []) 7)], .int .i64 0], ⟨_, _, _, rfl, rfl, run_loadn (cs := [.int .i64 (gi ((halfF kd).getD q.toNat []) 0), .int .i64 (gi ((halfF kd).getD q.toNat []) 1), .int .i64 (gi ((halfF kd).getD q.toNat []) 2), .int .i64 (gi ((halfF kd).getD q.toNat []) 3), .int .i64 (gi ((halfF kd).getD q.toNat []) 4), .int .i64 (gi ((halfF kd).getD q.toNat []) 5), .int .i64 (gi ((halfF kd).getD q.toNat []) 6), .int .i64 (gi ((halfF kd).getD q.toNat []) 7)]) A81 S81 (hs24.cells 0 rfl 0 8), ⟨_, _, rfl, rfl, rfl⟩⟩, ?_⟩
        obtain ⟨e1, e2⟩ := taps_ok (kd := kd) (q := q) (by omega)
        rw [e1, e2]
        rw [taps_lo (by omega) (by omega)]
        exact ⟨rfl, hs24.pick [] _ (by decide) rfl⟩
      · -- no
        refine run_skip ?_
        refine k19 _ _ ?_
        refine run_seq fun K25 k25 => ?_
        refine run_region ?_
        refine Ops.v (Yv.move rfl) ?_
        refine Ops.v (Yv.move rfl) ?_
        refine Ops.v (Yv.sub rfl rfl (by omega)) ?_
        refine Ops.s (Step.call rfl rfl (half_fun (by omega)) (?_) True.intro (by rfl))
        rintro _ w26 ⟨rfl, hs26⟩
        replace hs26 := hs3.call hs26
        refine Ops.s (Step.alloc (cs := [.int .i64 0, .int .i64 0, .int .i64 0, .int .i64 0, .int .i64 0, .int .i64 0, .int .i64 0, .int .i64 0]) hs26 Z81 rfl (fun b27 w28 hs28 hb28 => ?_) True.intro (by rfl))
        refine Ops.s (Step.store (vs := [.int .i64 (gi ((halfF kd).getD ((16 : Int) - q).toNat []) 0), .int .i64 (gi ((halfF kd).getD ((16 : Int) - q).toNat []) 1), .int .i64 (gi ((halfF kd).getD ((16 : Int) - q).toNat []) 2), .int .i64 (gi ((halfF kd).getD ((16 : Int) - q).toNat []) 3), .int .i64 (gi ((halfF kd).getD ((16 : Int) - q).toNat []) 4), .int .i64 (gi ((halfF kd).getD ((16 : Int) - q).toNat []) 5), .int .i64 (gi ((halfF kd).getD ((16 : Int) - q).toNat []) 6), .int .i64 (gi ((halfF kd).getD ((16 : Int) - q).toNat []) 7)]) 0 hs28 rfl rfl rfl rfl S81 (Nat.le_of_ble_eq_true rfl) rfl (fun w30 hs30 => ?_) True.intro)
        replace hs30 : HS _ [.blk _ [_, _, _, _, _, _, _, _] _, .blk _ [_, _, _, _, _, _, _, _] _] _ := hs30
        refine Ops.nil ?_
        refine k25 _ _ ?_
        refine run_seq fun K31 k31 => ?_
        refine run_region ?_
        refine Ops.s (Step.alloc (cs := [.int .i64 0, .int .i64 0, .int .i64 0, .int .i64 0, .int .i64 0, .int .i64 0, .int .i64 0, .int .i64 0]) hs30 Z81 rfl (fun b32 w33 hs33 hb33 => ?_) True.intro (by rfl))
        refine Ops.nil ?_
        refine k31 _ _ ?_
        refine run_seq fun K35 k35 => ?_
        refine run_seq fun K36 k36 => ?_
        refine run_region ?_
        refine Ops.v (Yv.assign rfl) ?_
        refine Ops.nil ?_
        refine k36 _ _ ?_
        refine run_block ?_
        refine run_rounds 9 ?_
        show Run _ _ _ (seqQ _ _) _ _
        refine run_seq fun K37 k37 => ?_
        refine run_seq fun K38 k38 => ?_
        refine run_region ?_
        refine Ops.v (Yv.move rfl) ?_
        refine Ops.v ((Yv.lt rfl rfl).to (v := .bool true) (by rfl)) ?_
        refine Ops.nil ?_
        refine k38 _ _ ?_
        refine run_if1 rfl ?_
        refine run_skip ?_
        refine k37 _ _ ?_
        refine run_seq fun K39 k39 => ?_
        refine run_block ?_
        refine run_region ?_
        refine Ops.v (Yv.move rfl) ?_
        refine Ops.v (Yv.move rfl) ?_
        refine Ops.v ((Yv.sub rfl rfl (by omega)).to (v := .int .i64 7) (by rfl)) ?_
        refine Ops.v (Yv.idxa R81 rfl rfl (by decide) (by decide)) ?_
        refine Ops.v (Yv.load A3 rfl (now (hs33.cell 1 rfl 7 rfl))) ?_
        refine Ops.v (Yv.idxa R81 rfl rfl (by decide) (by decide)) ?_
        refine Ops.s (Step.store (vs := [.int .i64 (gi ((halfF kd).getD ((16 : Int) - q).toNat []) 7)]) 0 hs33 rfl rfl rfl rfl S3 (Nat.le_of_ble_eq_true rfl) rfl (fun w40 hs40 => ?_) True.intro)
        replace hs40 : HS _ [.blk _ [_, _, _, _, _, _, _, _] _, .blk _ [_, _, _, _, _, _, _, _] _, .blk _ [_, _, _, _, _, _, _, _] _] _ := hs40
        refine Ops.nil ?_
        refine k39 _ _ ?_
        refine run_region ?_
        refine Ops.v (Yv.move rfl) ?_
        refine Ops.v ((Yv.add rfl rfl (by omega)).to (v := .int .i64 1) (by rfl)) ?_
        refine Ops.v (Yv.assign rfl) ?_
        refine Ops.nil ?_
        show Run _ _ _ (seqQ _ _) _ _
        refine run_seq fun K41 k41 => ?_
        refine run_seq fun K42 k42 => ?_
        refine run_region ?_
        refine Ops.v (Yv.move rfl) ?_
        refine Ops.v ((Yv.lt rfl rfl).to (v := .bool true) (by rfl)) ?_
        refine Ops.nil ?_
        refine k42 _ _ ?_
        refine run_if1 rfl ?_
        refine run_skip ?_
        refine k41 _ _ ?_
        refine run_seq fun K43 k43 => ?_
        refine run_block ?_
        refine run_region ?_
        refine Ops.v (Yv.move rfl) ?_
        refine Ops.v (Yv.move rfl) ?_
        refine Ops.v ((Yv.sub rfl rfl (by omega)).to (v := .int .i64 6) (by rfl)) ?_
        refine Ops.v (Yv.idxa R81 rfl rfl (by decide) (by decide)) ?_
        refine Ops.v (Yv.load A3 rfl (now (hs40.cell 1 rfl 6 rfl))) ?_
        refine Ops.v (Yv.idxa R81 rfl rfl (by decide) (by decide)) ?_
        refine Ops.s (Step.store (vs := [.int .i64 (gi ((halfF kd).getD ((16 : Int) - q).toNat []) 6)]) 0 hs40 rfl rfl rfl rfl S3 (Nat.le_of_ble_eq_true rfl) rfl (fun w44 hs44 => ?_) True.intro)
        replace hs44 : HS _ [.blk _ [_, _, _, _, _, _, _, _] _, .blk _ [_, _, _, _, _, _, _, _] _, .blk _ [_, _, _, _, _, _, _, _] _] _ := hs44
        refine Ops.nil ?_
        refine k43 _ _ ?_
        refine run_region ?_
        refine Ops.v (Yv.move rfl) ?_
        refine Ops.v ((Yv.add rfl rfl (by omega)).to (v := .int .i64 2) (by rfl)) ?_
        refine Ops.v (Yv.assign rfl) ?_
        refine Ops.nil ?_
        show Run _ _ _ (seqQ _ _) _ _
        refine run_seq fun K45 k45 => ?_
        refine run_seq fun K46 k46 => ?_
        refine run_region ?_
        refine Ops.v (Yv.move rfl) ?_
        refine Ops.v ((Yv.lt rfl rfl).to (v := .bool true) (by rfl)) ?_
        refine Ops.nil ?_
        refine k46 _ _ ?_
        refine run_if1 rfl ?_
        refine run_skip ?_
        refine k45 _ _ ?_
        refine run_seq fun K47 k47 => ?_
        refine run_block ?_
        refine run_region ?_
        refine Ops.v (Yv.move rfl) ?_
        refine Ops.v (Yv.move rfl) ?_
        refine Ops.v ((Yv.sub rfl rfl (by omega)).to (v := .int .i64 5) (by rfl)) ?_
        refine Ops.v (Yv.idxa R81 rfl rfl (by decide) (by decide)) ?_
        refine Ops.v (Yv.load A3 rfl (now (hs44.cell 1 rfl 5 rfl))) ?_
        refine Ops.v (Yv.idxa R81 rfl rfl (by decide) (by decide)) ?_
        refine Ops.s (Step.store (vs := [.int .i64 (gi ((halfF kd).getD ((16 : Int) - q).toNat []) 5)]) 0 hs44 rfl rfl rfl rfl S3 (Nat.le_of_ble_eq_true rfl) rfl (fun w48 hs48 => ?_) True.intro)
        replace hs48 : HS _ [.blk _ [_, _, _, _, _, _, _, _] _, .blk _ [_, _, _, _, _, _, _, _] _, .blk _ [_, _, _, _, _, _, _, _] _] _ := hs48
        refine Ops.nil ?_
        refine k47 _ _ ?_
        refine run_region ?_
        refine Ops.v (Yv.move rfl) ?_
        refine Ops.v ((Yv.add rfl rfl (by omega)).to (v := .int .i64 3) (by rfl)) ?_
        refine Ops.v (Yv.assign rfl) ?_
        refine Ops.nil ?_
        show Run _ _ _ (seqQ _ _) _ _
        refine run_seq fun K49 k49 => ?_
        refine run_seq fun K50 k50 => ?_
        refine run_region ?_
        refine Ops.v (Yv.move rfl) ?_
        refine Ops.v ((Yv.lt rfl rfl).to (v := .bool true) (by rfl)) ?_
        refine Ops.nil ?_
        refine k50 _ _ ?_
        refine run_if1 rfl ?_
        refine run_skip ?_
        refine k49 _ _ ?_
        refine run_seq fun K51 k51 => ?_
        refine run_block ?_
        refine run_region ?_
        refine Ops.v (Yv.move rfl) ?_
        refine Ops.v (Yv.move rfl) ?_
        refine Ops.v ((Yv.sub rfl rfl (by omega)).to (v := .int .i64 4) (by rfl)) ?_
        refine Ops.v (Yv.idxa R81 rfl rfl (by decide) (by decide)) ?_
        refine Ops.v (Yv.load A3 rfl (now (hs48.cell 1 rfl 4 rfl))) ?_
        refine Ops.v (Yv.idxa R81 rfl rfl (by decide) (by decide)) ?_
        refine Ops.s (Step.store (vs := [.int .i64 (gi ((halfF kd).getD ((16 : Int) - q).toNat []) 4)]) 0 hs48 rfl rfl rfl rfl S3 (Nat.le_of_ble_eq_true rfl) rfl (fun w52 hs52 => ?_) True.intro)
        replace hs52 : HS _ [.blk _ [_, _, _, _, _, _, _, _] _, .blk _ [_, _, _, _, _, _, _, _] _, .blk _ [_, _, _, _, _, _, _, _] _] _ := hs52
        refine Ops.nil ?_
        refine k51 _ _ ?_
        refine run_region ?_
        refine Ops.v (Yv.move rfl) ?_
        refine Ops.v ((Yv.add rfl rfl (by omega)).to (v := .int .i64 4) (by rfl)) ?_
        refine Ops.v (Yv.assign rfl) ?_
        refine Ops.nil ?_
        show Run _ _ _ (seqQ _ _) _ _
        refine run_seq fun K53 k53 => ?_
        refine run_seq fun K54 k54 => ?_
        refine run_region ?_
        refine Ops.v (Yv.move rfl) ?_
        refine Ops.v ((Yv.lt rfl rfl).to (v := .bool true) (by rfl)) ?_
        refine Ops.nil ?_
        refine k54 _ _ ?_
        refine run_if1 rfl ?_
        refine run_skip ?_
        refine k53 _ _ ?_
        refine run_seq fun K55 k55 => ?_
        refine run_block ?_
        refine run_region ?_
        refine Ops.v (Yv.move rfl) ?_
        refine Ops.v (Yv.move rfl) ?_
        refine Ops.v ((Yv.sub rfl rfl (by omega)).to (v := .int .i64 3) (by rfl)) ?_
        refine Ops.v (Yv.idxa R81 rfl rfl (by decide) (by decide)) ?_
        refine Ops.v (Yv.load A3 rfl (now (hs52.cell 1 rfl 3 rfl))) ?_
        refine Ops.v (Yv.idxa R81 rfl rfl (by decide) (by decide)) ?_
        refine Ops.s (Step.store (vs := [.int .i64 (gi ((halfF kd).getD ((16 : Int) - q).toNat []) 3)]) 0 hs52 rfl rfl rfl rfl S3 (Nat.le_of_ble_eq_true rfl) rfl (fun w56 hs56 => ?_) True.intro)
        replace hs56 : HS _ [.blk _ [_, _, _, _, _, _, _, _] _, .blk _ [_, _, _, _, _, _, _, _] _, .blk _ [_, _, _, _, _, _, _, _] _] _ := hs56
        refine Ops.nil ?_
        refine k55 _ _ ?_
        refine run_region ?_
        refine Ops.v (Yv.move rfl) ?_
        refine Ops.v ((Yv.add rfl rfl (by omega)).to (v := .int .i64 5) (by rfl)) ?_
        refine Ops.v (Yv.assign rfl) ?_
        refine Ops.nil ?_
        show Run _ _ _ (seqQ _ _) _ _
        refine run_seq fun K57 k57 => ?_
        refine run_seq fun K58 k58 => ?_
        refine run_region ?_
        refine Ops.v (Yv.move rfl) ?_
        refine Ops.v ((Yv.lt rfl rfl).to (v := .bool true) (by rfl)) ?_
        refine Ops.nil ?_
        refine k58 _ _ ?_
        refine run_if1 rfl ?_
        refine run_skip ?_
        refine k57 _ _ ?_
        refine run_seq fun K59 k59 => ?_
        refine run_block ?_
        refine run_region ?_
        refine Ops.v (Yv.move rfl) ?_
        refine Ops.v (Yv.move rfl) ?_
        refine Ops.v ((Yv.sub rfl rfl (by omega)).to (v := .int .i64 2) (by rfl)) ?_
        refine Ops.v (Yv.idxa R81 rfl rfl (by decide) (by decide)) ?_
        refine Ops.v (Yv.load A3 rfl (now (hs56.cell 1 rfl 2 rfl))) ?_
        refine Ops.v (Yv.idxa R81 rfl rfl (by decide) (by decide)) ?_
        refine Ops.s (Step.store (vs := [.int .i64 (gi ((halfF kd).getD ((16 : Int) - q).toNat []) 2)]) 0 hs56 rfl rfl rfl rfl S3 (Nat.le_of_ble_eq_true rfl) rfl (fun w60 hs60 => ?_) True.intro)
        replace hs60 : HS _ [.blk _ [_, _, _, _, _, _, _, _] _, .blk _ [_, _, _, _, _, _, _, _] _, .blk _ [_, _, _, _, _, _, _, _] _] _ := hs60
        refine Ops.nil ?_
        refine k59 _ _ ?_
        refine run_region ?_
        refine Ops.v (Yv.move rfl) ?_
        refine Ops.v ((Yv.add rfl rfl (by omega)).to (v := .int .i64 6) (by rfl)) ?_
        refine Ops.v (Yv.assign rfl) ?_
        refine Ops.nil ?_
        show Run _ _ _ (seqQ _ _) _ _
        refine run_seq fun K61 k61 => ?_
        refine run_seq fun K62 k62 => ?_
        refine run_region ?_
        refine Ops.v (Yv.move rfl) ?_
        refine Ops.v ((Yv.lt rfl rfl).to (v := .bool true) (by rfl)) ?_
        refine Ops.nil ?_
        refine k62 _ _ ?_
        refine run_if1 rfl ?_
        refine run_skip ?_
        refine k61 _ _ ?_
        refine run_seq fun K63 k63 => ?_
        refine run_block ?_
        refine run_region ?_
        refine Ops.v (Yv.move rfl) ?_
        refine Ops.v (Yv.move rfl) ?_
        refine Ops.v ((Yv.sub rfl rfl (by omega)).to (v := .int .i64 1) (by rfl)) ?_
        refine Ops.v (Yv.idxa R81 rfl rfl (by decide) (by decide)) ?_
        refine Ops.v (Yv.load A3 rfl (now (hs60.cell 1 rfl 1 rfl))) ?_
        refine Ops.v (Yv.idxa R81 rfl rfl (by decide) (by decide)) ?_
        refine Ops.s (Step.store (vs := [.int .i64 (gi ((halfF kd).getD ((16 : Int) - q).toNat []) 1)]) 0 hs60 rfl rfl rfl rfl S3 (Nat.le_of_ble_eq_true rfl) rfl (fun w64 hs64 => ?_) True.intro)
        replace hs64 : HS _ [.blk _ [_, _, _, _, _, _, _, _] _, .blk _ [_, _, _, _, _, _, _, _] _, .blk _ [_, _, _, _, _, _, _, _] _] _ := hs64
        refine Ops.nil ?_
        refine k63 _ _ ?_
        refine run_region ?_
        refine Ops.v (Yv.move rfl) ?_
        refine Ops.v ((Yv.add rfl rfl (by omega)).to (v := .int .i64 7) (by rfl)) ?_
        refine Ops.v (Yv.assign rfl) ?_
        refine Ops.nil ?_
        show Run _ _ _ (seqQ _ _) _ _
        refine run_seq fun K65 k65 => ?_
        refine run_seq fun K66 k66 => ?_
        refine run_region ?_
        refine Ops.v (Yv.move rfl) ?_
        refine Ops.v ((Yv.lt rfl rfl).to (v := .bool true) (by rfl)) ?_
        refine Ops.nil ?_
        refine k66 _ _ ?_
        refine run_if1 rfl ?_
        refine run_skip ?_
        refine k65 _ _ ?_
        refine run_seq fun K67 k67 => ?_
        refine run_block ?_
        refine run_region ?_
        refine Ops.v (Yv.move rfl) ?_
        refine Ops.v (Yv.move rfl) ?_
        refine Ops.v ((Yv.sub rfl rfl (by omega)).to (v := .int .i64 0) (by rfl)) ?_
        refine Ops.v (Yv.idxa R81 rfl rfl (by decide) (by decide)) ?_
        refine Ops.v (Yv.load A3 rfl (now (hs64.cell 1 rfl 0 rfl))) ?_
        refine Ops.v (Yv.idxa R81 rfl rfl (by decide) (by decide)) ?_
        refine Ops.s (Step.store (vs := [.int .i64 (gi ((halfF kd).getD ((16 : Int) - q).toNat []) 0)]) 0 hs64 rfl rfl rfl rfl S3 (Nat.le_of_ble_eq_true rfl) rfl (fun w68 hs68 => ?_) True.intro)
        replace hs68 : HS _ [.blk _ [_, _, _, _, _, _, _, _] _, .blk _ [_, _, _, _, _, _, _, _] _, .blk _ [_, _, _, _, _, _, _, _] _] _ := hs68
        refine Ops.nil ?_
        refine k67 _ _ ?_
        refine run_region ?_
        refine Ops.v (Yv.move rfl) ?_
        refine Ops.v ((Yv.add rfl rfl (by omega)).to (v := .int .i64 8) (by rfl)) ?_
        refine Ops.v (Yv.assign rfl) ?_
        refine Ops.nil ?_
        show Run _ _ _ (seqQ _ _) _ _
        refine run_seq fun K69 k69 => ?_
        refine run_seq fun K70 k70 => ?_
        refine run_region ?_
        refine Ops.v (Yv.move rfl) ?_
        refine Ops.v ((Yv.lt rfl rfl).to (v := .bool false) (by rfl)) ?_
        refine Ops.nil ?_
        refine k70 _ _ ?_
        refine run_if0 rfl ?_
        refine run_exit ?_
        refine k35 _ _ ?_
        refine run_seq fun K71 k71 => ?_
        refine run_region ?_
        refine Ops.v (Yv.loadn (cs := [.int .i64 (gi ((halfF kd).getD ((16 : Int) - q).toNat []) 7), .int .i64 (gi ((halfF kd).getD ((16 : Int) - q).toNat []) 6), .int .i64 (gi ((halfF kd).getD ((16 : Int) - q).toNat []) 5), .int .i64 (gi ((halfF kd).getD ((16 : Int) - q).toNat []) 4), .int .i64 (gi ((halfF kd).getD ((16 : Int) - q).toNat []) 3), .int .i64 (gi ((halfF kd).getD ((16 : Int) - q).toNat []) 2), .int .i64 (gi ((halfF kd).getD ((16 : Int) - q).toNat []) 1), .int .i64 (gi ((halfF kd).getD ((16 : Int) - q).toNat []) 0)]) A81 S81 rfl (now (hs68.cells 0 rfl 0 8))) ?_
        refine Ops.s (Step.store (vs := [.int .i64 (gi ((halfF kd).getD ((16 : Int) - q).toNat []) 7), .int .i64 (gi ((halfF kd).getD ((16 : Int) - q).toNat []) 6), .int .i64 (gi ((halfF kd).getD ((16 : Int) - q).toNat []) 5), .int .i64 (gi ((halfF kd).getD ((16 : Int) - q).toNat []) 4), .int .i64 (gi ((halfF kd).getD ((16 : Int) - q).toNat []) 3), .int .i64 (gi ((halfF kd).getD ((16 : Int) - q).toNat []) 2), .int .i64 (gi ((halfF kd).getD ((16 : Int) - q).toNat []) 1), .int .i64 (gi ((halfF kd).getD ((16 : Int) - q).toNat []) 0)]) 2 hs68 rfl rfl rfl rfl S81 (Nat.le_of_ble_eq_true rfl) rfl (fun w72 hs72 => ?_) True.intro)
        replace hs72 : HS _ [.blk _ [_, _, _, _, _, _, _, _] _, .blk _ [_, _, _, _, _, _, _, _] _, .blk _ [_, _, _, _, _, _, _, _] _] _ := hs72
        refine Ops.v (Yv.assign rfl) ?_
        refine Ops.nil ?_
        refine k71 _ _ ?_
        refine run_ret ?_
        refine ⟨[.agg #[.int .i64 (gi ((halfF kd).getD ((16 : Int) - q).toNat []) 7), .int .i64 (gi ((halfF kd).getD ((16 : Int) - q).toNat []) 6), .int .i64 (gi ((halfF kd).getD ((16 : Int) - q).toNat []) 5), .int .i64 (gi ((halfF kd).getD ((16 : Int) - q).toNat []) 4), .int .i64 (gi ((halfF kd).getD ((16 : Int) - q).toNat []) 3), .int .i64 (gi ((halfF kd).getD ((16 : Int) - q).toNat []) 2), .int .i64 (gi ((halfF kd).getD ((16 : Int) - q).toNat []) 1), .int .i64 (gi ((halfF kd).getD ((16 : Int) - q).toNat []) 0)], .int .i64 0], ⟨_, _, _, rfl, rfl, run_loadn (cs := [.int .i64 (gi ((halfF kd).getD ((16 : Int) - q).toNat []) 7), .int .i64 (gi ((halfF kd).getD ((16 : Int) - q).toNat []) 6), .int .i64 (gi ((halfF kd).getD ((16 : Int) - q).toNat []) 5), .int .i64 (gi ((halfF kd).getD ((16 : Int) - q).toNat []) 4), .int .i64 (gi ((halfF kd).getD ((16 : Int) - q).toNat []) 3), .int .i64 (gi ((halfF kd).getD ((16 : Int) - q).toNat []) 2), .int .i64 (gi ((halfF kd).getD ((16 : Int) - q).toNat []) 1), .int .i64 (gi ((halfF kd).getD ((16 : Int) - q).toNat []) 0)]) A81 S81 (hs72.cells 2 rfl 0 8), ⟨_, _, rfl, rfl, rfl⟩⟩, ?_⟩
        obtain ⟨e1, e2⟩ := taps_ok (kd := kd) (q := q) (by omega)
        rw [e1, e2]
        have th := fun i h0 h1 => taps_hi (kd := kd) (q := q) (by omega) (by omega) (by omega) i h0 h1
        exact ⟨congrArg (fun z => Value.tuple #[z, .int .i64 0]) (agg8 (th 0 (by decide) (by decide)).symm (th 1 (by decide) (by decide)).symm (th 2 (by decide) (by decide)).symm (th 3 (by decide) (by decide)).symm (th 4 (by decide) (by decide)).symm (th 5 (by decide) (by decide)).symm (th 6 (by decide) (by decide)).symm (th 7 (by decide) (by decide)).symm), hs72.pick [] _ (by decide) rfl⟩

end Go.Proofs.Zed
