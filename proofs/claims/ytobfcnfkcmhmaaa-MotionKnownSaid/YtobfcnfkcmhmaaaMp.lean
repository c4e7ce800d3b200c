/- The walks of planes and frames (chapter 5), and of their reference. -/
import Derived.Test.YtobfcnfkcmhmaaaMc
set_option linter.unusedVariables false
set_option linter.unusedSimpArgs false
namespace Go.Proofs.Zed
open Go Go.RowKit Tf
attribute [local irreducible] Try.prog

theorem sizes_fun {w : World} {a b : Int} : Fun Try.prog 62 [.int .i64 a, .int .i64 b] w fun v w' => v = .bool (decide (((1 ≤ a ∧ a ≤ 512) ∧ 1 ≤ b) ∧ b ≤ 512)) ∧ w = w' := by
  refine fun_run (m := 19) (rs := [.tmp 4]) Try.func62 rfl rfl rfl rfl rfl ?_
  have hs0 := HS.start w
  refine run_seq fun K1 k1 => ?_
  refine run_region ?_
  refine Ops.v (Yv.assign rfl) ?_
  refine Ops.nil ?_
  refine k1 _ _ ?_
  refine run_seq fun K2 k2 => ?_
  refine Run.cut (fun e_ w_ => w = w_ ∧ Le [(0, .int .i64 a), (1, .int .i64 b), (4, .bool (decide (((((1 : Int) ≤ a) ∧ (a ≤ (512 : Int))) ∧ ((1 : Int) ≤ b)) ∧ (b ≤ (512 : Int)))))] e_) ?_ ?_
  · -- region 1: its ways meet again
    refine run_region ?_
    refine Ops.v (Yv.move rfl) ?_
    refine Ops.v (Yv.ge rfl rfl) ?_
    refine Ops.dec (fun h3 => ?_) (fun h3 => ?_)
    · -- yes
      refine Ops.v (Yv.move rfl) ?_
      refine Ops.vg ⟨_, rfl, rfl⟩ (Yv.move rfl) ?_
      refine Ops.vg ⟨_, rfl, rfl⟩ (Yv.le rfl rfl) ?_
      refine Ops.dec (fun h4 => ?_) (fun h4 => ?_)
      · -- yes
        refine Ops.v (Yv.pick1 rfl rfl) ?_
        refine Ops.v (Yv.move rfl) ?_
        refine Ops.vg ⟨_, rfl, rfl⟩ (Yv.move rfl) ?_
        refine Ops.vg ⟨_, rfl, rfl⟩ (Yv.ge rfl rfl) ?_
        refine Ops.dec (fun h5 => ?_) (fun h5 => ?_)
        · -- yes
          refine Ops.v (Yv.pick1 rfl rfl) ?_
          refine Ops.v (Yv.move rfl) ?_
          refine Ops.vg ⟨_, rfl, rfl⟩ (Yv.move rfl) ?_
          refine Ops.vg ⟨_, rfl, rfl⟩ (Yv.le rfl rfl) ?_
          refine Ops.v (Yv.pick1 rfl rfl) ?_
          refine Ops.v (Yv.assign rfl) ?_
          refine Ops.nil ?_
          refine ⟨rfl, Sub.le ⟨rfl, rfl, lookB rfl (by first | (simp only [h3, h4, h5, ne_eq, not_true_eq_false, not_false_eq_true, or_true, true_or, or_false, false_or, and_true, true_and, and_false, false_and, decide_true, decide_false, or_self, and_self, Bool.decide_eq_true]; done) | simp [h3, h4, h5]), trivial⟩⟩
        · -- no
          refine Ops.v (Yv.pick1 rfl rfl) ?_
          refine Ops.v (Yv.move rfl) ?_
          refine Ops.skip ⟨_, rfl, rfl⟩ ?_
          refine Ops.skip ⟨_, rfl, rfl⟩ ?_
          refine Ops.v (Yv.pick0 rfl rfl) ?_
          refine Ops.v (Yv.assign rfl) ?_
          refine Ops.nil ?_
          refine ⟨rfl, Sub.le ⟨rfl, rfl, lookB rfl (by first | (simp only [h3, h4, h5, ne_eq, not_true_eq_false, not_false_eq_true, or_true, true_or, or_false, false_or, and_true, true_and, and_false, false_and, decide_true, decide_false, or_self, and_self, Bool.decide_eq_true]; done) | simp [h3, h4, h5]), trivial⟩⟩
      · -- no
        refine Ops.v (Yv.pick1 rfl rfl) ?_
        refine Ops.v (Yv.move rfl) ?_
        refine Ops.skip ⟨_, rfl, rfl⟩ ?_
        refine Ops.skip ⟨_, rfl, rfl⟩ ?_
        refine Ops.v (Yv.pick0 rfl rfl) ?_
        refine Ops.v (Yv.move rfl) ?_
        refine Ops.skip ⟨_, rfl, rfl⟩ ?_
        refine Ops.skip ⟨_, rfl, rfl⟩ ?_
        refine Ops.v (Yv.pick0 rfl rfl) ?_
        refine Ops.v (Yv.assign rfl) ?_
        refine Ops.nil ?_
        refine ⟨rfl, Sub.le ⟨rfl, rfl, lookB rfl (by first | (simp only [h3, h4, ne_eq, not_true_eq_false, not_false_eq_true, or_true, true_or, or_false, false_or, and_true, true_and, and_false, false_and, decide_true, decide_false, or_self, and_self, Bool.decide_eq_true]; done) | simp [h3, h4]), trivial⟩⟩
    · -- no
      refine Ops.v (Yv.move rfl) ?_
      refine Ops.skip ⟨_, rfl, rfl⟩ ?_
      refine Ops.skip ⟨_, rfl, rfl⟩ ?_
      refine Ops.v (Yv.pick0 rfl rfl) ?_
      refine Ops.v (Yv.move rfl) ?_
      refine Ops.skip ⟨_, rfl, rfl⟩ ?_
      refine Ops.skip ⟨_, rfl, rfl⟩ ?_
      refine Ops.v (Yv.pick0 rfl rfl) ?_
      refine Ops.v (Yv.move rfl) ?_
      refine Ops.skip ⟨_, rfl, rfl⟩ ?_
      refine Ops.skip ⟨_, rfl, rfl⟩ ?_
      refine Ops.v (Yv.pick0 rfl rfl) ?_
      refine Ops.v (Yv.assign rfl) ?_
      refine Ops.nil ?_
      refine ⟨rfl, Sub.le ⟨rfl, rfl, lookB rfl (by first | (simp only [h3, ne_eq, not_true_eq_false, not_false_eq_true, or_true, true_or, or_false, false_or, and_true, true_and, and_false, false_and, decide_true, decide_false, or_self, and_self, Bool.decide_eq_true]; done) | simp [h3]), trivial⟩⟩
  rintro e6 _ ⟨rfl, he6⟩
  refine k2 _ _ ?_
  refine Run.le he6 ?_
  refine run_ret ?_
  refine ⟨[.bool (decide (((((1 : Int) ≤ a) ∧ (a ≤ (512 : Int))) ∧ ((1 : Int) ≤ b)) ∧ (b ≤ (512 : Int))))], ⟨_, _, rfl, rfl, rfl⟩, ?_⟩
  exact ⟨rfl, rfl⟩

theorem check_fun {w : World} {W H : Int} {A : Option Addr} {m c : Nat} : Fun Try.prog 49 [.agg #[.int .i64 W, .int .i64 H, .slice A m c]] w fun v w' => v = .int .i64 (checkF W H m) ∧ HS w [] w' := by
  refine fun_run (m := 20) (rs := [.tmp 2]) Try.func49 rfl rfl rfl rfl rfl ?_
  have hs0 := HS.start w
  refine run_seq fun K1 k1 => ?_
  refine run_region ?_
  refine Ops.s (Step.box (cs := [.int .i64 W, .int .i64 H, .slice A m c]) hs0 rfl rfl (fun b2 w3 hs3 hb3 => ?_) True.intro (by rfl))
  refine Ops.v (Yv.assign rfl) ?_
  refine Ops.nil ?_
  refine k1 _ _ ?_
  refine run_seq fun K5 k5 => ?_
  refine run_seq fun K6 k6 => ?_
  refine Run.cut (fun e_ w_ => w3 = w_ ∧ Le [(0, .agg #[.int .i64 W, .int .i64 H, .slice A m c]), (1, .pointer (some ⟨b2, 0, none⟩)), (2, .int .i64 0), (19, .bool (decide ((¬ (((1 ≤ W ∧ W ≤ 512) ∧ 1 ≤ H) ∧ H ≤ 512)) ∨ ((m : Int) ≠ (W * H)))))] e_) ?_ ?_
  · -- region 1: its ways meet again
    refine run_region ?_
    refine Ops.v (Yv.fld F24_0 rfl) ?_
    refine Ops.v (Yv.load A3 rfl (now (hs3.cell 0 rfl 0 rfl))) ?_
    refine Ops.v (Yv.fld F24_1 rfl) ?_
    refine Ops.v (Yv.load A3 rfl (now (hs3.cell 0 rfl 1 rfl))) ?_
    refine Ops.s (Step.call rfl rfl (sizes_fun) (?_) True.intro (by rfl))
    rintro _ _ ⟨rfl, rfl⟩
    refine Ops.dec (fun h8 => ?_) (fun h8 => ?_)
    · -- yes
      refine Ops.v (Yv.not rfl) ?_
      refine Ops.v (Yv.move rfl) ?_
      refine Ops.vg ⟨_, rfl, rfl⟩ (Yv.fld F24_2 rfl) ?_
      refine Ops.vg ⟨_, rfl, rfl⟩ (Yv.load A22 rfl (now (hs3.cell 0 rfl 2 rfl))) ?_
      refine Ops.vg ⟨_, rfl, rfl⟩ (Yv.len (by rw [L22]; rfl) rfl) ?_
      refine Ops.vg ⟨_, rfl, rfl⟩ (Yv.fld F24_0 rfl) ?_
      refine Ops.vg ⟨_, rfl, rfl⟩ (Yv.load A3 rfl (now (hs3.cell 0 rfl 0 rfl))) ?_
      refine Ops.vg ⟨_, rfl, rfl⟩ (Yv.fld F24_1 rfl) ?_
      refine Ops.vg ⟨_, rfl, rfl⟩ (Yv.load A3 rfl (now (hs3.cell 0 rfl 1 rfl))) ?_
      have hWH := mul_bd (a := W) (b := H) (x := 512) (y := 512) (by omega) (by omega) (by omega) (by omega)
      refine Ops.vg ⟨_, rfl, rfl⟩ (Yv.mul rfl rfl (by omega)) ?_
      refine Ops.vg ⟨_, rfl, rfl⟩ (Yv.ne rfl rfl) ?_
      refine Ops.v (Yv.pick0 rfl rfl) ?_
      refine Ops.nil ?_
      refine ⟨rfl, Sub.le ⟨rfl, rfl, rfl, lookB rfl (by first | (simp only [h8, ne_eq, not_true_eq_false, not_false_eq_true, or_true, true_or, or_false, false_or, and_true, true_and, and_false, false_and, decide_true, decide_false, or_self, and_self, Bool.decide_eq_true]; done) | simp [h8]), trivial⟩⟩
    · -- no
      refine Ops.v (Yv.not rfl) ?_
      refine Ops.v (Yv.move rfl) ?_
      refine Ops.skip ⟨_, rfl, rfl⟩ ?_
      refine Ops.skip ⟨_, rfl, rfl⟩ ?_
      refine Ops.skip ⟨_, rfl, rfl⟩ ?_
      refine Ops.skip ⟨_, rfl, rfl⟩ ?_
      refine Ops.skip ⟨_, rfl, rfl⟩ ?_
      refine Ops.skip ⟨_, rfl, rfl⟩ ?_
      refine Ops.skip ⟨_, rfl, rfl⟩ ?_
      refine Ops.skip ⟨_, rfl, rfl⟩ ?_
      refine Ops.skip ⟨_, rfl, rfl⟩ ?_
      refine Ops.v (Yv.pick1 rfl rfl) ?_
      refine Ops.nil ?_
      refine ⟨rfl, Sub.le ⟨rfl, rfl, rfl, lookB rfl (by first | (simp only [h8, ne_eq, not_true_eq_false, not_false_eq_true, or_true, true_or, or_false, false_or, and_true, true_and, and_false, false_and, decide_true, decide_false, or_self, and_self, Bool.decide_eq_true]; done) | simp [h8]), trivial⟩⟩
  rintro e9 _ ⟨rfl, he9⟩
  refine k6 _ _ ?_
  refine Run.le he9 ?_
  refine run_ifp rfl (fun h10 => ?_) (fun h10 => ?_)
  · -- yes (¬ (((1 ≤ W ∧ W ≤ 512) ∧ 1 ≤ H) ∧ H ≤ 512)) ∨ ((m : Int) ≠ (W * H))
    refine run_seq fun K11 k11 => ?_
    refine run_region ?_
    refine Ops.v (Yv.assign rfl) ?_
    refine Ops.nil ?_
    refine k11 _ _ ?_
    refine run_ret ?_
    refine ⟨[.int .i64 2], ⟨_, _, rfl, rfl, rfl⟩, ?_⟩
    exact ⟨by rw [checkF, if_pos h10], hs3.pick [] _ (by decide) rfl⟩
  · -- no
    refine run_skip ?_
    refine k5 _ _ ?_
    refine run_seq fun K12 k12 => ?_
    refine run_region ?_
    refine Ops.v (Yv.assign rfl) ?_
    refine Ops.nil ?_
    refine k12 _ _ ?_
    refine run_ret ?_
    refine ⟨[.int .i64 0], ⟨_, _, rfl, rfl, rfl⟩, ?_⟩
    exact ⟨by rw [checkF, if_neg h10], hs3.pick [] _ (by decide) rfl⟩

theorem rcheck_fun {w : World} {W H : Int} {A : Option Addr} {m c : Nat} : Fun Try.prog 56 [.agg #[.int .i64 W, .int .i64 H, .slice A m c]] w fun v w' => v = .int .i64 (checkF W H m) ∧ HS w [] w' := by
  refine fun_run (m := 32) (rs := [.tmp 2]) Try.func56 rfl rfl rfl rfl rfl ?_
  have hs0 := HS.start w
  refine run_seq fun K1 k1 => ?_
  refine run_region ?_
  refine Ops.s (Step.box (cs := [.int .i64 W, .int .i64 H, .slice A m c]) hs0 rfl rfl (fun b2 w3 hs3 hb3 => ?_) True.intro (by rfl))
  refine Ops.v (Yv.assign rfl) ?_
  refine Ops.nil ?_
  refine k1 _ _ ?_
  refine run_seq fun K5 k5 => ?_
  refine run_seq fun K6 k6 => ?_
  refine Run.cut (fun e_ w_ => w3 = w_ ∧ Le [(0, .agg #[.int .i64 W, .int .i64 H, .slice A m c]), (1, .pointer (some ⟨b2, 0, none⟩)), (2, .int .i64 0), (31, .bool (decide (((((W < (1 : Int)) ∨ ((512 : Int) < W)) ∨ (H < (1 : Int))) ∨ ((512 : Int) < H)) ∨ ((m : Int) ≠ (W * H)))))] e_) ?_ ?_
  · -- region 1: its ways meet again
    refine run_region ?_
    refine Ops.v (Yv.fld F24_0 rfl) ?_
    refine Ops.v (Yv.load A3 rfl (now (hs3.cell 0 rfl 0 rfl))) ?_
    refine Ops.v (Yv.lt rfl rfl) ?_
    refine Ops.dec (fun h7 => ?_) (fun h7 => ?_)
    · -- yes
      refine Ops.v (Yv.move rfl) ?_
      refine Ops.skip ⟨_, rfl, rfl⟩ ?_
      refine Ops.skip ⟨_, rfl, rfl⟩ ?_
      refine Ops.skip ⟨_, rfl, rfl⟩ ?_
      refine Ops.v (Yv.pick1 rfl rfl) ?_
      refine Ops.v (Yv.move rfl) ?_
      refine Ops.skip ⟨_, rfl, rfl⟩ ?_
      refine Ops.skip ⟨_, rfl, rfl⟩ ?_
      refine Ops.skip ⟨_, rfl, rfl⟩ ?_
      refine Ops.v (Yv.pick1 rfl rfl) ?_
      refine Ops.v (Yv.move rfl) ?_
      refine Ops.skip ⟨_, rfl, rfl⟩ ?_
      refine Ops.skip ⟨_, rfl, rfl⟩ ?_
      refine Ops.skip ⟨_, rfl, rfl⟩ ?_
      refine Ops.v (Yv.pick1 rfl rfl) ?_
      refine Ops.v (Yv.move rfl) ?_
      refine Ops.skip ⟨_, rfl, rfl⟩ ?_
      refine Ops.skip ⟨_, rfl, rfl⟩ ?_
      refine Ops.skip ⟨_, rfl, rfl⟩ ?_
      refine Ops.skip ⟨_, rfl, rfl⟩ ?_
      refine Ops.skip ⟨_, rfl, rfl⟩ ?_
      refine Ops.skip ⟨_, rfl, rfl⟩ ?_
      refine Ops.skip ⟨_, rfl, rfl⟩ ?_
      refine Ops.skip ⟨_, rfl, rfl⟩ ?_
      refine Ops.skip ⟨_, rfl, rfl⟩ ?_
      refine Ops.v (Yv.pick1 rfl rfl) ?_
      refine Ops.nil ?_
      refine ⟨rfl, Sub.le ⟨rfl, rfl, rfl, lookB rfl (by first | (simp only [h7, ne_eq, not_true_eq_false, not_false_eq_true, or_true, true_or, or_false, false_or, and_true, true_and, and_false, false_and, decide_true, decide_false, or_self, and_self, Bool.decide_eq_true]; done) | simp [h7]), trivial⟩⟩
    · -- no
      refine Ops.v (Yv.move rfl) ?_
      refine Ops.vg ⟨_, rfl, rfl⟩ (Yv.fld F24_0 rfl) ?_
      refine Ops.vg ⟨_, rfl, rfl⟩ (Yv.load A3 rfl (now (hs3.cell 0 rfl 0 rfl))) ?_
      refine Ops.vg ⟨_, rfl, rfl⟩ (Yv.gt rfl rfl) ?_
      refine Ops.dec (fun h8 => ?_) (fun h8 => ?_)
      · -- yes
        refine Ops.v (Yv.pick0 rfl rfl) ?_
        refine Ops.v (Yv.move rfl) ?_
        refine Ops.skip ⟨_, rfl, rfl⟩ ?_
        refine Ops.skip ⟨_, rfl, rfl⟩ ?_
        refine Ops.skip ⟨_, rfl, rfl⟩ ?_
        refine Ops.v (Yv.pick1 rfl rfl) ?_
        refine Ops.v (Yv.move rfl) ?_
        refine Ops.skip ⟨_, rfl, rfl⟩ ?_
        refine Ops.skip ⟨_, rfl, rfl⟩ ?_
        refine Ops.skip ⟨_, rfl, rfl⟩ ?_
        refine Ops.v (Yv.pick1 rfl rfl) ?_
        refine Ops.v (Yv.move rfl) ?_
        refine Ops.skip ⟨_, rfl, rfl⟩ ?_
        refine Ops.skip ⟨_, rfl, rfl⟩ ?_
        refine Ops.skip ⟨_, rfl, rfl⟩ ?_
        refine Ops.skip ⟨_, rfl, rfl⟩ ?_
        refine Ops.skip ⟨_, rfl, rfl⟩ ?_
        refine Ops.skip ⟨_, rfl, rfl⟩ ?_
        refine Ops.skip ⟨_, rfl, rfl⟩ ?_
        refine Ops.skip ⟨_, rfl, rfl⟩ ?_
        refine Ops.skip ⟨_, rfl, rfl⟩ ?_
        refine Ops.v (Yv.pick1 rfl rfl) ?_
        refine Ops.nil ?_
        refine ⟨rfl, Sub.le ⟨rfl, rfl, rfl, lookB rfl (by first | (simp only [h7, h8, ne_eq, not_true_eq_false, not_false_eq_true, or_true, true_or, or_false, false_or, and_true, true_and, and_false, false_and, decide_true, decide_false, or_self, and_self, Bool.decide_eq_true]; done) | simp [h7, h8]), trivial⟩⟩
      · -- no
        refine Ops.v (Yv.pick0 rfl rfl) ?_
        refine Ops.v (Yv.move rfl) ?_
        refine Ops.vg ⟨_, rfl, rfl⟩ (Yv.fld F24_1 rfl) ?_
        refine Ops.vg ⟨_, rfl, rfl⟩ (Yv.load A3 rfl (now (hs3.cell 0 rfl 1 rfl))) ?_
        refine Ops.vg ⟨_, rfl, rfl⟩ (Yv.lt rfl rfl) ?_
        refine Ops.dec (fun h9 => ?_) (fun h9 => ?_)
        · -- yes
          refine Ops.v (Yv.pick0 rfl rfl) ?_
          refine Ops.v (Yv.move rfl) ?_
          refine Ops.skip ⟨_, rfl, rfl⟩ ?_
          refine Ops.skip ⟨_, rfl, rfl⟩ ?_
          refine Ops.skip ⟨_, rfl, rfl⟩ ?_
          refine Ops.v (Yv.pick1 rfl rfl) ?_
          refine Ops.v (Yv.move rfl) ?_
          refine Ops.skip ⟨_, rfl, rfl⟩ ?_
          refine Ops.skip ⟨_, rfl, rfl⟩ ?_
          refine Ops.skip ⟨_, rfl, rfl⟩ ?_
          refine Ops.skip ⟨_, rfl, rfl⟩ ?_
          refine Ops.skip ⟨_, rfl, rfl⟩ ?_
          refine Ops.skip ⟨_, rfl, rfl⟩ ?_
          refine Ops.skip ⟨_, rfl, rfl⟩ ?_
          refine Ops.skip ⟨_, rfl, rfl⟩ ?_
          refine Ops.skip ⟨_, rfl, rfl⟩ ?_
          refine Ops.v (Yv.pick1 rfl rfl) ?_
          refine Ops.nil ?_
          refine ⟨rfl, Sub.le ⟨rfl, rfl, rfl, lookB rfl (by first | (simp only [h7, h8, h9, ne_eq, not_true_eq_false, not_false_eq_true, or_true, true_or, or_false, false_or, and_true, true_and, and_false, false_and, decide_true, decide_false, or_self, and_self, Bool.decide_eq_true]; done) | simp [h7, h8, h9]), trivial⟩⟩
        · -- no
          refine Ops.v (Yv.pick0 rfl rfl) ?_
          refine Ops.v (Yv.move rfl) ?_
          refine Ops.vg ⟨_, rfl, rfl⟩ (Yv.fld F24_1 rfl) ?_
          refine Ops.vg ⟨_, rfl, rfl⟩ (Yv.load A3 rfl (now (hs3.cell 0 rfl 1 rfl))) ?_
          refine Ops.vg ⟨_, rfl, rfl⟩ (Yv.gt rfl rfl) ?_
          refine Ops.dec (fun h10 => ?_) (fun h10 => ?_)
          · -- yes
            refine Ops.v (Yv.pick0 rfl rfl) ?_
            refine Ops.v (Yv.move rfl) ?_
            refine Ops.skip ⟨_, rfl, rfl⟩ ?_
            refine Ops.skip ⟨_, rfl, rfl⟩ ?_
            refine Ops.skip ⟨_, rfl, rfl⟩ ?_
            refine Ops.skip ⟨_, rfl, rfl⟩ ?_
            refine Ops.skip ⟨_, rfl, rfl⟩ ?_
            refine Ops.skip ⟨_, rfl, rfl⟩ ?_
            refine Ops.skip ⟨_, rfl, rfl⟩ ?_
            refine Ops.skip ⟨_, rfl, rfl⟩ ?_
            refine Ops.skip ⟨_, rfl, rfl⟩ ?_
            refine Ops.v (Yv.pick1 rfl rfl) ?_
            refine Ops.nil ?_
            refine ⟨rfl, Sub.le ⟨rfl, rfl, rfl, lookB rfl (by first | (simp only [h7, h8, h9, h10, ne_eq, not_true_eq_false, not_false_eq_true, or_true, true_or, or_false, false_or, and_true, true_and, and_false, false_and, decide_true, decide_false, or_self, and_self, Bool.decide_eq_true]; done) | simp [h7, h8, h9, h10]), trivial⟩⟩
          · -- no
            refine Ops.v (Yv.pick0 rfl rfl) ?_
            refine Ops.v (Yv.move rfl) ?_
            refine Ops.vg ⟨_, rfl, rfl⟩ (Yv.fld F24_2 rfl) ?_
            refine Ops.vg ⟨_, rfl, rfl⟩ (Yv.load A22 rfl (now (hs3.cell 0 rfl 2 rfl))) ?_
            refine Ops.vg ⟨_, rfl, rfl⟩ (Yv.len (by rw [L22]; rfl) rfl) ?_
            refine Ops.vg ⟨_, rfl, rfl⟩ (Yv.fld F24_0 rfl) ?_
            refine Ops.vg ⟨_, rfl, rfl⟩ (Yv.load A3 rfl (now (hs3.cell 0 rfl 0 rfl))) ?_
            refine Ops.vg ⟨_, rfl, rfl⟩ (Yv.fld F24_1 rfl) ?_
            refine Ops.vg ⟨_, rfl, rfl⟩ (Yv.load A3 rfl (now (hs3.cell 0 rfl 1 rfl))) ?_
            have hWH := mul_bd (a := W) (b := H) (x := 512) (y := 512) (by omega) (by omega) (by omega) (by omega)
            refine Ops.vg ⟨_, rfl, rfl⟩ (Yv.mul rfl rfl (by omega)) ?_
            refine Ops.vg ⟨_, rfl, rfl⟩ (Yv.ne rfl rfl) ?_
            refine Ops.v (Yv.pick0 rfl rfl) ?_
            refine Ops.nil ?_
            refine ⟨rfl, Sub.le ⟨rfl, rfl, rfl, lookB rfl (by first | (simp only [h7, h8, h9, h10, ne_eq, not_true_eq_false, not_false_eq_true, or_true, true_or, or_false, false_or, and_true, true_and, and_false, false_and, decide_true, decide_false, or_self, and_self, Bool.decide_eq_true]; done) | simp [h7, h8, h9, h10]), trivial⟩⟩
  rintro e11 _ ⟨rfl, he11⟩
  refine k6 _ _ ?_
  refine Run.le he11 ?_
  refine run_ifp rfl (fun h12 => ?_) (fun h12 => ?_)
  · -- yes ((((W < (1 : Int)) ∨ ((512 : Int) < W)) ∨ (H < (1 : Int))) ∨ ((512 : Int) < H)) ∨ ((m : Int) ≠ (W * H))
    refine run_seq fun K13 k13 => ?_
    refine run_region ?_
    refine Ops.v (Yv.assign rfl) ?_
    refine Ops.nil ?_
    refine k13 _ _ ?_
    refine run_ret ?_
    refine ⟨[.int .i64 2], ⟨_, _, rfl, rfl, rfl⟩, ?_⟩
    exact ⟨by rw [checkF, if_pos (by omega)], hs3.pick [] _ (by decide) rfl⟩
  · -- no
    refine run_skip ?_
    refine k5 _ _ ?_
    refine run_seq fun K14 k14 => ?_
    refine run_region ?_
    refine Ops.v (Yv.assign rfl) ?_
    refine Ops.nil ?_
    refine k14 _ _ ?_
    refine run_ret ?_
    refine ⟨[.int .i64 0], ⟨_, _, rfl, rfl, rfl⟩, ?_⟩
    exact ⟨by rw [checkF, if_neg (by omega)], hs3.pick [] _ (by decide) rfl⟩

theorem sides_fun {w : World} {a b : Int} : Fun Try.prog 50 [.int .i64 a, .int .i64 b] w fun v w' => v = .bool (decide (sideP a ∧ sideP b)) ∧ w = w' := by
  refine fun_run (m := 25) (rs := [.tmp 4]) Try.func50 rfl rfl rfl rfl rfl ?_
  have hs0 := HS.start w
  refine run_seq fun K1 k1 => ?_
  refine run_region ?_
  refine Ops.v (Yv.assign rfl) ?_
  refine Ops.nil ?_
  refine k1 _ _ ?_
  refine run_seq fun K2 k2 => ?_
  refine Run.cut (fun e_ w_ => w = w_ ∧ Le [(0, .int .i64 a), (1, .int .i64 b), (4, .bool (decide (((((a % 2 ^ 1) = (0 : Int)) ∧ ((b % 2 ^ 1) = (0 : Int))) ∧ ((16 : Int) ≤ (min a b))) ∧ ((max a b) ≤ (256 : Int)))))] e_) ?_ ?_
  · -- region 1: its ways meet again
    refine run_region ?_
    refine Ops.v (Yv.move rfl) ?_
    refine Ops.v (Yv.andm rfl rfl 1 (by decide) (by rfl)) ?_
    refine Ops.v (Yv.eq rfl rfl) ?_
    refine Ops.dec (fun h3 => ?_) (fun h3 => ?_)
    · -- yes
      refine Ops.v (Yv.move rfl) ?_
      refine Ops.vg ⟨_, rfl, rfl⟩ (Yv.move rfl) ?_
      refine Ops.vg ⟨_, rfl, rfl⟩ (Yv.andm rfl rfl 1 (by decide) (by rfl)) ?_
      refine Ops.vg ⟨_, rfl, rfl⟩ (Yv.eq rfl rfl) ?_
      refine Ops.dec (fun h4 => ?_) (fun h4 => ?_)
      · -- yes
        refine Ops.v (Yv.pick1 rfl rfl) ?_
        refine Ops.v (Yv.move rfl) ?_
        refine Ops.vg ⟨_, rfl, rfl⟩ (Yv.move rfl) ?_
        refine Ops.vg ⟨_, rfl, rfl⟩ (Yv.move rfl) ?_
        refine Ops.vg ⟨_, rfl, rfl⟩ (Yv.min rfl rfl) ?_
        refine Ops.vg ⟨_, rfl, rfl⟩ (Yv.ge rfl rfl) ?_
        refine Ops.dec (fun h5 => ?_) (fun h5 => ?_)
        · -- yes
          refine Ops.v (Yv.pick1 rfl rfl) ?_
          refine Ops.v (Yv.move rfl) ?_
          refine Ops.vg ⟨_, rfl, rfl⟩ (Yv.move rfl) ?_
          refine Ops.vg ⟨_, rfl, rfl⟩ (Yv.move rfl) ?_
          refine Ops.vg ⟨_, rfl, rfl⟩ (Yv.max rfl rfl) ?_
          refine Ops.vg ⟨_, rfl, rfl⟩ (Yv.le rfl rfl) ?_
          refine Ops.v (Yv.pick1 rfl rfl) ?_
          refine Ops.v (Yv.assign rfl) ?_
          refine Ops.nil ?_
          refine ⟨rfl, Sub.le ⟨rfl, rfl, lookB rfl (by first | (simp only [h3, h4, h5, ne_eq, not_true_eq_false, not_false_eq_true, or_true, true_or, or_false, false_or, and_true, true_and, and_false, false_and, decide_true, decide_false, or_self, and_self, Bool.decide_eq_true]; done) | simp [h3, h4, h5]), trivial⟩⟩
        · -- no
          refine Ops.v (Yv.pick1 rfl rfl) ?_
          refine Ops.v (Yv.move rfl) ?_
          refine Ops.skip ⟨_, rfl, rfl⟩ ?_
          refine Ops.skip ⟨_, rfl, rfl⟩ ?_
          refine Ops.skip ⟨_, rfl, rfl⟩ ?_
          refine Ops.skip ⟨_, rfl, rfl⟩ ?_
          refine Ops.v (Yv.pick0 rfl rfl) ?_
          refine Ops.v (Yv.assign rfl) ?_
          refine Ops.nil ?_
          refine ⟨rfl, Sub.le ⟨rfl, rfl, lookB rfl (by first | (simp only [h3, h4, h5, ne_eq, not_true_eq_false, not_false_eq_true, or_true, true_or, or_false, false_or, and_true, true_and, and_false, false_and, decide_true, decide_false, or_self, and_self, Bool.decide_eq_true]; done) | simp [h3, h4, h5]), trivial⟩⟩
      · -- no
        refine Ops.v (Yv.pick1 rfl rfl) ?_
        refine Ops.v (Yv.move rfl) ?_
        refine Ops.skip ⟨_, rfl, rfl⟩ ?_
        refine Ops.skip ⟨_, rfl, rfl⟩ ?_
        refine Ops.skip ⟨_, rfl, rfl⟩ ?_
        refine Ops.skip ⟨_, rfl, rfl⟩ ?_
        refine Ops.v (Yv.pick0 rfl rfl) ?_
        refine Ops.v (Yv.move rfl) ?_
        refine Ops.skip ⟨_, rfl, rfl⟩ ?_
        refine Ops.skip ⟨_, rfl, rfl⟩ ?_
        refine Ops.skip ⟨_, rfl, rfl⟩ ?_
        refine Ops.skip ⟨_, rfl, rfl⟩ ?_
        refine Ops.v (Yv.pick0 rfl rfl) ?_
        refine Ops.v (Yv.assign rfl) ?_
        refine Ops.nil ?_
        refine ⟨rfl, Sub.le ⟨rfl, rfl, lookB rfl (by first | (simp only [h3, h4, ne_eq, not_true_eq_false, not_false_eq_true, or_true, true_or, or_false, false_or, and_true, true_and, and_false, false_and, decide_true, decide_false, or_self, and_self, Bool.decide_eq_true]; done) | simp [h3, h4]), trivial⟩⟩
    · -- no
      refine Ops.v (Yv.move rfl) ?_
      refine Ops.skip ⟨_, rfl, rfl⟩ ?_
      refine Ops.skip ⟨_, rfl, rfl⟩ ?_
      refine Ops.skip ⟨_, rfl, rfl⟩ ?_
      refine Ops.v (Yv.pick0 rfl rfl) ?_
      refine Ops.v (Yv.move rfl) ?_
      refine Ops.skip ⟨_, rfl, rfl⟩ ?_
      refine Ops.skip ⟨_, rfl, rfl⟩ ?_
      refine Ops.skip ⟨_, rfl, rfl⟩ ?_
      refine Ops.skip ⟨_, rfl, rfl⟩ ?_
      refine Ops.v (Yv.pick0 rfl rfl) ?_
      refine Ops.v (Yv.move rfl) ?_
      refine Ops.skip ⟨_, rfl, rfl⟩ ?_
      refine Ops.skip ⟨_, rfl, rfl⟩ ?_
      refine Ops.skip ⟨_, rfl, rfl⟩ ?_
      refine Ops.skip ⟨_, rfl, rfl⟩ ?_
      refine Ops.v (Yv.pick0 rfl rfl) ?_
      refine Ops.v (Yv.assign rfl) ?_
      refine Ops.nil ?_
      refine ⟨rfl, Sub.le ⟨rfl, rfl, lookB rfl (by first | (simp only [h3, ne_eq, not_true_eq_false, not_false_eq_true, or_true, true_or, or_false, false_or, and_true, true_and, and_false, false_and, decide_true, decide_false, or_self, and_self, Bool.decide_eq_true]; done) | simp [h3]), trivial⟩⟩
  rintro e6 _ ⟨rfl, he6⟩
  refine k2 _ _ ?_
  refine Run.le he6 ?_
  refine run_ret ?_
  refine ⟨[.bool (decide (((((a % 2 ^ 1) = (0 : Int)) ∧ ((b % 2 ^ 1) = (0 : Int))) ∧ ((16 : Int) ≤ (min a b))) ∧ ((max a b) ≤ (256 : Int))))], ⟨_, _, rfl, rfl, rfl⟩, ?_⟩
  exact ⟨congrArg Value.bool (decide_eq_decide.2 (by unfold sideP; omega)), rfl⟩

theorem rside_fun {w : World} {a : Int} : Fun Try.prog 57 [.int .i64 a] w fun v w' => v = .bool (decide (sideP a)) ∧ w = w' := by
  refine fun_run (m := 14) (rs := [.tmp 2]) Try.func57 rfl rfl rfl rfl rfl ?_
  have hs0 := HS.start w
  refine run_seq fun K1 k1 => ?_
  refine run_region ?_
  refine Ops.v (Yv.assign rfl) ?_
  refine Ops.nil ?_
  refine k1 _ _ ?_
  refine run_seq fun K2 k2 => ?_
  refine Run.cut (fun e_ w_ => w = w_ ∧ Le [(0, .int .i64 a), (2, .bool (decide ((((Int.tmod a 2) = (0 : Int)) ∧ ((16 : Int) ≤ a)) ∧ (a ≤ (256 : Int)))))] e_) ?_ ?_
  · -- region 1: its ways meet again
    refine run_region ?_
    refine Ops.v (Yv.move rfl) ?_
    refine Ops.v (Yv.remt rfl rfl (by omega)) ?_
    refine Ops.v (Yv.eq rfl rfl) ?_
    refine Ops.dec (fun h3 => ?_) (fun h3 => ?_)
    · -- yes
      refine Ops.v (Yv.move rfl) ?_
      refine Ops.vg ⟨_, rfl, rfl⟩ (Yv.move rfl) ?_
      refine Ops.vg ⟨_, rfl, rfl⟩ (Yv.ge rfl rfl) ?_
      refine Ops.dec (fun h4 => ?_) (fun h4 => ?_)
      · -- yes
        refine Ops.v (Yv.pick1 rfl rfl) ?_
        refine Ops.v (Yv.move rfl) ?_
        refine Ops.vg ⟨_, rfl, rfl⟩ (Yv.move rfl) ?_
        refine Ops.vg ⟨_, rfl, rfl⟩ (Yv.le rfl rfl) ?_
        refine Ops.v (Yv.pick1 rfl rfl) ?_
        refine Ops.v (Yv.assign rfl) ?_
        refine Ops.nil ?_
        refine ⟨rfl, Sub.le ⟨rfl, lookB rfl (by first | (simp only [h3, h4, ne_eq, not_true_eq_false, not_false_eq_true, or_true, true_or, or_false, false_or, and_true, true_and, and_false, false_and, decide_true, decide_false, or_self, and_self, Bool.decide_eq_true]; done) | simp [h3, h4]), trivial⟩⟩
      · -- no
        refine Ops.v (Yv.pick1 rfl rfl) ?_
        refine Ops.v (Yv.move rfl) ?_
        refine Ops.skip ⟨_, rfl, rfl⟩ ?_
        refine Ops.skip ⟨_, rfl, rfl⟩ ?_
        refine Ops.v (Yv.pick0 rfl rfl) ?_
        refine Ops.v (Yv.assign rfl) ?_
        refine Ops.nil ?_
        refine ⟨rfl, Sub.le ⟨rfl, lookB rfl (by first | (simp only [h3, h4, ne_eq, not_true_eq_false, not_false_eq_true, or_true, true_or, or_false, false_or, and_true, true_and, and_false, false_and, decide_true, decide_false, or_self, and_self, Bool.decide_eq_true]; done) | simp [h3, h4]), trivial⟩⟩
    · -- no
      refine Ops.v (Yv.move rfl) ?_
      refine Ops.skip ⟨_, rfl, rfl⟩ ?_
      refine Ops.skip ⟨_, rfl, rfl⟩ ?_
      refine Ops.v (Yv.pick0 rfl rfl) ?_
      refine Ops.v (Yv.move rfl) ?_
      refine Ops.skip ⟨_, rfl, rfl⟩ ?_
      refine Ops.skip ⟨_, rfl, rfl⟩ ?_
      refine Ops.v (Yv.pick0 rfl rfl) ?_
      refine Ops.v (Yv.assign rfl) ?_
      refine Ops.nil ?_
      refine ⟨rfl, Sub.le ⟨rfl, lookB rfl (by first | (simp only [h3, ne_eq, not_true_eq_false, not_false_eq_true, or_true, true_or, or_false, false_or, and_true, true_and, and_false, false_and, decide_true, decide_false, or_self, and_self, Bool.decide_eq_true]; done) | simp [h3]), trivial⟩⟩
  rintro e5 _ ⟨rfl, he5⟩
  refine k2 _ _ ?_
  refine Run.le he5 ?_
  refine run_ret ?_
  refine ⟨[.bool (decide ((((Int.tmod a 2) = (0 : Int)) ∧ ((16 : Int) ≤ a)) ∧ (a ≤ (256 : Int))))], ⟨_, _, rfl, rfl, rfl⟩, ?_⟩
  exact ⟨congrArg Value.bool (decide_eq_decide.2 (by have := tmod2 a; unfold sideP; omega)), rfl⟩

theorem whole_fun {w : World} {W0 H0 W1 H1 W2 H2 : Int} {A0 A1 A2 : Option Addr} {m0 m1 m2 c0 c1 c2 : Nat} : Fun Try.prog 28 [.agg #[.int .i64 W0, .int .i64 H0, .slice A0 m0 c0, .int .i64 W1, .int .i64 H1, .slice A1 m1 c1, .int .i64 W2, .int .i64 H2, .slice A2 m2 c2]] w fun v w' => v = .int .i64 (wholeF W0 H0 m0 W1 H1 m1 W2 H2 m2) ∧ HS w [] w' := by
  refine fun_run (m := 50) (rs := [.tmp 2]) Try.func28 rfl rfl rfl rfl rfl ?_
  have hs0 := HS.start w
  refine run_seq fun K1 k1 => ?_
  refine run_region ?_
  refine Ops.s (Step.box (cs := [.int .i64 W0, .int .i64 H0, .slice A0 m0 c0, .int .i64 W1, .int .i64 H1, .slice A1 m1 c1, .int .i64 W2, .int .i64 H2, .slice A2 m2 c2]) hs0 rfl rfl (fun b2 w3 hs3 hb3 => ?_) True.intro (by rfl))
  refine Ops.v (Yv.assign rfl) ?_
  refine Ops.nil ?_
  refine k1 _ _ ?_
  refine run_seq fun K5 k5 => ?_
  refine run_drawn [] (fun x => Below (w3.drew).heap.size (w3.drew) x) ?_ Tf.mixed (by kernel_rfl) (fun _ _ _ h => h)
  have hs6 := hs3.drew
  have hS7 := Below.refl (w3.drew).heap.size (w3.drew)
  refine Drw.a 0 rfl (by kernel_rfl) (Yv.fld F27_0 rfl) ?_
  refine Drw.a 1 rfl (by kernel_rfl) (Yv.idxa R25 rfl rfl (by decide) (by decide)) ?_
  refine Drw.a 2 rfl (by kernel_rfl) (Yv.fld F24_0 rfl) ?_
  refine Drw.l 3 rfl (by kernel_rfl) hS7 (Yv.load A3 rfl (fun _ hq_ => ((hs6.grow hq_).cell 0 rfl 0 rfl))) ?_
  refine Drw.a 4 rfl (by kernel_rfl) (Yv.fld F27_0 rfl) ?_
  refine Drw.a 5 rfl (by kernel_rfl) (Yv.idxa R25 rfl rfl (by decide) (by decide)) ?_
  refine Drw.a 6 rfl (by kernel_rfl) (Yv.fld F24_1 rfl) ?_
  refine Drw.l 7 rfl (by kernel_rfl) hS7 (Yv.load A3 rfl (fun _ hq_ => ((hs6.grow hq_).cell 0 rfl 1 rfl))) ?_
  refine Drw.a 8 rfl (by kernel_rfl) (Yv.assign rfl) ?_
  refine Drw.a 9 rfl (by kernel_rfl) (Yv.assign rfl) ?_
  refine Drw.done ?_ (by kernel_rfl)
  refine k5 _ _ ?_
  refine run_seq fun K8 k8 => ?_
  refine run_seq fun K9 k9 => ?_
  refine run_region ?_
  refine Ops.v (Yv.fld F27_0 rfl) ?_
  refine Ops.v (Yv.loadn (cs := [.int .i64 W0, .int .i64 H0, .slice A0 m0 c0, .int .i64 W1, .int .i64 H1, .slice A1 m1 c1, .int .i64 W2, .int .i64 H2, .slice A2 m2 c2]) A25 S25 rfl (now (hs6.cells 0 rfl 0 9))) ?_
  refine Ops.v (Yv.move rfl) ?_
  refine Ops.nil ?_
  refine k9 _ _ ?_
  refine run_block ?_
  refine run_rounds 4 ?_
  show Run _ _ _ (seqQ _ _) _ _
  refine run_seq fun K10 k10 => ?_
  refine run_region ?_
  refine Ops.v ((Yv.lt rfl rfl).to (v := .bool true) (by rfl)) ?_
  refine Ops.nil ?_
  refine k10 _ _ ?_
  refine run_seq fun K11 k11 => ?_
  refine run_if1 rfl ?_
  refine run_skip ?_
  refine k11 _ _ ?_
  refine run_seq fun K12 k12 => ?_
  refine run_block ?_
  refine run_seq fun K13 k13 => ?_
  refine run_region ?_
  refine Ops.v (Yv.move rfl) ?_
  refine Ops.v (Yv.elems (l := [.int .i64 W0, .int .i64 H0, .slice A0 m0 c0]) R25 A24 rfl rfl (by decide) (by decide) rfl) ?_
  refine Ops.s (Step.alloc (cs := [.int .i64 0, .int .i64 0, .slice none 0 0]) hs6 Z24 rfl (fun b14 w15 hs15 hb15 => ?_) True.intro (by rfl))
  refine Ops.v (Yv.assign rfl) ?_
  refine Ops.s (Step.store (vs := [.int .i64 W0, .int .i64 H0, .slice A0 m0 c0]) 0 hs15 rfl rfl rfl rfl S24 (Nat.le_of_ble_eq_true rfl) rfl (fun w17 hs17 => ?_) True.intro)
  replace hs17 : HS _ [.blk _ [_, _, _] _, .blk _ [_, _, _, _, _, _, _, _, _] _] _ := hs17
  refine Ops.nil ?_
  refine k13 _ _ ?_
  refine run_seq fun K18 k18 => ?_
  refine run_region ?_
  refine Ops.v (Yv.move rfl) ?_
  refine Ops.v ((Yv.min rfl rfl).to (v := .int .i64 0) (by rfl)) ?_
  refine Ops.v (Yv.assign rfl) ?_
  refine Ops.nil ?_
  refine k18 _ _ ?_
  refine run_seq fun K19 k19 => ?_
  refine Run.cut (fun e_ w_ => HS w [.blk b14 [.int .i64 W0, .int .i64 H0, .slice A0 m0 c0] 24, .blk b2 [.int .i64 W0, .int .i64 H0, .slice A0 m0 c0, .int .i64 W1, .int .i64 H1, .slice A1 m1 c1, .int .i64 W2, .int .i64 H2, .slice A2 m2 c2] 27] w_ ∧ Le [(0, .agg #[.int .i64 W0, .int .i64 H0, .slice A0 m0 c0, .int .i64 W1, .int .i64 H1, .slice A1 m1 c1, .int .i64 W2, .int .i64 H2, .slice A2 m2 c2]), (1, .pointer (some ⟨b2, 0, none⟩)), (2, .int .i64 0), (3, .int .i64 W0), (4, .int .i64 H0), (5, .int .i64 0), (6, .pointer (some ⟨b14, 0, none⟩)), (7, .int .i64 0), (17, .agg #[.int .i64 W0, .int .i64 H0, .slice A0 m0 c0, .int .i64 W1, .int .i64 H1, .slice A1 m1 c1, .int .i64 W2, .int .i64 H2, .slice A2 m2 c2]), (18, .int .i64 0), (19, .bool true), (48, .bool (decide (((((checkF W0 H0 m0) ≠ (0 : Int)) ∨ (¬ (sideP W0 ∧ sideP H0))) ∨ (W0 ≠ (W0 / 2 ^ 0))) ∨ (H0 ≠ (H0 / 2 ^ 0)))))] e_) ?_ ?_
  · -- region 6: its ways meet again
    refine run_drawn [] (fun x => Below (w17.drew).heap.size (w17.drew) x) ?_ Tf.mixed (by kernel_rfl) (fun _ _ _ h => h)
    have hs20 := hs17.drew
    have hS21 := Below.refl (w17.drew).heap.size (w17.drew)
    refine Drw.l 0 rfl (by kernel_rfl) hS21 (Yv.loadn (cs := [.int .i64 W0, .int .i64 H0, .slice A0 m0 c0]) A24 S24 rfl (fun _ hq_ => ((hs20.grow hq_).cells 0 rfl 0 3))) ?_
    refine Drw.one 1 rfl (by kernel_rfl) (Step.call rfl rfl (check_fun) (?_) True.intro (by rfl))
    rintro _ w22 ⟨rfl, hs22⟩
    have hS23 := HS.keepS hS21 (Nat.le_refl _) hs22
    refine ⟨fun _ _ => hS23, ?_⟩
    replace hs22 := hs20.call hs22
    refine Drw.a 2 rfl (by kernel_rfl) (Yv.ne rfl rfl) ?_
    refine Drw.dec (fun h24 => ?_) (fun h24 => ?_)
    · -- yes
      refine Drw.a 3 rfl (by kernel_rfl) (Yv.move rfl) ?_
      refine Drw.no 4 rfl (by kernel_rfl) ?_ ⟨_, rfl, rfl⟩
      refine Drw.no 5 rfl (by kernel_rfl) ?_ ⟨_, rfl, rfl⟩
      refine Drw.no 6 rfl (by kernel_rfl) ?_ ⟨_, rfl, rfl⟩
      refine Drw.no 7 rfl (by kernel_rfl) ?_ ⟨_, rfl, rfl⟩
      refine Drw.a 8 rfl (by kernel_rfl) (Yv.pick1 rfl rfl) ?_
      refine Drw.a 9 rfl (by kernel_rfl) (Yv.move rfl) ?_
      refine Drw.no 10 rfl (by kernel_rfl) ?_ ⟨_, rfl, rfl⟩
      refine Drw.no 11 rfl (by kernel_rfl) ?_ ⟨_, rfl, rfl⟩
      refine Drw.no 12 rfl (by kernel_rfl) ?_ ⟨_, rfl, rfl⟩
      refine Drw.no 13 rfl (by kernel_rfl) ?_ ⟨_, rfl, rfl⟩
      refine Drw.no 14 rfl (by kernel_rfl) ?_ ⟨_, rfl, rfl⟩
      refine Drw.no 15 rfl (by kernel_rfl) ?_ ⟨_, rfl, rfl⟩
      refine Drw.a 16 rfl (by kernel_rfl) (Yv.pick1 rfl rfl) ?_
      refine Drw.a 17 rfl (by kernel_rfl) (Yv.move rfl) ?_
      refine Drw.no 18 rfl (by kernel_rfl) ?_ ⟨_, rfl, rfl⟩
      refine Drw.no 19 rfl (by kernel_rfl) ?_ ⟨_, rfl, rfl⟩
      refine Drw.no 20 rfl (by kernel_rfl) ?_ ⟨_, rfl, rfl⟩
      refine Drw.no 21 rfl (by kernel_rfl) ?_ ⟨_, rfl, rfl⟩
      refine Drw.no 22 rfl (by kernel_rfl) ?_ ⟨_, rfl, rfl⟩
      refine Drw.no 23 rfl (by kernel_rfl) ?_ ⟨_, rfl, rfl⟩
      refine Drw.a 24 rfl (by kernel_rfl) (Yv.pick1 rfl rfl) ?_
      refine Drw.done ?_ (by kernel_rfl)
      refine ⟨hs22, Sub.le ⟨rfl, rfl, rfl, rfl, rfl, rfl, rfl, rfl, rfl, rfl, rfl, lookB rfl (by first | (simp only [h24, ne_eq, not_true_eq_false, not_false_eq_true, or_true, true_or, or_false, false_or, and_true, true_and, and_false, false_and, decide_true, decide_false, or_self, and_self, Bool.decide_eq_true]; done) | simp [h24]), trivial⟩⟩
    · -- no
      refine Drw.a 3 rfl (by kernel_rfl) (Yv.move rfl) ?_
      refine Drw.a 4 rfl (by kernel_rfl) (Yv.move rfl) ?_ ⟨_, rfl, rfl⟩
      refine Drw.a 5 rfl (by kernel_rfl) (Yv.move rfl) ?_ ⟨_, rfl, rfl⟩
      refine Drw.one 6 rfl (by kernel_rfl) (Step.call rfl rfl (sides_fun) (?_) ⟨_, rfl, rfl⟩ (by rfl))
      rintro _ _ ⟨rfl, rfl⟩
      refine ⟨fun _ h => h, ?_⟩
      refine Drw.dec (fun h26 => ?_) (fun h26 => ?_)
      · -- yes
        refine Drw.a 7 rfl (by kernel_rfl) (Yv.not rfl) ?_ ⟨_, rfl, rfl⟩
        refine Drw.a 8 rfl (by kernel_rfl) (Yv.pick0 rfl rfl) ?_
        refine Drw.a 9 rfl (by kernel_rfl) (Yv.move rfl) ?_
        refine Drw.a 10 rfl (by kernel_rfl) (Yv.fld F24_0 rfl) ?_ ⟨_, rfl, rfl⟩
        refine Drw.l 11 rfl (by kernel_rfl) hS23 (Yv.load A3 rfl (fun _ hq_ => ((hs20.grow hq_).cell 0 rfl 0 rfl))) ?_ ⟨_, rfl, rfl⟩
        refine Drw.a 12 rfl (by kernel_rfl) (Yv.move rfl) ?_ ⟨_, rfl, rfl⟩
        refine Drw.a 13 rfl (by kernel_rfl) (Yv.move rfl) ?_ ⟨_, rfl, rfl⟩
        refine Drw.a 14 rfl (by kernel_rfl) (Yv.shr rfl rfl 0 (by first | rfl | omega) (by omega)) ?_ ⟨_, rfl, rfl⟩
        refine Drw.a 15 rfl (by kernel_rfl) (Yv.ne rfl rfl) ?_ ⟨_, rfl, rfl⟩
        refine Drw.dec (fun h27 => ?_) (fun h27 => ?_)
        · -- yes
          refine Drw.a 16 rfl (by kernel_rfl) (Yv.pick0 rfl rfl) ?_
          refine Drw.a 17 rfl (by kernel_rfl) (Yv.move rfl) ?_
          refine Drw.no 18 rfl (by kernel_rfl) ?_ ⟨_, rfl, rfl⟩
          refine Drw.no 19 rfl (by kernel_rfl) ?_ ⟨_, rfl, rfl⟩
          refine Drw.no 20 rfl (by kernel_rfl) ?_ ⟨_, rfl, rfl⟩
          refine Drw.no 21 rfl (by kernel_rfl) ?_ ⟨_, rfl, rfl⟩
          refine Drw.no 22 rfl (by kernel_rfl) ?_ ⟨_, rfl, rfl⟩
          refine Drw.no 23 rfl (by kernel_rfl) ?_ ⟨_, rfl, rfl⟩
          refine Drw.a 24 rfl (by kernel_rfl) (Yv.pick1 rfl rfl) ?_
          refine Drw.done ?_ (by kernel_rfl)
          refine ⟨hs22, Sub.le ⟨rfl, rfl, rfl, rfl, rfl, rfl, rfl, rfl, rfl, rfl, rfl, lookB rfl (by first | (simp only [h24, h26, h27, ne_eq, not_true_eq_false, not_false_eq_true, or_true, true_or, or_false, false_or, and_true, true_and, and_false, false_and, decide_true, decide_false, or_self, and_self, Bool.decide_eq_true]; done) | simp [h24, h26, h27]), trivial⟩⟩
        · -- no
          refine Drw.a 16 rfl (by kernel_rfl) (Yv.pick0 rfl rfl) ?_
          refine Drw.a 17 rfl (by kernel_rfl) (Yv.move rfl) ?_
          refine Drw.a 18 rfl (by kernel_rfl) (Yv.fld F24_1 rfl) ?_ ⟨_, rfl, rfl⟩
          refine Drw.l 19 rfl (by kernel_rfl) hS23 (Yv.load A3 rfl (fun _ hq_ => ((hs20.grow hq_).cell 0 rfl 1 rfl))) ?_ ⟨_, rfl, rfl⟩
          refine Drw.a 20 rfl (by kernel_rfl) (Yv.move rfl) ?_ ⟨_, rfl, rfl⟩
          refine Drw.a 21 rfl (by kernel_rfl) (Yv.move rfl) ?_ ⟨_, rfl, rfl⟩
          refine Drw.a 22 rfl (by kernel_rfl) (Yv.shr rfl rfl 0 (by first | rfl | omega) (by omega)) ?_ ⟨_, rfl, rfl⟩
          refine Drw.a 23 rfl (by kernel_rfl) (Yv.ne rfl rfl) ?_ ⟨_, rfl, rfl⟩
          refine Drw.a 24 rfl (by kernel_rfl) (Yv.pick0 rfl rfl) ?_
          refine Drw.done ?_ (by kernel_rfl)
          refine ⟨hs22, Sub.le ⟨rfl, rfl, rfl, rfl, rfl, rfl, rfl, rfl, rfl, rfl, rfl, lookB rfl (by first | (simp only [h24, h26, h27, ne_eq, not_true_eq_false, not_false_eq_true, or_true, true_or, or_false, false_or, and_true, true_and, and_false, false_and, decide_true, decide_false, or_self, and_self, Bool.decide_eq_true]; done) | simp [h24, h26, h27]), trivial⟩⟩
      · -- no
        refine Drw.a 7 rfl (by kernel_rfl) (Yv.not rfl) ?_ ⟨_, rfl, rfl⟩
        refine Drw.a 8 rfl (by kernel_rfl) (Yv.pick0 rfl rfl) ?_
        refine Drw.a 9 rfl (by kernel_rfl) (Yv.move rfl) ?_
        refine Drw.no 10 rfl (by kernel_rfl) ?_ ⟨_, rfl, rfl⟩
        refine Drw.no 11 rfl (by kernel_rfl) ?_ ⟨_, rfl, rfl⟩
        refine Drw.no 12 rfl (by kernel_rfl) ?_ ⟨_, rfl, rfl⟩
        refine Drw.no 13 rfl (by kernel_rfl) ?_ ⟨_, rfl, rfl⟩
        refine Drw.no 14 rfl (by kernel_rfl) ?_ ⟨_, rfl, rfl⟩
        refine Drw.no 15 rfl (by kernel_rfl) ?_ ⟨_, rfl, rfl⟩
        refine Drw.a 16 rfl (by kernel_rfl) (Yv.pick1 rfl rfl) ?_
        refine Drw.a 17 rfl (by kernel_rfl) (Yv.move rfl) ?_
        refine Drw.no 18 rfl (by kernel_rfl) ?_ ⟨_, rfl, rfl⟩
        refine Drw.no 19 rfl (by kernel_rfl) ?_ ⟨_, rfl, rfl⟩
        refine Drw.no 20 rfl (by kernel_rfl) ?_ ⟨_, rfl, rfl⟩
        refine Drw.no 21 rfl (by kernel_rfl) ?_ ⟨_, rfl, rfl⟩
        refine Drw.no 22 rfl (by kernel_rfl) ?_ ⟨_, rfl, rfl⟩
        refine Drw.no 23 rfl (by kernel_rfl) ?_ ⟨_, rfl, rfl⟩
        refine Drw.a 24 rfl (by kernel_rfl) (Yv.pick1 rfl rfl) ?_
        refine Drw.done ?_ (by kernel_rfl)
        refine ⟨hs22, Sub.le ⟨rfl, rfl, rfl, rfl, rfl, rfl, rfl, rfl, rfl, rfl, rfl, lookB rfl (by first | (simp only [h24, h26, ne_eq, not_true_eq_false, not_false_eq_true, or_true, true_or, or_false, false_or, and_true, true_and, and_false, false_and, decide_true, decide_false, or_self, and_self, Bool.decide_eq_true]; done) | simp [h24, h26]), trivial⟩⟩
  rintro e28 w28 ⟨hs28, he28⟩
  refine k19 _ _ ?_
  refine Run.le he28 ?_
  refine run_ifp rfl (fun h29 => ?_) (fun h29 => ?_)
  · -- yes ((((checkF W0 H0 m0) ≠ (0 : Int)) ∨ (¬ (sideP W0 ∧ sideP H0))) ∨ (W0 ≠ (W0 / 2 ^ 0))) ∨ (H0 ≠ (H0 / 2 ^ 0))
    refine run_seq fun K30 k30 => ?_
    refine run_region ?_
    refine Ops.v (Yv.assign rfl) ?_
    refine Ops.nil ?_
    refine k30 _ _ ?_
    refine run_ret ?_
    refine ⟨[.int .i64 2], ⟨_, _, rfl, rfl, rfl⟩, ?_⟩
    exact ⟨congrArg (Value.int .i64) (by rw [wholeF, if_neg (by simp only [wholeP, sideP] at *; omega)]), hs28.pick [] _ (by decide) rfl⟩
  · -- no
    refine run_skip ?_
    refine k12 _ _ ?_
    refine run_region ?_
    refine Ops.v ((Yv.add rfl rfl (by omega)).to (v := .int .i64 1) (by rfl)) ?_
    refine Ops.v (Yv.move rfl) ?_
    refine Ops.nil ?_
    show Run _ _ _ (seqQ _ _) _ _
    refine run_seq fun K31 k31 => ?_
    refine run_region ?_
    refine Ops.v ((Yv.lt rfl rfl).to (v := .bool true) (by rfl)) ?_
    refine Ops.nil ?_
    refine k31 _ _ ?_
    refine run_seq fun K32 k32 => ?_
    refine run_if1 rfl ?_
    refine run_skip ?_
    refine k32 _ _ ?_
    refine run_seq fun K33 k33 => ?_
    refine run_block ?_
    refine run_seq fun K34 k34 => ?_
    refine run_region ?_
    refine Ops.v (Yv.move rfl) ?_
    refine Ops.v (Yv.elems (l := [.int .i64 W1, .int .i64 H1, .slice A1 m1 c1]) R25 A24 rfl rfl (by decide) (by decide) rfl) ?_
    refine Ops.s (Step.alloc (cs := [.int .i64 0, .int .i64 0, .slice none 0 0]) hs28 Z24 rfl (fun b35 w36 hs36 hb36 => ?_) True.intro (by rfl))
    refine Ops.v (Yv.assign rfl) ?_
    refine Ops.s (Step.store (vs := [.int .i64 W1, .int .i64 H1, .slice A1 m1 c1]) 0 hs36 rfl rfl rfl rfl S24 (Nat.le_of_ble_eq_true rfl) rfl (fun w38 hs38 => ?_) True.intro)
    replace hs38 : HS _ [.blk _ [_, _, _] _, .blk _ [_, _, _] _, .blk _ [_, _, _, _, _, _, _, _, _] _] _ := hs38
    refine Ops.nil ?_
    refine k34 _ _ ?_
    refine run_seq fun K39 k39 => ?_
    refine run_region ?_
    refine Ops.v (Yv.move rfl) ?_
    refine Ops.v ((Yv.min rfl rfl).to (v := .int .i64 1) (by rfl)) ?_
    refine Ops.v (Yv.assign rfl) ?_
    refine Ops.nil ?_
    refine k39 _ _ ?_
    refine run_seq fun K40 k40 => ?_
    refine Run.cut (fun e_ w_ => HS w [.blk b35 [.int .i64 W1, .int .i64 H1, .slice A1 m1 c1] 24, .blk b14 [.int .i64 W0, .int .i64 H0, .slice A0 m0 c0] 24, .blk b2 [.int .i64 W0, .int .i64 H0, .slice A0 m0 c0, .int .i64 W1, .int .i64 H1, .slice A1 m1 c1, .int .i64 W2, .int .i64 H2, .slice A2 m2 c2] 27] w_ ∧ Le [(0, .agg #[.int .i64 W0, .int .i64 H0, .slice A0 m0 c0, .int .i64 W1, .int .i64 H1, .slice A1 m1 c1, .int .i64 W2, .int .i64 H2, .slice A2 m2 c2]), (1, .pointer (some ⟨b2, 0, none⟩)), (2, .int .i64 0), (3, .int .i64 W0), (4, .int .i64 H0), (5, .int .i64 1), (6, .pointer (some ⟨b35, 0, none⟩)), (7, .int .i64 1), (17, .agg #[.int .i64 W0, .int .i64 H0, .slice A0 m0 c0, .int .i64 W1, .int .i64 H1, .slice A1 m1 c1, .int .i64 W2, .int .i64 H2, .slice A2 m2 c2]), (18, .int .i64 1), (19, .bool true), (48, .bool (decide (((((checkF W1 H1 m1) ≠ (0 : Int)) ∨ (¬ (sideP W0 ∧ sideP H0))) ∨ (W1 ≠ (W0 / 2 ^ 1))) ∨ (H1 ≠ (H0 / 2 ^ 1)))))] e_) ?_ ?_
    · -- region 6: its ways meet again
      refine run_drawn [] (fun x => Below (w38.drew).heap.size (w38.drew) x) ?_ Tf.mixed (by kernel_rfl) (fun _ _ _ h => h)
      have hs41 := hs38.drew
      have hS42 := Below.refl (w38.drew).heap.size (w38.drew)
      refine Drw.l 0 rfl (by kernel_rfl) hS42 (Yv.loadn (cs := [.int .i64 W1, .int .i64 H1, .slice A1 m1 c1]) A24 S24 rfl (fun _ hq_ => ((hs41.grow hq_).cells 0 rfl 0 3))) ?_
      refine Drw.one 1 rfl (by kernel_rfl) (Step.call rfl rfl (check_fun) (?_) True.intro (by rfl))
      rintro _ w43 ⟨rfl, hs43⟩
      have hS44 := HS.keepS hS42 (Nat.le_refl _) hs43
      refine ⟨fun _ _ => hS44, ?_⟩
      replace hs43 := hs41.call hs43
      refine Drw.a 2 rfl (by kernel_rfl) (Yv.ne rfl rfl) ?_
      refine Drw.dec (fun h45 => ?_) (fun h45 => ?_)
      · -- yes
        refine Drw.a 3 rfl (by kernel_rfl) (Yv.move rfl) ?_
        refine Drw.no 4 rfl (by kernel_rfl) ?_ ⟨_, rfl, rfl⟩
        refine Drw.no 5 rfl (by kernel_rfl) ?_ ⟨_, rfl, rfl⟩
        refine Drw.no 6 rfl (by kernel_rfl) ?_ ⟨_, rfl, rfl⟩
        refine Drw.no 7 rfl (by kernel_rfl) ?_ ⟨_, rfl, rfl⟩
        refine Drw.a 8 rfl (by kernel_rfl) (Yv.pick1 rfl rfl) ?_
        refine Drw.a 9 rfl (by kernel_rfl) (Yv.move rfl) ?_
        refine Drw.no 10 rfl (by kernel_rfl) ?_ ⟨_, rfl, rfl⟩
        refine Drw.no 11 rfl (by kernel_rfl) ?_ ⟨_, rfl, rfl⟩
        refine Drw.no 12 rfl (by kernel_rfl) ?_ ⟨_, rfl, rfl⟩
        refine Drw.no 13 rfl (by kernel_rfl) ?_ ⟨_, rfl, rfl⟩
        refine Drw.no 14 rfl (by kernel_rfl) ?_ ⟨_, rfl, rfl⟩
        refine Drw.no 15 rfl (by kernel_rfl) ?_ ⟨_, rfl, rfl⟩
        refine Drw.a 16 rfl (by kernel_rfl) (Yv.pick1 rfl rfl) ?_
        refine Drw.a 17 rfl (by kernel_rfl) (Yv.move rfl) ?_
        refine Drw.no 18 rfl (by kernel_rfl) ?_ ⟨_, rfl, rfl⟩
        refine Drw.no 19 rfl (by kernel_rfl) ?_ ⟨_, rfl, rfl⟩
        refine Drw.no 20 rfl (by kernel_rfl) ?_ ⟨_, rfl, rfl⟩
        refine Drw.no 21 rfl (by kernel_rfl) ?_ ⟨_, rfl, rfl⟩
        refine Drw.no 22 rfl (by kernel_rfl) ?_ ⟨_, rfl, rfl⟩
        refine Drw.no 23 rfl (by kernel_rfl) ?_ ⟨_, rfl, rfl⟩
        refine Drw.a 24 rfl (by kernel_rfl) (Yv.pick1 rfl rfl) ?_
        refine Drw.done ?_ (by kernel_rfl)
        refine ⟨hs43, Sub.le ⟨rfl, rfl, rfl, rfl, rfl, rfl, rfl, rfl, rfl, rfl, rfl, lookB rfl (by first | (simp only [h45, ne_eq, not_true_eq_false, not_false_eq_true, or_true, true_or, or_false, false_or, and_true, true_and, and_false, false_and, decide_true, decide_false, or_self, and_self, Bool.decide_eq_true]; done) | simp [h45]), trivial⟩⟩
      · -- no
        refine Drw.a 3 rfl (by kernel_rfl) (Yv.move rfl) ?_
        refine Drw.a 4 rfl (by kernel_rfl) (Yv.move rfl) ?_ ⟨_, rfl, rfl⟩
        refine Drw.a 5 rfl (by kernel_rfl) (Yv.move rfl) ?_ ⟨_, rfl, rfl⟩
        refine Drw.one 6 rfl (by kernel_rfl) (Step.call rfl rfl (sides_fun) (?_) ⟨_, rfl, rfl⟩ (by rfl))
        rintro _ _ ⟨rfl, rfl⟩
        refine ⟨fun _ h => h, ?_⟩
        refine Drw.dec (fun h47 => ?_) (fun h47 => ?_)
        · -- yes
          refine Drw.a 7 rfl (by kernel_rfl) (Yv.not rfl) ?_ ⟨_, rfl, rfl⟩
          refine Drw.a 8 rfl (by kernel_rfl) (Yv.pick0 rfl rfl) ?_
          refine Drw.a 9 rfl (by kernel_rfl) (Yv.move rfl) ?_
          refine Drw.a 10 rfl (by kernel_rfl) (Yv.fld F24_0 rfl) ?_ ⟨_, rfl, rfl⟩
          refine Drw.l 11 rfl (by kernel_rfl) hS44 (Yv.load A3 rfl (fun _ hq_ => ((hs41.grow hq_).cell 0 rfl 0 rfl))) ?_ ⟨_, rfl, rfl⟩
          refine Drw.a 12 rfl (by kernel_rfl) (Yv.move rfl) ?_ ⟨_, rfl, rfl⟩
          refine Drw.a 13 rfl (by kernel_rfl) (Yv.move rfl) ?_ ⟨_, rfl, rfl⟩
          refine Drw.a 14 rfl (by kernel_rfl) (Yv.shr rfl rfl 1 (by first | rfl | omega) (by omega)) ?_ ⟨_, rfl, rfl⟩
          refine Drw.a 15 rfl (by kernel_rfl) (Yv.ne rfl rfl) ?_ ⟨_, rfl, rfl⟩
          refine Drw.dec (fun h48 => ?_) (fun h48 => ?_)
          · -- yes
            refine Drw.a 16 rfl (by kernel_rfl) (Yv.pick0 rfl rfl) ?_
            refine Drw.a 17 rfl (by kernel_rfl) (Yv.move rfl) ?_
            refine Drw.no 18 rfl (by kernel_rfl) ?_ ⟨_, rfl, rfl⟩
            refine Drw.no 19 rfl (by kernel_rfl) ?_ ⟨_, rfl, rfl⟩
            refine Drw.no 20 rfl (by kernel_rfl) ?_ ⟨_, rfl, rfl⟩
            refine Drw.no 21 rfl (by kernel_rfl) ?_ ⟨_, rfl, rfl⟩
            refine Drw.no 22 rfl (by kernel_rfl) ?_ ⟨_, rfl, rfl⟩
            refine Drw.no 23 rfl (by kernel_rfl) ?_ ⟨_, rfl, rfl⟩
            refine Drw.a 24 rfl (by kernel_rfl) (Yv.pick1 rfl rfl) ?_
            refine Drw.done ?_ (by kernel_rfl)
            refine ⟨hs43, Sub.le ⟨rfl, rfl, rfl, rfl, rfl, rfl, rfl, rfl, rfl, rfl, rfl, lookB rfl (by first | (simp only [h45, h47, h48, ne_eq, not_true_eq_false, not_false_eq_true, or_true, true_or, or_false, false_or, and_true, true_and, and_false, false_and, decide_true, decide_false, or_self, and_self, Bool.decide_eq_true]; done) | simp [h45, h47, h48]), trivial⟩⟩
          · -- no
            refine Drw.a 16 rfl (by kernel_rfl) (Yv.pick0 rfl rfl) ?_
            refine Drw.a 17 rfl (by kernel_rfl) (Yv.move rfl) ?_
            refine Drw.a 18 rfl (by kernel_rfl) (Yv.fld F24_1 rfl) ?_ ⟨_, rfl, rfl⟩
            refine Drw.l 19 rfl (by kernel_rfl) hS44 (Yv.load A3 rfl (fun _ hq_ => ((hs41.grow hq_).cell 0 rfl 1 rfl))) ?_ ⟨_, rfl, rfl⟩
            refine Drw.a 20 rfl (by kernel_rfl) (Yv.move rfl) ?_ ⟨_, rfl, rfl⟩
            refine Drw.a 21 rfl (by kernel_rfl) (Yv.move rfl) ?_ ⟨_, rfl, rfl⟩
            refine Drw.a 22 rfl (by kernel_rfl) (Yv.shr rfl rfl 1 (by first | rfl | omega) (by omega)) ?_ ⟨_, rfl, rfl⟩
            refine Drw.a 23 rfl (by kernel_rfl) (Yv.ne rfl rfl) ?_ ⟨_, rfl, rfl⟩
            refine Drw.a 24 rfl (by kernel_rfl) (Yv.pick0 rfl rfl) ?_
            refine Drw.done ?_ (by kernel_rfl)
            refine ⟨hs43, Sub.le ⟨rfl, rfl, rfl, rfl, rfl, rfl, rfl, rfl, rfl, rfl, rfl, lookB rfl (by first | (simp only [h45, h47, h48, ne_eq, not_true_eq_false, not_false_eq_true, or_true, true_or, or_false, false_or, and_true, true_and, and_false, false_and, decide_true, decide_false, or_self, and_self, Bool.decide_eq_true]; done) | simp [h45, h47, h48]), trivial⟩⟩
        · -- no
          refine Drw.a 7 rfl (by kernel_rfl) (Yv.not rfl) ?_ ⟨_, rfl, rfl⟩
          refine Drw.a 8 rfl (by kernel_rfl) (Yv.pick0 rfl rfl) ?_
          refine Drw.a 9 rfl (by kernel_rfl) (Yv.move rfl) ?_
          refine Drw.no 10 rfl (by kernel_rfl) ?_ ⟨_, rfl, rfl⟩
          refine Drw.no 11 rfl (by kernel_rfl) ?_ ⟨_, rfl, rfl⟩
          refine Drw.no 12 rfl (by kernel_rfl) ?_ ⟨_, rfl, rfl⟩
          refine Drw.no 13 rfl (by kernel_rfl) ?_ ⟨_, rfl, rfl⟩
          refine Drw.no 14 rfl (by kernel_rfl) ?_ ⟨_, rfl, rfl⟩
          refine Drw.no 15 rfl (by kernel_rfl) ?_ ⟨_, rfl, rfl⟩
          refine Drw.a 16 rfl (by kernel_rfl) (Yv.pick1 rfl rfl) ?_
          refine Drw.a 17 rfl (by kernel_rfl) (Yv.move rfl) ?_
          refine Drw.no 18 rfl (by kernel_rfl) ?_ ⟨_, rfl, rfl⟩
          refine Drw.no 19 rfl (by kernel_rfl) ?_ ⟨_, rfl, rfl⟩
          refine Drw.no 20 rfl (by kernel_rfl) ?_ ⟨_, rfl, rfl⟩
          refine Drw.no 21 rfl (by kernel_rfl) ?_ ⟨_, rfl, rfl⟩
          refine Drw.no 22 rfl (by kernel_rfl) ?_ ⟨_, rfl, rfl⟩
          refine Drw.no 23 rfl (by kernel_rfl) ?_ ⟨_, rfl, rfl⟩
          refine Drw.a 24 rfl (by kernel_rfl) (Yv.pick1 rfl rfl) ?_
          refine Drw.done ?_ (by kernel_rfl)
          refine ⟨hs43, Sub.le ⟨rfl, rfl, rfl, rfl, rfl, rfl, rfl, rfl, rfl, rfl, rfl, lookB rfl (by first | (simp only [h45, h47, ne_eq, not_true_eq_false, not_false_eq_true, or_true, true_or, or_false, false_or, and_true, true_and, and_false, false_and, decide_true, decide_false, or_self, and_self, Bool.decide_eq_true]; done) | simp [h45, h47]), trivial⟩⟩
    rintro e49 w49 ⟨hs49, he49⟩
    refine k40 _ _ ?_
    refine Run.le he49 ?_
    refine run_ifp rfl (fun h50 => ?_) (fun h50 => ?_)
    · -- yes ((((checkF W1 H1 m1) ≠ (0 : Int)) ∨ (¬ (sideP W0 ∧ sideP H0))) ∨ (W1 ≠ (W0 / 2 ^ 1))) ∨ (H1 ≠ (H0 / 2 ^ 1))
      refine run_seq fun K51 k51 => ?_
      refine run_region ?_
      refine Ops.v (Yv.assign rfl) ?_
      refine Ops.nil ?_
      refine k51 _ _ ?_
      refine run_ret ?_
      refine ⟨[.int .i64 2], ⟨_, _, rfl, rfl, rfl⟩, ?_⟩
      exact ⟨congrArg (Value.int .i64) (by rw [wholeF, if_neg (by simp only [wholeP, sideP] at *; omega)]), hs49.pick [] _ (by decide) rfl⟩
    · -- no
      refine run_skip ?_
      refine k33 _ _ ?_
      refine run_region ?_
      refine Ops.v ((Yv.add rfl rfl (by omega)).to (v := .int .i64 2) (by rfl)) ?_
      refine Ops.v (Yv.move rfl) ?_
      refine Ops.nil ?_
      show Run _ _ _ (seqQ _ _) _ _
      refine run_seq fun K52 k52 => ?_
      refine run_region ?_
      refine Ops.v ((Yv.lt rfl rfl).to (v := .bool true) (by rfl)) ?_
      refine Ops.nil ?_
      refine k52 _ _ ?_
      refine run_seq fun K53 k53 => ?_
      refine run_if1 rfl ?_
      refine run_skip ?_
      refine k53 _ _ ?_
      refine run_seq fun K54 k54 => ?_
      refine run_block ?_
      refine run_seq fun K55 k55 => ?_
      refine run_region ?_
      refine Ops.v (Yv.move rfl) ?_
      refine Ops.v (Yv.elems (l := [.int .i64 W2, .int .i64 H2, .slice A2 m2 c2]) R25 A24 rfl rfl (by decide) (by decide) rfl) ?_
      refine Ops.s (Step.alloc (cs := [.int .i64 0, .int .i64 0, .slice none 0 0]) hs49 Z24 rfl (fun b56 w57 hs57 hb57 => ?_) True.intro (by rfl))
      refine Ops.v (Yv.assign rfl) ?_
      refine Ops.s (Step.store (vs := [.int .i64 W2, .int .i64 H2, .slice A2 m2 c2]) 0 hs57 rfl rfl rfl rfl S24 (Nat.le_of_ble_eq_true rfl) rfl (fun w59 hs59 => ?_) True.intro)
      replace hs59 : HS _ [.blk _ [_, _, _] _, .blk _ [_, _, _] _, .blk _ [_, _, _] _, .blk _ [_, _, _, _, _, _, _, _, _] _] _ := hs59
      refine Ops.nil ?_
      refine k55 _ _ ?_
      refine run_seq fun K60 k60 => ?_
      refine run_region ?_
      refine Ops.v (Yv.move rfl) ?_
      refine Ops.v ((Yv.min rfl rfl).to (v := .int .i64 1) (by rfl)) ?_
      refine Ops.v (Yv.assign rfl) ?_
      refine Ops.nil ?_
      refine k60 _ _ ?_
      refine run_seq fun K61 k61 => ?_
      refine Run.cut (fun e_ w_ => HS w [.blk b56 [.int .i64 W2, .int .i64 H2, .slice A2 m2 c2] 24, .blk b35 [.int .i64 W1, .int .i64 H1, .slice A1 m1 c1] 24, .blk b14 [.int .i64 W0, .int .i64 H0, .slice A0 m0 c0] 24, .blk b2 [.int .i64 W0, .int .i64 H0, .slice A0 m0 c0, .int .i64 W1, .int .i64 H1, .slice A1 m1 c1, .int .i64 W2, .int .i64 H2, .slice A2 m2 c2] 27] w_ ∧ Le [(0, .agg #[.int .i64 W0, .int .i64 H0, .slice A0 m0 c0, .int .i64 W1, .int .i64 H1, .slice A1 m1 c1, .int .i64 W2, .int .i64 H2, .slice A2 m2 c2]), (1, .pointer (some ⟨b2, 0, none⟩)), (2, .int .i64 0), (3, .int .i64 W0), (4, .int .i64 H0), (5, .int .i64 2), (6, .pointer (some ⟨b56, 0, none⟩)), (7, .int .i64 1), (17, .agg #[.int .i64 W0, .int .i64 H0, .slice A0 m0 c0, .int .i64 W1, .int .i64 H1, .slice A1 m1 c1, .int .i64 W2, .int .i64 H2, .slice A2 m2 c2]), (18, .int .i64 2), (19, .bool true), (48, .bool (decide (((((checkF W2 H2 m2) ≠ (0 : Int)) ∨ (¬ (sideP W0 ∧ sideP H0))) ∨ (W2 ≠ (W0 / 2 ^ 1))) ∨ (H2 ≠ (H0 / 2 ^ 1)))))] e_) ?_ ?_
      · -- region 6: its ways meet again
        refine run_drawn [] (fun x => Below (w59.drew).heap.size (w59.drew) x) ?_ Tf.mixed (by kernel_rfl) (fun _ _ _ h => h)
        have hs62 := hs59.drew
        have hS63 := Below.refl (w59.drew).heap.size (w59.drew)
        refine Drw.l 0 rfl (by kernel_rfl) hS63 (Yv.loadn (cs := [.int .i64 W2, .int .i64 H2, .slice A2 m2 c2]) A24 S24 rfl (fun _ hq_ => ((hs62.grow hq_).cells 0 rfl 0 3))) ?_
        refine Drw.one 1 rfl (by kernel_rfl) (Step.call rfl rfl (check_fun) (?_) True.intro (by rfl))
        rintro _ w64 ⟨rfl, hs64⟩
        have hS65 := HS.keepS hS63 (Nat.le_refl _) hs64
        refine ⟨fun _ _ => hS65, ?_⟩
        replace hs64 := hs62.call hs64
        refine Drw.a 2 rfl (by kernel_rfl) (Yv.ne rfl rfl) ?_
        refine Drw.dec (fun h66 => ?_) (fun h66 => ?_)
        · -- yes
          refine Drw.a 3 rfl (by kernel_rfl) (Yv.move rfl) ?_
          refine Drw.no 4 rfl (by kernel_rfl) ?_ ⟨_, rfl, rfl⟩
          refine Drw.no 5 rfl (by kernel_rfl) ?_ ⟨_, rfl, rfl⟩
          refine Drw.no 6 rfl (by kernel_rfl) ?_ ⟨_, rfl, rfl⟩
          refine Drw.no 7 rfl (by kernel_rfl) ?_ ⟨_, rfl, rfl⟩
          refine Drw.a 8 rfl (by kernel_rfl) (Yv.pick1 rfl rfl) ?_
          refine Drw.a 9 rfl (by kernel_rfl) (Yv.move rfl) ?_
          refine Drw.no 10 rfl (by kernel_rfl) ?_ ⟨_, rfl, rfl⟩
          refine Drw.no 11 rfl (by kernel_rfl) ?_ ⟨_, rfl, rfl⟩
          refine Drw.no 12 rfl (by kernel_rfl) ?_ ⟨_, rfl, rfl⟩
          refine Drw.no 13 rfl (by kernel_rfl) ?_ ⟨_, rfl, rfl⟩
          refine Drw.no 14 rfl (by kernel_rfl) ?_ ⟨_, rfl, rfl⟩
          refine Drw.no 15 rfl (by kernel_rfl) ?_ ⟨_, rfl, rfl⟩
          refine Drw.a 16 rfl (by kernel_rfl) (Yv.pick1 rfl rfl) ?_
          refine Drw.a 17 rfl (by kernel_rfl) (Yv.move rfl) ?_
          refine Drw.no 18 rfl (by kernel_rfl) ?_ ⟨_, rfl, rfl⟩
          refine Drw.no 19 rfl (by kernel_rfl) ?_ ⟨_, rfl, rfl⟩
          refine Drw.no 20 rfl (by kernel_rfl) ?_ ⟨_, rfl, rfl⟩
          refine Drw.no 21 rfl (by kernel_rfl) ?_ ⟨_, rfl, rfl⟩
          refine Drw.no 22 rfl (by kernel_rfl) ?_ ⟨_, rfl, rfl⟩
          refine Drw.no 23 rfl (by kernel_rfl) ?_ ⟨_, rfl, rfl⟩
          refine Drw.a 24 rfl (by kernel_rfl) (Yv.pick1 rfl rfl) ?_
          refine Drw.done ?_ (by kernel_rfl)
          refine ⟨hs64, Sub.le ⟨rfl, rfl, rfl, rfl, rfl, rfl, rfl, rfl, rfl, rfl, rfl, lookB rfl (by first | (simp only [h66, ne_eq, not_true_eq_false, not_false_eq_true, or_true, true_or, or_false, false_or, and_true, true_and, and_false, false_and, decide_true, decide_false, or_self, and_self, Bool.decide_eq_true]; done) | simp [h66]), trivial⟩⟩
        · -- no
          refine Drw.a 3 rfl (by kernel_rfl) (Yv.move rfl) ?_
          refine Drw.a 4 rfl (by kernel_rfl) (Yv.move rfl) ?_ ⟨_, rfl, rfl⟩
          refine Drw.a 5 rfl (by kernel_rfl) (Yv.move rfl) ?_ ⟨_, rfl, rfl⟩
          refine Drw.one 6 rfl (by kernel_rfl) (Step.call rfl rfl (sides_fun) (?_) ⟨_, rfl, rfl⟩ (by rfl))
          rintro _ _ ⟨rfl, rfl⟩
          refine ⟨fun _ h => h, ?_⟩
          refine Drw.dec (fun h68 => ?_) (fun h68 => ?_)
          · -- yes
            refine Drw.a 7 rfl (by kernel_rfl) (Yv.not rfl) ?_ ⟨_, rfl, rfl⟩
            refine Drw.a 8 rfl (by kernel_rfl) (Yv.pick0 rfl rfl) ?_
            refine Drw.a 9 rfl (by kernel_rfl) (Yv.move rfl) ?_
            refine Drw.a 10 rfl (by kernel_rfl) (Yv.fld F24_0 rfl) ?_ ⟨_, rfl, rfl⟩
            refine Drw.l 11 rfl (by kernel_rfl) hS65 (Yv.load A3 rfl (fun _ hq_ => ((hs62.grow hq_).cell 0 rfl 0 rfl))) ?_ ⟨_, rfl, rfl⟩
            refine Drw.a 12 rfl (by kernel_rfl) (Yv.move rfl) ?_ ⟨_, rfl, rfl⟩
            refine Drw.a 13 rfl (by kernel_rfl) (Yv.move rfl) ?_ ⟨_, rfl, rfl⟩
            refine Drw.a 14 rfl (by kernel_rfl) (Yv.shr rfl rfl 1 (by first | rfl | omega) (by omega)) ?_ ⟨_, rfl, rfl⟩
            refine Drw.a 15 rfl (by kernel_rfl) (Yv.ne rfl rfl) ?_ ⟨_, rfl, rfl⟩
            refine Drw.dec (fun h69 => ?_) (fun h69 => ?_)
            · -- yes
              refine Drw.a 16 rfl (by kernel_rfl) (Yv.pick0 rfl rfl) ?_
              refine Drw.a 17 rfl (by kernel_rfl) (Yv.move rfl) ?_
              refine Drw.no 18 rfl (by kernel_rfl) ?_ ⟨_, rfl, rfl⟩
              refine Drw.no 19 rfl (by kernel_rfl) ?_ ⟨_, rfl, rfl⟩
              refine Drw.no 20 rfl (by kernel_rfl) ?_ ⟨_, rfl, rfl⟩
              refine Drw.no 21 rfl (by kernel_rfl) ?_ ⟨_, rfl, rfl⟩
              refine Drw.no 22 rfl (by kernel_rfl) ?_ ⟨_, rfl, rfl⟩
              refine Drw.no 23 rfl (by kernel_rfl) ?_ ⟨_, rfl, rfl⟩
              refine Drw.a 24 rfl (by kernel_rfl) (Yv.pick1 rfl rfl) ?_
              refine Drw.done ?_ (by kernel_rfl)
              refine ⟨hs64, Sub.le ⟨rfl, rfl, rfl, rfl, rfl, rfl, rfl, rfl, rfl, rfl, rfl, lookB rfl (by first | (simp only [h66, h68, h69, ne_eq, not_true_eq_false, not_false_eq_true, or_true, true_or, or_false, false_or, and_true, true_and, and_false, false_and, decide_true, decide_false, or_self, and_self, Bool.decide_eq_true]; done) | simp [h66, h68, h69]), trivial⟩⟩
            · -- no
              refine Drw.a 16 rfl (by kernel_rfl) (Yv.pick0 rfl rfl) ?_
              refine Drw.a 17 rfl (by kernel_rfl) (Yv.move rfl) ?_
              refine Drw.a 18 rfl (by kernel_rfl) (Yv.fld F24_1 rfl) ?_ ⟨_, rfl, rfl⟩
              refine Drw.l 19 rfl (by kernel_rfl) hS65 (Yv.load A3 rfl (fun _ hq_ => ((hs62.grow hq_).cell 0 rfl 1 rfl))) ?_ ⟨_, rfl, rfl⟩
              refine Drw.a 20 rfl (by kernel_rfl) (Yv.move rfl) ?_ ⟨_, rfl, rfl⟩
              refine Drw.a 21 rfl (by kernel_rfl) (Yv.move rfl) ?_ ⟨_, rfl, rfl⟩
              refine Drw.a 22 rfl (by kernel_rfl) (Yv.shr rfl rfl 1 (by first | rfl | omega) (by omega)) ?_ ⟨_, rfl, rfl⟩
              refine Drw.a 23 rfl (by kernel_rfl) (Yv.ne rfl rfl) ?_ ⟨_, rfl, rfl⟩
              refine Drw.a 24 rfl (by kernel_rfl) (Yv.pick0 rfl rfl) ?_
              refine Drw.done ?_ (by kernel_rfl)
              refine ⟨hs64, Sub.le ⟨rfl, rfl, rfl, rfl, rfl, rfl, rfl, rfl, rfl, rfl, rfl, lookB rfl (by first | (simp only [h66, h68, h69, ne_eq, not_true_eq_false, not_false_eq_true, or_true, true_or, or_false, false_or, and_true, true_and, and_false, false_and, decide_true, decide_false, or_self, and_self, Bool.decide_eq_true]; done) | simp [h66, h68, h69]), trivial⟩⟩
          · -- no
            refine Drw.a 7 rfl (by kernel_rfl) (Yv.not rfl) ?_ ⟨_, rfl, rfl⟩
            refine Drw.a 8 rfl (by kernel_rfl) (Yv.pick0 rfl rfl) ?_
            refine Drw.a 9 rfl (by kernel_rfl) (Yv.move rfl) ?_
            refine Drw.no 10 rfl (by kernel_rfl) ?_ ⟨_, rfl, rfl⟩
            refine Drw.no 11 rfl (by kernel_rfl) ?_ ⟨_, rfl, rfl⟩
            refine Drw.no 12 rfl (by kernel_rfl) ?_ ⟨_, rfl, rfl⟩
            refine Drw.no 13 rfl (by kernel_rfl) ?_ ⟨_, rfl, rfl⟩
            refine Drw.no 14 rfl (by kernel_rfl) ?_ ⟨_, rfl, rfl⟩
            refine Drw.no 15 rfl (by kernel_rfl) ?_ ⟨_, rfl, rfl⟩
            refine Drw.a 16 rfl (by kernel_rfl) (Yv.pick1 rfl rfl) ?_
            refine Drw.a 17 rfl (by kernel_rfl) (Yv.move rfl) ?_
            refine Drw.no 18 rfl (by kernel_rfl) ?_ ⟨_, rfl, rfl⟩
            refine Drw.no 19 rfl (by kernel_rfl) ?_ ⟨_, rfl, rfl⟩
            refine Drw.no 20 rfl (by kernel_rfl) ?_ ⟨_, rfl, rfl⟩
            refine Drw.no 21 rfl (by kernel_rfl) ?_ ⟨_, rfl, rfl⟩
            refine Drw.no 22 rfl (by kernel_rfl) ?_ ⟨_, rfl, rfl⟩
            refine Drw.no 23 rfl (by kernel_rfl) ?_ ⟨_, rfl, rfl⟩
            refine Drw.a 24 rfl (by kernel_rfl) (Yv.pick1 rfl rfl) ?_
            refine Drw.done ?_ (by kernel_rfl)
            refine ⟨hs64, Sub.le ⟨rfl, rfl, rfl, rfl, rfl, rfl, rfl, rfl, rfl, rfl, rfl, lookB rfl (by first | (simp only [h66, h68, ne_eq, not_true_eq_false, not_false_eq_true, or_true, true_or, or_false, false_or, and_true, true_and, and_false, false_and, decide_true, decide_false, or_self, and_self, Bool.decide_eq_true]; done) | simp [h66, h68]), trivial⟩⟩
      rintro e70 w70 ⟨hs70, he70⟩
      refine k61 _ _ ?_
      refine Run.le he70 ?_
      refine run_ifp rfl (fun h71 => ?_) (fun h71 => ?_)
      · -- yes ((((checkF W2 H2 m2) ≠ (0 : Int)) ∨ (¬ (sideP W0 ∧ sideP H0))) ∨ (W2 ≠ (W0 / 2 ^ 1))) ∨ (H2 ≠ (H0 / 2 ^ 1))
        refine run_seq fun K72 k72 => ?_
        refine run_region ?_
        refine Ops.v (Yv.assign rfl) ?_
        refine Ops.nil ?_
        refine k72 _ _ ?_
        refine run_ret ?_
        refine ⟨[.int .i64 2], ⟨_, _, rfl, rfl, rfl⟩, ?_⟩
        exact ⟨congrArg (Value.int .i64) (by rw [wholeF, if_neg (by simp only [wholeP, sideP] at *; omega)]), hs70.pick [] _ (by decide) rfl⟩
      · -- no
        refine run_skip ?_
        refine k54 _ _ ?_
        refine run_region ?_
        refine Ops.v ((Yv.add rfl rfl (by omega)).to (v := .int .i64 3) (by rfl)) ?_
        refine Ops.v (Yv.move rfl) ?_
        refine Ops.nil ?_
        show Run _ _ _ (seqQ _ _) _ _
        refine run_seq fun K73 k73 => ?_
        refine run_region ?_
        refine Ops.v ((Yv.lt rfl rfl).to (v := .bool false) (by rfl)) ?_
        refine Ops.nil ?_
        refine k73 _ _ ?_
        refine run_seq fun K74 k74 => ?_
        refine run_if0 rfl ?_
        refine run_exit ?_
        refine k8 _ _ ?_
        refine run_seq fun K75 k75 => ?_
        refine run_region ?_
        refine Ops.v (Yv.assign rfl) ?_
        refine Ops.nil ?_
        refine k75 _ _ ?_
        refine run_ret ?_
        refine ⟨[.int .i64 0], ⟨_, _, rfl, rfl, rfl⟩, ?_⟩
        exact ⟨congrArg (Value.int .i64) (by rw [wholeF, if_pos (by simp only [wholeP, sideP] at *; omega)]), hs70.pick [] _ (by decide) rfl⟩

theorem rwhole_fun {w : World} {W0 H0 W1 H1 W2 H2 : Int} {A0 A1 A2 : Option Addr} {m0 m1 m2 c0 c1 c2 : Nat} : Fun Try.prog 39 [.agg #[.int .i64 W0, .int .i64 H0, .slice A0 m0 c0, .int .i64 W1, .int .i64 H1, .slice A1 m1 c1, .int .i64 W2, .int .i64 H2, .slice A2 m2 c2]] w fun v w' => v = .int .i64 (wholeF W0 H0 m0 W1 H1 m1 W2 H2 m2) ∧ HS w [] w' := by
  refine fun_run (m := 61) (rs := [.tmp 2]) Try.func39 rfl rfl rfl rfl rfl ?_
  have hs0 := HS.start w
  refine run_seq fun K1 k1 => ?_
  refine run_region ?_
  refine Ops.s (Step.box (cs := [.int .i64 W0, .int .i64 H0, .slice A0 m0 c0, .int .i64 W1, .int .i64 H1, .slice A1 m1 c1, .int .i64 W2, .int .i64 H2, .slice A2 m2 c2]) hs0 rfl rfl (fun b2 w3 hs3 hb3 => ?_) True.intro (by rfl))
  refine Ops.v (Yv.assign rfl) ?_
  refine Ops.nil ?_
  refine k1 _ _ ?_
  refine run_seq fun K5 k5 => ?_
  refine run_seq fun K6 k6 => ?_
  refine Run.cut (fun e_ w_ => HS w [.blk b2 [.int .i64 W0, .int .i64 H0, .slice A0 m0 c0, .int .i64 W1, .int .i64 H1, .slice A1 m1 c1, .int .i64 W2, .int .i64 H2, .slice A2 m2 c2] 27] w_ ∧ Le [(0, .agg #[.int .i64 W0, .int .i64 H0, .slice A0 m0 c0, .int .i64 W1, .int .i64 H1, .slice A1 m1 c1, .int .i64 W2, .int .i64 H2, .slice A2 m2 c2]), (1, .pointer (some ⟨b2, 0, none⟩)), (2, .int .i64 0), (24, .bool (decide ((((checkF W0 H0 m0) ≠ (0 : Int)) ∨ (¬ (sideP W0))) ∨ (¬ (sideP H0)))))] e_) ?_ ?_
  · -- region 1: its ways meet again
    refine run_region ?_
    refine Ops.v (Yv.fld F27_0 rfl) ?_
    refine Ops.v (Yv.idxa R25 rfl rfl (by decide) (by decide)) ?_
    refine Ops.v (Yv.loadn (cs := [.int .i64 W0, .int .i64 H0, .slice A0 m0 c0]) A24 S24 rfl (now (hs3.cells 0 rfl 0 3))) ?_
    refine Ops.s (Step.call rfl rfl (rcheck_fun) (?_) True.intro (by rfl))
    rintro _ w7 ⟨rfl, hs7⟩
    replace hs7 := hs3.call hs7
    refine Ops.v (Yv.ne rfl rfl) ?_
    refine Ops.dec (fun h8 => ?_) (fun h8 => ?_)
    · -- yes
      refine Ops.v (Yv.move rfl) ?_
      refine Ops.skip ⟨_, rfl, rfl⟩ ?_
      refine Ops.skip ⟨_, rfl, rfl⟩ ?_
      refine Ops.skip ⟨_, rfl, rfl⟩ ?_
      refine Ops.skip ⟨_, rfl, rfl⟩ ?_
      refine Ops.skip ⟨_, rfl, rfl⟩ ?_
      refine Ops.skip ⟨_, rfl, rfl⟩ ?_
      refine Ops.v (Yv.pick1 rfl rfl) ?_
      refine Ops.v (Yv.move rfl) ?_
      refine Ops.skip ⟨_, rfl, rfl⟩ ?_
      refine Ops.skip ⟨_, rfl, rfl⟩ ?_
      refine Ops.skip ⟨_, rfl, rfl⟩ ?_
      refine Ops.skip ⟨_, rfl, rfl⟩ ?_
      refine Ops.skip ⟨_, rfl, rfl⟩ ?_
      refine Ops.skip ⟨_, rfl, rfl⟩ ?_
      refine Ops.v (Yv.pick1 rfl rfl) ?_
      refine Ops.nil ?_
      refine ⟨hs7, Sub.le ⟨rfl, rfl, rfl, lookB rfl (by first | (simp only [h8, ne_eq, not_true_eq_false, not_false_eq_true, or_true, true_or, or_false, false_or, and_true, true_and, and_false, false_and, decide_true, decide_false, or_self, and_self, Bool.decide_eq_true]; done) | simp [h8]), trivial⟩⟩
    · -- no
      refine Ops.v (Yv.move rfl) ?_
      refine Ops.vg ⟨_, rfl, rfl⟩ (Yv.fld F27_0 rfl) ?_
      refine Ops.vg ⟨_, rfl, rfl⟩ (Yv.idxa R25 rfl rfl (by decide) (by decide)) ?_
      refine Ops.vg ⟨_, rfl, rfl⟩ (Yv.fld F24_0 rfl) ?_
      refine Ops.vg ⟨_, rfl, rfl⟩ (Yv.load A3 rfl (now (hs7.cell 0 rfl 0 rfl))) ?_
      refine Ops.s (Step.call rfl rfl (rside_fun) (?_) ⟨_, rfl, rfl⟩ (by rfl))
      rintro _ _ ⟨rfl, rfl⟩
      refine Ops.dec (fun h10 => ?_) (fun h10 => ?_)
      · -- yes
        refine Ops.vg ⟨_, rfl, rfl⟩ (Yv.not rfl) ?_
        refine Ops.v (Yv.pick0 rfl rfl) ?_
        refine Ops.v (Yv.move rfl) ?_
        refine Ops.vg ⟨_, rfl, rfl⟩ (Yv.fld F27_0 rfl) ?_
        refine Ops.vg ⟨_, rfl, rfl⟩ (Yv.idxa R25 rfl rfl (by decide) (by decide)) ?_
        refine Ops.vg ⟨_, rfl, rfl⟩ (Yv.fld F24_1 rfl) ?_
        refine Ops.vg ⟨_, rfl, rfl⟩ (Yv.load A3 rfl (now (hs7.cell 0 rfl 1 rfl))) ?_
        refine Ops.s (Step.call rfl rfl (rside_fun) (?_) ⟨_, rfl, rfl⟩ (by rfl))
        rintro _ _ ⟨rfl, rfl⟩
        refine Ops.vg ⟨_, rfl, rfl⟩ (Yv.notp rfl) ?_
        refine Ops.v (Yv.pick0 rfl rfl) ?_
        refine Ops.nil ?_
        refine ⟨hs7, Sub.le ⟨rfl, rfl, rfl, lookB rfl (by first | (simp only [h8, h10, ne_eq, not_true_eq_false, not_false_eq_true, or_true, true_or, or_false, false_or, and_true, true_and, and_false, false_and, decide_true, decide_false, or_self, and_self, Bool.decide_eq_true]; done) | simp [h8, h10]), trivial⟩⟩
      · -- no
        refine Ops.vg ⟨_, rfl, rfl⟩ (Yv.not rfl) ?_
        refine Ops.v (Yv.pick0 rfl rfl) ?_
        refine Ops.v (Yv.move rfl) ?_
        refine Ops.skip ⟨_, rfl, rfl⟩ ?_
        refine Ops.skip ⟨_, rfl, rfl⟩ ?_
        refine Ops.skip ⟨_, rfl, rfl⟩ ?_
        refine Ops.skip ⟨_, rfl, rfl⟩ ?_
        refine Ops.skip ⟨_, rfl, rfl⟩ ?_
        refine Ops.skip ⟨_, rfl, rfl⟩ ?_
        refine Ops.v (Yv.pick1 rfl rfl) ?_
        refine Ops.nil ?_
        refine ⟨hs7, Sub.le ⟨rfl, rfl, rfl, lookB rfl (by first | (simp only [h8, h10, ne_eq, not_true_eq_false, not_false_eq_true, or_true, true_or, or_false, false_or, and_true, true_and, and_false, false_and, decide_true, decide_false, or_self, and_self, Bool.decide_eq_true]; done) | simp [h8, h10]), trivial⟩⟩
  rintro e12 w12 ⟨hs12, he12⟩
  refine k6 _ _ ?_
  refine Run.le he12 ?_
  refine run_ifp rfl (fun h13 => ?_) (fun h13 => ?_)
  · -- yes (((checkF W0 H0 m0) ≠ (0 : Int)) ∨ (¬ (sideP W0))) ∨ (¬ (sideP H0))
    refine run_seq fun K14 k14 => ?_
    refine run_region ?_
    refine Ops.v (Yv.assign rfl) ?_
    refine Ops.nil ?_
    refine k14 _ _ ?_
    refine run_ret ?_
    refine ⟨[.int .i64 2], ⟨_, _, rfl, rfl, rfl⟩, ?_⟩
    exact ⟨congrArg (Value.int .i64) (by rw [wholeF, if_neg (by simp only [wholeP, sideP] at *; omega)]), hs12.pick [] _ (by decide) rfl⟩
  · -- no
    refine run_skip ?_
    refine k5 _ _ ?_
    refine run_seq fun K15 k15 => ?_
    refine run_seq fun K16 k16 => ?_
    refine run_region ?_
    refine Ops.v (Yv.assign rfl) ?_
    refine Ops.nil ?_
    refine k16 _ _ ?_
    refine run_block ?_
    refine run_rounds 3 ?_
    show Run _ _ _ (seqQ _ _) _ _
    refine run_seq fun K17 k17 => ?_
    refine run_seq fun K18 k18 => ?_
    refine run_region ?_
    refine Ops.v (Yv.move rfl) ?_
    refine Ops.v ((Yv.lt rfl rfl).to (v := .bool true) (by rfl)) ?_
    refine Ops.nil ?_
    refine k18 _ _ ?_
    refine run_if1 rfl ?_
    refine run_skip ?_
    refine k17 _ _ ?_
    refine run_seq fun K19 k19 => ?_
    refine run_block ?_
    refine run_seq fun K20 k20 => ?_
    refine Run.cut (fun e_ w_ => HS w [.blk b2 [.int .i64 W0, .int .i64 H0, .slice A0 m0 c0, .int .i64 W1, .int .i64 H1, .slice A1 m1 c1, .int .i64 W2, .int .i64 H2, .slice A2 m2 c2] 27] w_ ∧ Le [(0, .agg #[.int .i64 W0, .int .i64 H0, .slice A0 m0 c0, .int .i64 W1, .int .i64 H1, .slice A1 m1 c1, .int .i64 W2, .int .i64 H2, .slice A2 m2 c2]), (1, .pointer (some ⟨b2, 0, none⟩)), (2, .int .i64 0), (3, .int .i64 1), (24, .bool (decide ((((checkF W0 H0 m0) ≠ (0 : Int)) ∨ (¬ (sideP W0))) ∨ (¬ (sideP H0))))), (26, .bool true), (60, .bool (decide ((((checkF W1 H1 m1) ≠ (0 : Int)) ∨ (W1 ≠ (W0 / 2))) ∨ (H1 ≠ (H0 / 2)))))] e_) ?_ ?_
    · -- region 6: its ways meet again
      refine run_drawn [] (fun x => Below (w12.drew).heap.size (w12.drew) x) ?_ Tf.mixed (by kernel_rfl) (fun _ _ _ h => h)
      have hs21 := hs12.drew
      have hS22 := Below.refl (w12.drew).heap.size (w12.drew)
      refine Drw.a 0 rfl (by kernel_rfl) (Yv.move rfl) ?_
      refine Drw.a 1 rfl (by kernel_rfl) (Yv.fld F27_0 rfl) ?_
      refine Drw.a 2 rfl (by kernel_rfl) (Yv.idxa R25 rfl rfl (by decide) (by decide)) ?_
      refine Drw.l 3 rfl (by kernel_rfl) hS22 (Yv.loadn (cs := [.int .i64 W1, .int .i64 H1, .slice A1 m1 c1]) A24 S24 rfl (fun _ hq_ => ((hs21.grow hq_).cells 0 rfl 3 3))) ?_
      refine Drw.one 4 rfl (by kernel_rfl) (Step.call rfl rfl (rcheck_fun) (?_) True.intro (by rfl))
      rintro _ w23 ⟨rfl, hs23⟩
      have hS24 := HS.keepS hS22 (Nat.le_refl _) hs23
      refine ⟨fun _ _ => hS24, ?_⟩
      replace hs23 := hs21.call hs23
      refine Drw.a 5 rfl (by kernel_rfl) (Yv.ne rfl rfl) ?_
      refine Drw.dec (fun h25 => ?_) (fun h25 => ?_)
      · -- yes
        refine Drw.a 6 rfl (by kernel_rfl) (Yv.move rfl) ?_
        refine Drw.no 7 rfl (by kernel_rfl) ?_ ⟨_, rfl, rfl⟩
        refine Drw.no 8 rfl (by kernel_rfl) ?_ ⟨_, rfl, rfl⟩
        refine Drw.no 9 rfl (by kernel_rfl) ?_ ⟨_, rfl, rfl⟩
        refine Drw.no 10 rfl (by kernel_rfl) ?_ ⟨_, rfl, rfl⟩
        refine Drw.no 11 rfl (by kernel_rfl) ?_ ⟨_, rfl, rfl⟩
        refine Drw.no 12 rfl (by kernel_rfl) ?_ ⟨_, rfl, rfl⟩
        refine Drw.no 13 rfl (by kernel_rfl) ?_ ⟨_, rfl, rfl⟩
        refine Drw.no 14 rfl (by kernel_rfl) ?_ ⟨_, rfl, rfl⟩
        refine Drw.no 15 rfl (by kernel_rfl) ?_ ⟨_, rfl, rfl⟩
        refine Drw.no 16 rfl (by kernel_rfl) ?_ ⟨_, rfl, rfl⟩
        refine Drw.no 17 rfl (by kernel_rfl) ?_ ⟨_, rfl, rfl⟩
        refine Drw.a 18 rfl (by kernel_rfl) (Yv.pick1 rfl rfl) ?_
        refine Drw.a 19 rfl (by kernel_rfl) (Yv.move rfl) ?_
        refine Drw.no 20 rfl (by kernel_rfl) ?_ ⟨_, rfl, rfl⟩
        refine Drw.no 21 rfl (by kernel_rfl) ?_ ⟨_, rfl, rfl⟩
        refine Drw.no 22 rfl (by kernel_rfl) ?_ ⟨_, rfl, rfl⟩
        refine Drw.no 23 rfl (by kernel_rfl) ?_ ⟨_, rfl, rfl⟩
        refine Drw.no 24 rfl (by kernel_rfl) ?_ ⟨_, rfl, rfl⟩
        refine Drw.no 25 rfl (by kernel_rfl) ?_ ⟨_, rfl, rfl⟩
        refine Drw.no 26 rfl (by kernel_rfl) ?_ ⟨_, rfl, rfl⟩
        refine Drw.no 27 rfl (by kernel_rfl) ?_ ⟨_, rfl, rfl⟩
        refine Drw.no 28 rfl (by kernel_rfl) ?_ ⟨_, rfl, rfl⟩
        refine Drw.no 29 rfl (by kernel_rfl) ?_ ⟨_, rfl, rfl⟩
        refine Drw.no 30 rfl (by kernel_rfl) ?_ ⟨_, rfl, rfl⟩
        refine Drw.a 31 rfl (by kernel_rfl) (Yv.pick1 rfl rfl) ?_
        refine Drw.done ?_ (by kernel_rfl)
        refine ⟨hs23, Sub.le ⟨rfl, rfl, rfl, rfl, rfl, rfl, lookB rfl (by first | (simp only [h25, ne_eq, not_true_eq_false, not_false_eq_true, or_true, true_or, or_false, false_or, and_true, true_and, and_false, false_and, decide_true, decide_false, or_self, and_self, Bool.decide_eq_true]; done) | simp [h25]), trivial⟩⟩
      · -- no
        refine Drw.a 6 rfl (by kernel_rfl) (Yv.move rfl) ?_
        refine Drw.a 7 rfl (by kernel_rfl) (Yv.move rfl) ?_ ⟨_, rfl, rfl⟩
        refine Drw.a 8 rfl (by kernel_rfl) (Yv.fld F27_0 rfl) ?_ ⟨_, rfl, rfl⟩
        refine Drw.a 9 rfl (by kernel_rfl) (Yv.idxa R25 rfl rfl (by decide) (by decide)) ?_ ⟨_, rfl, rfl⟩
        refine Drw.a 10 rfl (by kernel_rfl) (Yv.fld F24_0 rfl) ?_ ⟨_, rfl, rfl⟩
        refine Drw.l 11 rfl (by kernel_rfl) hS24 (Yv.load A3 rfl (fun _ hq_ => ((hs21.grow hq_).cell 0 rfl 3 rfl))) ?_ ⟨_, rfl, rfl⟩
        refine Drw.a 12 rfl (by kernel_rfl) (Yv.fld F27_0 rfl) ?_ ⟨_, rfl, rfl⟩
        refine Drw.a 13 rfl (by kernel_rfl) (Yv.idxa R25 rfl rfl (by decide) (by decide)) ?_ ⟨_, rfl, rfl⟩
        refine Drw.a 14 rfl (by kernel_rfl) (Yv.fld F24_0 rfl) ?_ ⟨_, rfl, rfl⟩
        refine Drw.l 15 rfl (by kernel_rfl) hS24 (Yv.load A3 rfl (fun _ hq_ => ((hs21.grow hq_).cell 0 rfl 0 rfl))) ?_ ⟨_, rfl, rfl⟩
        have hc0 := check_ok (W := W0) (H := H0) (n := m0) (by omega)
        refine Drw.a 16 rfl (by kernel_rfl) (Yv.quo rfl rfl (by omega) (by omega) (by omega)) ?_ ⟨_, rfl, rfl⟩
        refine Drw.a 17 rfl (by kernel_rfl) (Yv.ne rfl rfl) ?_ ⟨_, rfl, rfl⟩
        refine Drw.dec (fun h26 => ?_) (fun h26 => ?_)
        · -- yes
          refine Drw.a 18 rfl (by kernel_rfl) (Yv.pick0 rfl rfl) ?_
          refine Drw.a 19 rfl (by kernel_rfl) (Yv.move rfl) ?_
          refine Drw.no 20 rfl (by kernel_rfl) ?_ ⟨_, rfl, rfl⟩
          refine Drw.no 21 rfl (by kernel_rfl) ?_ ⟨_, rfl, rfl⟩
          refine Drw.no 22 rfl (by kernel_rfl) ?_ ⟨_, rfl, rfl⟩
          refine Drw.no 23 rfl (by kernel_rfl) ?_ ⟨_, rfl, rfl⟩
          refine Drw.no 24 rfl (by kernel_rfl) ?_ ⟨_, rfl, rfl⟩
          refine Drw.no 25 rfl (by kernel_rfl) ?_ ⟨_, rfl, rfl⟩
          refine Drw.no 26 rfl (by kernel_rfl) ?_ ⟨_, rfl, rfl⟩
          refine Drw.no 27 rfl (by kernel_rfl) ?_ ⟨_, rfl, rfl⟩
          refine Drw.no 28 rfl (by kernel_rfl) ?_ ⟨_, rfl, rfl⟩
          refine Drw.no 29 rfl (by kernel_rfl) ?_ ⟨_, rfl, rfl⟩
          refine Drw.no 30 rfl (by kernel_rfl) ?_ ⟨_, rfl, rfl⟩
          refine Drw.a 31 rfl (by kernel_rfl) (Yv.pick1 rfl rfl) ?_
          refine Drw.done ?_ (by kernel_rfl)
          refine ⟨hs23, Sub.le ⟨rfl, rfl, rfl, rfl, rfl, rfl, lookB rfl (by first | (simp only [h25, h26, ne_eq, not_true_eq_false, not_false_eq_true, or_true, true_or, or_false, false_or, and_true, true_and, and_false, false_and, decide_true, decide_false, or_self, and_self, Bool.decide_eq_true]; done) | simp [h25, h26]), trivial⟩⟩
        · -- no
          refine Drw.a 18 rfl (by kernel_rfl) (Yv.pick0 rfl rfl) ?_
          refine Drw.a 19 rfl (by kernel_rfl) (Yv.move rfl) ?_
          refine Drw.a 20 rfl (by kernel_rfl) (Yv.move rfl) ?_ ⟨_, rfl, rfl⟩
          refine Drw.a 21 rfl (by kernel_rfl) (Yv.fld F27_0 rfl) ?_ ⟨_, rfl, rfl⟩
          refine Drw.a 22 rfl (by kernel_rfl) (Yv.idxa R25 rfl rfl (by decide) (by decide)) ?_ ⟨_, rfl, rfl⟩
          refine Drw.a 23 rfl (by kernel_rfl) (Yv.fld F24_1 rfl) ?_ ⟨_, rfl, rfl⟩
          refine Drw.l 24 rfl (by kernel_rfl) hS24 (Yv.load A3 rfl (fun _ hq_ => ((hs21.grow hq_).cell 0 rfl 4 rfl))) ?_ ⟨_, rfl, rfl⟩
          refine Drw.a 25 rfl (by kernel_rfl) (Yv.fld F27_0 rfl) ?_ ⟨_, rfl, rfl⟩
          refine Drw.a 26 rfl (by kernel_rfl) (Yv.idxa R25 rfl rfl (by decide) (by decide)) ?_ ⟨_, rfl, rfl⟩
          refine Drw.a 27 rfl (by kernel_rfl) (Yv.fld F24_1 rfl) ?_ ⟨_, rfl, rfl⟩
          refine Drw.l 28 rfl (by kernel_rfl) hS24 (Yv.load A3 rfl (fun _ hq_ => ((hs21.grow hq_).cell 0 rfl 1 rfl))) ?_ ⟨_, rfl, rfl⟩
          have hc0 := check_ok (W := W0) (H := H0) (n := m0) (by omega)
          refine Drw.a 29 rfl (by kernel_rfl) (Yv.quo rfl rfl (by omega) (by omega) (by omega)) ?_ ⟨_, rfl, rfl⟩
          refine Drw.a 30 rfl (by kernel_rfl) (Yv.ne rfl rfl) ?_ ⟨_, rfl, rfl⟩
          refine Drw.a 31 rfl (by kernel_rfl) (Yv.pick0 rfl rfl) ?_
          refine Drw.done ?_ (by kernel_rfl)
          refine ⟨hs23, Sub.le ⟨rfl, rfl, rfl, rfl, rfl, rfl, lookB rfl (by first | (simp only [h25, h26, ne_eq, not_true_eq_false, not_false_eq_true, or_true, true_or, or_false, false_or, and_true, true_and, and_false, false_and, decide_true, decide_false, or_self, and_self, Bool.decide_eq_true]; done) | simp [h25, h26]), trivial⟩⟩
    rintro e27 w27 ⟨hs27, he27⟩
    refine k20 _ _ ?_
    refine Run.le he27 ?_
    refine run_ifp rfl (fun h28 => ?_) (fun h28 => ?_)
    · -- yes (((checkF W1 H1 m1) ≠ (0 : Int)) ∨ (W1 ≠ (W0 / 2))) ∨ (H1 ≠ (H0 / 2))
      refine run_seq fun K29 k29 => ?_
      refine run_region ?_
      refine Ops.v (Yv.assign rfl) ?_
      refine Ops.nil ?_
      refine k29 _ _ ?_
      refine run_ret ?_
      refine ⟨[.int .i64 2], ⟨_, _, rfl, rfl, rfl⟩, ?_⟩
      exact ⟨congrArg (Value.int .i64) (by rw [wholeF, if_neg (by simp only [wholeP, sideP] at *; omega)]), hs27.pick [] _ (by decide) rfl⟩
    · -- no
      refine run_skip ?_
      refine k19 _ _ ?_
      refine run_region ?_
      refine Ops.v (Yv.move rfl) ?_
      refine Ops.v ((Yv.add rfl rfl (by omega)).to (v := .int .i64 2) (by rfl)) ?_
      refine Ops.v (Yv.assign rfl) ?_
      refine Ops.nil ?_
      show Run _ _ _ (seqQ _ _) _ _
      refine run_seq fun K30 k30 => ?_
      refine run_seq fun K31 k31 => ?_
      refine run_region ?_
      refine Ops.v (Yv.move rfl) ?_
      refine Ops.v ((Yv.lt rfl rfl).to (v := .bool true) (by rfl)) ?_
      refine Ops.nil ?_
      refine k31 _ _ ?_
      refine run_if1 rfl ?_
      refine run_skip ?_
      refine k30 _ _ ?_
      refine run_seq fun K32 k32 => ?_
      refine run_block ?_
      refine run_seq fun K33 k33 => ?_
      refine Run.cut (fun e_ w_ => HS w [.blk b2 [.int .i64 W0, .int .i64 H0, .slice A0 m0 c0, .int .i64 W1, .int .i64 H1, .slice A1 m1 c1, .int .i64 W2, .int .i64 H2, .slice A2 m2 c2] 27] w_ ∧ Le [(0, .agg #[.int .i64 W0, .int .i64 H0, .slice A0 m0 c0, .int .i64 W1, .int .i64 H1, .slice A1 m1 c1, .int .i64 W2, .int .i64 H2, .slice A2 m2 c2]), (1, .pointer (some ⟨b2, 0, none⟩)), (2, .int .i64 0), (3, .int .i64 2), (24, .bool (decide ((((checkF W0 H0 m0) ≠ (0 : Int)) ∨ (¬ (sideP W0))) ∨ (¬ (sideP H0))))), (26, .bool true), (60, .bool (decide ((((checkF W2 H2 m2) ≠ (0 : Int)) ∨ (W2 ≠ (W0 / 2))) ∨ (H2 ≠ (H0 / 2)))))] e_) ?_ ?_
      · -- region 6: its ways meet again
        refine run_drawn [] (fun x => Below (w27.drew).heap.size (w27.drew) x) ?_ Tf.mixed (by kernel_rfl) (fun _ _ _ h => h)
        have hs34 := hs27.drew
        have hS35 := Below.refl (w27.drew).heap.size (w27.drew)
        refine Drw.a 0 rfl (by kernel_rfl) (Yv.move rfl) ?_
        refine Drw.a 1 rfl (by kernel_rfl) (Yv.fld F27_0 rfl) ?_
        refine Drw.a 2 rfl (by kernel_rfl) (Yv.idxa R25 rfl rfl (by decide) (by decide)) ?_
        refine Drw.l 3 rfl (by kernel_rfl) hS35 (Yv.loadn (cs := [.int .i64 W2, .int .i64 H2, .slice A2 m2 c2]) A24 S24 rfl (fun _ hq_ => ((hs34.grow hq_).cells 0 rfl 6 3))) ?_
        refine Drw.one 4 rfl (by kernel_rfl) (Step.call rfl rfl (rcheck_fun) (?_) True.intro (by rfl))
        rintro _ w36 ⟨rfl, hs36⟩
        have hS37 := HS.keepS hS35 (Nat.le_refl _) hs36
        refine ⟨fun _ _ => hS37, ?_⟩
        replace hs36 := hs34.call hs36
        refine Drw.a 5 rfl (by kernel_rfl) (Yv.ne rfl rfl) ?_
        refine Drw.dec (fun h38 => ?_) (fun h38 => ?_)
        · -- yes
          refine Drw.a 6 rfl (by kernel_rfl) (Yv.move rfl) ?_
          refine Drw.no 7 rfl (by kernel_rfl) ?_ ⟨_, rfl, rfl⟩
          refine Drw.no 8 rfl (by kernel_rfl) ?_ ⟨_, rfl, rfl⟩
          refine Drw.no 9 rfl (by kernel_rfl) ?_ ⟨_, rfl, rfl⟩
          refine Drw.no 10 rfl (by kernel_rfl) ?_ ⟨_, rfl, rfl⟩
          refine Drw.no 11 rfl (by kernel_rfl) ?_ ⟨_, rfl, rfl⟩
          refine Drw.no 12 rfl (by kernel_rfl) ?_ ⟨_, rfl, rfl⟩
          refine Drw.no 13 rfl (by kernel_rfl) ?_ ⟨_, rfl, rfl⟩
          refine Drw.no 14 rfl (by kernel_rfl) ?_ ⟨_, rfl, rfl⟩
          refine Drw.no 15 rfl (by kernel_rfl) ?_ ⟨_, rfl, rfl⟩
          refine Drw.no 16 rfl (by kernel_rfl) ?_ ⟨_, rfl, rfl⟩
          refine Drw.no 17 rfl (by kernel_rfl) ?_ ⟨_, rfl, rfl⟩
          refine Drw.a 18 rfl (by kernel_rfl) (Yv.pick1 rfl rfl) ?_
          refine Drw.a 19 rfl (by kernel_rfl) (Yv.move rfl) ?_
          refine Drw.no 20 rfl (by kernel_rfl) ?_ ⟨_, rfl, rfl⟩
          refine Drw.no 21 rfl (by kernel_rfl) ?_ ⟨_, rfl, rfl⟩
          refine Drw.no 22 rfl (by kernel_rfl) ?_ ⟨_, rfl, rfl⟩
          refine Drw.no 23 rfl (by kernel_rfl) ?_ ⟨_, rfl, rfl⟩
          refine Drw.no 24 rfl (by kernel_rfl) ?_ ⟨_, rfl, rfl⟩
          refine Drw.no 25 rfl (by kernel_rfl) ?_ ⟨_, rfl, rfl⟩
          refine Drw.no 26 rfl (by kernel_rfl) ?_ ⟨_, rfl, rfl⟩
          refine Drw.no 27 rfl (by kernel_rfl) ?_ ⟨_, rfl, rfl⟩
          refine Drw.no 28 rfl (by kernel_rfl) ?_ ⟨_, rfl, rfl⟩
          refine Drw.no 29 rfl (by kernel_rfl) ?_ ⟨_, rfl, rfl⟩
          refine Drw.no 30 rfl (by kernel_rfl) ?_ ⟨_, rfl, rfl⟩
          refine Drw.a 31 rfl (by kernel_rfl) (Yv.pick1 rfl rfl) ?_
          refine Drw.done ?_ (by kernel_rfl)
          refine ⟨hs36, Sub.le ⟨rfl, rfl, rfl, rfl, rfl, rfl, lookB rfl (by first | (simp only [h38, ne_eq, not_true_eq_false, not_false_eq_true, or_true, true_or, or_false, false_or, and_true, true_and, and_false, false_and, decide_true, decide_false, or_self, and_self, Bool.decide_eq_true]; done) | simp [h38]), trivial⟩⟩
        · -- no
          refine Drw.a 6 rfl (by kernel_rfl) (Yv.move rfl) ?_
          refine Drw.a 7 rfl (by kernel_rfl) (Yv.move rfl) ?_ ⟨_, rfl, rfl⟩
          refine Drw.a 8 rfl (by kernel_rfl) (Yv.fld F27_0 rfl) ?_ ⟨_, rfl, rfl⟩
          refine Drw.a 9 rfl (by kernel_rfl) (Yv.idxa R25 rfl rfl (by decide) (by decide)) ?_ ⟨_, rfl, rfl⟩
          refine Drw.a 10 rfl (by kernel_rfl) (Yv.fld F24_0 rfl) ?_ ⟨_, rfl, rfl⟩
          refine Drw.l 11 rfl (by kernel_rfl) hS37 (Yv.load A3 rfl (fun _ hq_ => ((hs34.grow hq_).cell 0 rfl 6 rfl))) ?_ ⟨_, rfl, rfl⟩
          refine Drw.a 12 rfl (by kernel_rfl) (Yv.fld F27_0 rfl) ?_ ⟨_, rfl, rfl⟩
          refine Drw.a 13 rfl (by kernel_rfl) (Yv.idxa R25 rfl rfl (by decide) (by decide)) ?_ ⟨_, rfl, rfl⟩
          refine Drw.a 14 rfl (by kernel_rfl) (Yv.fld F24_0 rfl) ?_ ⟨_, rfl, rfl⟩
          refine Drw.l 15 rfl (by kernel_rfl) hS37 (Yv.load A3 rfl (fun _ hq_ => ((hs34.grow hq_).cell 0 rfl 0 rfl))) ?_ ⟨_, rfl, rfl⟩
          have hc0 := check_ok (W := W0) (H := H0) (n := m0) (by omega)
          refine Drw.a 16 rfl (by kernel_rfl) (Yv.quo rfl rfl (by omega) (by omega) (by omega)) ?_ ⟨_, rfl, rfl⟩
          refine Drw.a 17 rfl (by kernel_rfl) (Yv.ne rfl rfl) ?_ ⟨_, rfl, rfl⟩
          refine Drw.dec (fun h39 => ?_) (fun h39 => ?_)
          · -- yes
            refine Drw.a 18 rfl (by kernel_rfl) (Yv.pick0 rfl rfl) ?_
            refine Drw.a 19 rfl (by kernel_rfl) (Yv.move rfl) ?_
            refine Drw.no 20 rfl (by kernel_rfl) ?_ ⟨_, rfl, rfl⟩
            refine Drw.no 21 rfl (by kernel_rfl) ?_ ⟨_, rfl, rfl⟩
            refine Drw.no 22 rfl (by kernel_rfl) ?_ ⟨_, rfl, rfl⟩
            refine Drw.no 23 rfl (by kernel_rfl) ?_ ⟨_, rfl, rfl⟩
            refine Drw.no 24 rfl (by kernel_rfl) ?_ ⟨_, rfl, rfl⟩
            refine Drw.no 25 rfl (by kernel_rfl) ?_ ⟨_, rfl, rfl⟩
            refine Drw.no 26 rfl (by kernel_rfl) ?_ ⟨_, rfl, rfl⟩
            refine Drw.no 27 rfl (by kernel_rfl) ?_ ⟨_, rfl, rfl⟩
            refine Drw.no 28 rfl (by kernel_rfl) ?_ ⟨_, rfl, rfl⟩
            refine Drw.no 29 rfl (by kernel_rfl) ?_ ⟨_, rfl, rfl⟩
            refine Drw.no 30 rfl (by kernel_rfl) ?_ ⟨_, rfl, rfl⟩
            refine Drw.a 31 rfl (by kernel_rfl) (Yv.pick1 rfl rfl) ?_
            refine Drw.done ?_ (by kernel_rfl)
            refine ⟨hs36, Sub.le ⟨rfl, rfl, rfl, rfl, rfl, rfl, lookB rfl (by first | (simp only [h38, h39, ne_eq, not_true_eq_false, not_false_eq_true, or_true, true_or, or_false, false_or, and_true, true_and, and_false, false_and, decide_true, decide_false, or_self, and_self, Bool.decide_eq_true]; done) | simp [h38, h39]), trivial⟩⟩
          · -- no
            refine Drw.a 18 rfl (by kernel_rfl) (Yv.pick0 rfl rfl) ?_
            refine Drw.a 19 rfl (by kernel_rfl) (Yv.move rfl) ?_
            refine Drw.a 20 rfl (by kernel_rfl) (Yv.move rfl) ?_ ⟨_, rfl, rfl⟩
            refine Drw.a 21 rfl (by kernel_rfl) (Yv.fld F27_0 rfl) ?_ ⟨_, rfl, rfl⟩
            refine Drw.a 22 rfl (by kernel_rfl) (Yv.idxa R25 rfl rfl (by decide) (by decide)) ?_ ⟨_, rfl, rfl⟩
            refine Drw.a 23 rfl (by kernel_rfl) (Yv.fld F24_1 rfl) ?_ ⟨_, rfl, rfl⟩
            refine Drw.l 24 rfl (by kernel_rfl) hS37 (Yv.load A3 rfl (fun _ hq_ => ((hs34.grow hq_).cell 0 rfl 7 rfl))) ?_ ⟨_, rfl, rfl⟩
            refine Drw.a 25 rfl (by kernel_rfl) (Yv.fld F27_0 rfl) ?_ ⟨_, rfl, rfl⟩
            refine Drw.a 26 rfl (by kernel_rfl) (Yv.idxa R25 rfl rfl (by decide) (by decide)) ?_ ⟨_, rfl, rfl⟩
            refine Drw.a 27 rfl (by kernel_rfl) (Yv.fld F24_1 rfl) ?_ ⟨_, rfl, rfl⟩
            refine Drw.l 28 rfl (by kernel_rfl) hS37 (Yv.load A3 rfl (fun _ hq_ => ((hs34.grow hq_).cell 0 rfl 1 rfl))) ?_ ⟨_, rfl, rfl⟩
            have hc0 := check_ok (W := W0) (H := H0) (n := m0) (by omega)
            refine Drw.a 29 rfl (by kernel_rfl) (Yv.quo rfl rfl (by omega) (by omega) (by omega)) ?_ ⟨_, rfl, rfl⟩
            refine Drw.a 30 rfl (by kernel_rfl) (Yv.ne rfl rfl) ?_ ⟨_, rfl, rfl⟩
            refine Drw.a 31 rfl (by kernel_rfl) (Yv.pick0 rfl rfl) ?_
            refine Drw.done ?_ (by kernel_rfl)
            refine ⟨hs36, Sub.le ⟨rfl, rfl, rfl, rfl, rfl, rfl, lookB rfl (by first | (simp only [h38, h39, ne_eq, not_true_eq_false, not_false_eq_true, or_true, true_or, or_false, false_or, and_true, true_and, and_false, false_and, decide_true, decide_false, or_self, and_self, Bool.decide_eq_true]; done) | simp [h38, h39]), trivial⟩⟩
      rintro e40 w40 ⟨hs40, he40⟩
      refine k33 _ _ ?_
      refine Run.le he40 ?_
      refine run_ifp rfl (fun h41 => ?_) (fun h41 => ?_)
      · -- yes (((checkF W2 H2 m2) ≠ (0 : Int)) ∨ (W2 ≠ (W0 / 2))) ∨ (H2 ≠ (H0 / 2))
        refine run_seq fun K42 k42 => ?_
        refine run_region ?_
        refine Ops.v (Yv.assign rfl) ?_
        refine Ops.nil ?_
        refine k42 _ _ ?_
        refine run_ret ?_
        refine ⟨[.int .i64 2], ⟨_, _, rfl, rfl, rfl⟩, ?_⟩
        exact ⟨congrArg (Value.int .i64) (by rw [wholeF, if_neg (by simp only [wholeP, sideP] at *; omega)]), hs40.pick [] _ (by decide) rfl⟩
      · -- no
        refine run_skip ?_
        refine k32 _ _ ?_
        refine run_region ?_
        refine Ops.v (Yv.move rfl) ?_
        refine Ops.v ((Yv.add rfl rfl (by omega)).to (v := .int .i64 3) (by rfl)) ?_
        refine Ops.v (Yv.assign rfl) ?_
        refine Ops.nil ?_
        show Run _ _ _ (seqQ _ _) _ _
        refine run_seq fun K43 k43 => ?_
        refine run_seq fun K44 k44 => ?_
        refine run_region ?_
        refine Ops.v (Yv.move rfl) ?_
        refine Ops.v ((Yv.lt rfl rfl).to (v := .bool false) (by rfl)) ?_
        refine Ops.nil ?_
        refine k44 _ _ ?_
        refine run_if0 rfl ?_
        refine run_exit ?_
        refine k15 _ _ ?_
        refine run_seq fun K45 k45 => ?_
        refine run_region ?_
        refine Ops.v (Yv.assign rfl) ?_
        refine Ops.nil ?_
        refine k45 _ _ ?_
        refine run_ret ?_
        refine ⟨[.int .i64 0], ⟨_, _, rfl, rfl, rfl⟩, ?_⟩
        exact ⟨congrArg (Value.int .i64) (by rw [wholeF, if_pos (by simp only [wholeP, sideP] at *; omega)]), hs40.pick [] _ (by decide) rfl⟩

theorem at_fun {w : World} {W H : Int} {A : Option Addr} {m c : Nat} {xs : List Int} (hr : Rd w A m 1 (u8s xs)) (hx : Bytes xs) {x y : Int} : Fun Try.prog 35 [.agg #[.int .i64 W, .int .i64 H, .slice A m c], .int .i64 x, .int .i64 y] w fun v w' => v = .int .u8 (atF xs W H m x y) ∧ HS w [] w' := by
  refine fun_run (m := 30) (rs := [.tmp 6]) Try.func35 rfl rfl rfl rfl rfl ?_
  have hs0 := HS.start w
  have hbig := hr.big
  have hlen_xs : xs.length = m := by have := hr.len; rw [u8s_length] at this; omega
  have hck := checkF_iff W H m
  refine run_seq fun K1 k1 => ?_
  refine run_region ?_
  refine Ops.s (Step.box (cs := [.int .i64 W, .int .i64 H, .slice A m c]) hs0 rfl rfl (fun b2 w3 hs3 hb3 => ?_) True.intro (by rfl))
  refine Ops.v (Yv.assign rfl) ?_
  refine Ops.nil ?_
  refine k1 _ _ ?_
  refine run_seq fun K5 k5 => ?_
  refine run_seq fun K6 k6 => ?_
  refine run_region ?_
  refine Ops.v (Yv.loadn (cs := [.int .i64 W, .int .i64 H, .slice A m c]) A24 S24 rfl (now (hs3.cells 0 rfl 0 3))) ?_
  refine Ops.s (Step.call rfl rfl (check_fun) (?_) True.intro (by rfl))
  rintro _ w7 ⟨rfl, hs7⟩
  replace hs7 := hs3.call hs7
  refine Ops.v (Yv.ne rfl rfl) ?_
  refine Ops.nil ?_
  refine k6 _ _ ?_
  refine run_ifp rfl (fun h8 => ?_) (fun h8 => ?_)
  · -- yes (checkF W H m) ≠ (0 : Int)
    refine run_seq fun K9 k9 => ?_
    refine run_region ?_
    refine Ops.v (Yv.assign rfl) ?_
    refine Ops.nil ?_
    refine k9 _ _ ?_
    refine run_ret ?_
    refine ⟨[.int .u8 0], ⟨_, _, rfl, rfl, rfl⟩, ?_⟩
    exact ⟨by rw [atF, if_neg h8], hs7.pick [] _ (by decide) rfl⟩
  · -- no
    have hWH := mul_bd (a := W) (b := H) (x := 512) (y := 512) (by omega) (by omega) (by omega) (by omega)
    have hpl := place_in (W := W) (H := H) (r := min (max y 0) (H - 1)) (c := min (max x 0) (W - 1)) (by omega) (by omega) (by omega) (by omega)
    have hmy := mul_bd (a := min (max y 0) (H - 1)) (b := W) (x := 512) (y := 512) (by omega) (by omega) (by omega) (by omega)
    refine run_skip ?_
    refine k5 _ _ ?_
    refine run_seq fun K10 k10 => ?_
    refine run_region ?_
    refine Ops.v (Yv.fld F24_2 rfl) ?_
    refine Ops.v (Yv.load A22 rfl (now (hs7.cell 0 rfl 2 rfl))) ?_
    refine Ops.v (Yv.move rfl) ?_
    refine Ops.v (Yv.max rfl rfl) ?_
    refine Ops.v (Yv.fld F24_1 rfl) ?_
    refine Ops.v (Yv.load A3 rfl (now (hs7.cell 0 rfl 1 rfl))) ?_
    refine Ops.v (Yv.sub rfl rfl (by omega)) ?_
    refine Ops.v (Yv.min rfl rfl) ?_
    refine Ops.v (Yv.fld F24_0 rfl) ?_
    refine Ops.v (Yv.load A3 rfl (now (hs7.cell 0 rfl 0 rfl))) ?_
    refine Ops.v (Yv.mul rfl rfl (by omega)) ?_
    refine Ops.v (Yv.move rfl) ?_
    refine Ops.v (Yv.max rfl rfl) ?_
    refine Ops.v (Yv.fld F24_0 rfl) ?_
    refine Ops.v (Yv.load A3 rfl (now (hs7.cell 0 rfl 0 rfl))) ?_
    refine Ops.v (Yv.sub rfl rfl (by omega)) ?_
    refine Ops.v (Yv.min rfl rfl) ?_
    refine Ops.v (Yv.add rfl rfl (by omega)) ?_
    refine Ops.v (Yv.idx L22 rfl rfl ((hs7.rd hr).isSome (i := ((min (max y 0) (H - 1)) * W) + (min (max x 0) (W - 1))) (by omega) (by omega)) (by omega) (by omega)) ?_
    refine Ops.v (Yv.load A5 rfl (now ((hs7.rd hr).u8 (by omega) (by omega)))) ?_
    have g11 := gi_bytes (xs := xs) hx (((min (max y 0) (H - 1)) * W) + (min (max x 0) (W - 1)))
    refine Ops.v (Yv.assign rfl) ?_
    have g11 := gi_bytes (xs := xs) hx (((min (max y 0) (H - 1)) * W) + (min (max x 0) (W - 1)))
    refine Ops.nil ?_
    refine k10 _ _ ?_
    refine run_ret ?_
    refine ⟨[.int .u8 (gi xs (((min (max y 0) (H - 1)) * W) + (min (max x 0) (W - 1))))], ⟨_, _, rfl, rfl, rfl⟩, ?_⟩
    exact ⟨by rw [atF, if_pos (by omega), nearF], hs7.pick [] _ (by decide) rfl⟩

theorem mul64_fun {w : World} {y : Int} (hy : 0 ≤ y ∧ y ≤ 2147483648) : Fun Try.prog 71 [.int .u64 1, .int .u64 y] w fun v w' => v = .tuple #[.int .u64 0, .int .u64 y] ∧ w = w' := by
  refine fun_run (m := 51) (rs := [.tmp 4, .tmp 5]) Try.func71 rfl rfl rfl rfl rfl ?_
  have hs0 := HS.start w
  refine run_seq fun K1 k1 => ?_
  refine run_region ?_
  refine Ops.v (Yv.assign rfl) ?_
  refine Ops.v (Yv.assign rfl) ?_
  refine Ops.nil ?_
  refine k1 _ _ ?_
  refine run_seq fun K2 k2 => ?_
  refine run_region ?_
  refine Ops.v (Yv.move rfl) ?_
  refine Ops.v ((Yv.andu rfl rfl 32 (by decide) (by rfl)).to (v := .int .u64 1) (toV (by first | rfl | omega | (simp only [Int.one_mul, Int.zero_mul, Int.mul_one, Int.mul_zero, Int.zero_add, Int.add_zero]; first | rfl | exact wrap_u64 (by omega) (by omega))))) ?_
  refine Ops.v (Yv.assign rfl) ?_
  refine Ops.nil ?_
  refine k2 _ _ ?_
  refine run_seq fun K3 k3 => ?_
  refine run_region ?_
  refine Ops.v (Yv.move rfl) ?_
  refine Ops.v ((Yv.shrk rfl rfl 32 (by rfl) (by decide)).to (v := .int .u64 0) (toV (by first | rfl | omega | (simp only [Int.one_mul, Int.zero_mul, Int.mul_one, Int.mul_zero, Int.zero_add, Int.add_zero]; first | rfl | exact wrap_u64 (by omega) (by omega))))) ?_
  refine Ops.v (Yv.assign rfl) ?_
  refine Ops.nil ?_
  refine k3 _ _ ?_
  refine run_seq fun K4 k4 => ?_
  refine run_region ?_
  refine Ops.v (Yv.move rfl) ?_
  refine Ops.v ((Yv.andu rfl rfl 32 (by decide) (by rfl)).to (v := .int .u64 y) (toV (by first | rfl | omega | (simp only [Int.one_mul, Int.zero_mul, Int.mul_one, Int.mul_zero, Int.zero_add, Int.add_zero]; first | rfl | exact wrap_u64 (by omega) (by omega))))) ?_
  refine Ops.v (Yv.assign rfl) ?_
  refine Ops.nil ?_
  refine k4 _ _ ?_
  refine run_seq fun K5 k5 => ?_
  refine run_region ?_
  refine Ops.v (Yv.move rfl) ?_
  refine Ops.v ((Yv.shrk rfl rfl 32 (by rfl) (by decide)).to (v := .int .u64 0) (toV (by first | rfl | omega | (simp only [Int.one_mul, Int.zero_mul, Int.mul_one, Int.mul_zero, Int.zero_add, Int.add_zero]; first | rfl | exact wrap_u64 (by omega) (by omega))))) ?_
  refine Ops.v (Yv.assign rfl) ?_
  refine Ops.nil ?_
  refine k5 _ _ ?_
  refine run_seq fun K6 k6 => ?_
  refine run_region ?_
  refine Ops.v (Yv.move rfl) ?_
  refine Ops.v (Yv.move rfl) ?_
  refine Ops.v ((Yv.mulw rfl rfl).to (v := .int .u64 y) (toV (by first | rfl | omega | (simp only [Int.one_mul, Int.zero_mul, Int.mul_one, Int.mul_zero, Int.zero_add, Int.add_zero]; first | rfl | exact wrap_u64 (by omega) (by omega))))) ?_
  refine Ops.v (Yv.assign rfl) ?_
  refine Ops.nil ?_
  refine k6 _ _ ?_
  refine run_seq fun K7 k7 => ?_
  refine run_region ?_
  refine Ops.v (Yv.move rfl) ?_
  refine Ops.v (Yv.move rfl) ?_
  refine Ops.v ((Yv.mulw rfl rfl).to (v := .int .u64 0) (toV (by first | rfl | omega | (simp only [Int.one_mul, Int.zero_mul, Int.mul_one, Int.mul_zero, Int.zero_add, Int.add_zero]; first | rfl | exact wrap_u64 (by omega) (by omega))))) ?_
  refine Ops.v (Yv.move rfl) ?_
  refine Ops.v ((Yv.shrk rfl rfl 32 (by rfl) (by decide)).to (v := .int .u64 0) (toV (by first | rfl | omega | (simp only [Int.one_mul, Int.zero_mul, Int.mul_one, Int.mul_zero, Int.zero_add, Int.add_zero]; first | rfl | exact wrap_u64 (by omega) (by omega))))) ?_
  refine Ops.v ((Yv.addw rfl rfl).to (v := .int .u64 0) (toV (by first | rfl | omega | (simp only [Int.one_mul, Int.zero_mul, Int.mul_one, Int.mul_zero, Int.zero_add, Int.add_zero]; first | rfl | exact wrap_u64 (by omega) (by omega))))) ?_
  refine Ops.v (Yv.assign rfl) ?_
  refine Ops.nil ?_
  refine k7 _ _ ?_
  refine run_seq fun K8 k8 => ?_
  refine run_region ?_
  refine Ops.v (Yv.move rfl) ?_
  refine Ops.v ((Yv.andu rfl rfl 32 (by decide) (by rfl)).to (v := .int .u64 0) (toV (by first | rfl | omega | (simp only [Int.one_mul, Int.zero_mul, Int.mul_one, Int.mul_zero, Int.zero_add, Int.add_zero]; first | rfl | exact wrap_u64 (by omega) (by omega))))) ?_
  refine Ops.v (Yv.assign rfl) ?_
  refine Ops.nil ?_
  refine k8 _ _ ?_
  refine run_seq fun K9 k9 => ?_
  refine run_region ?_
  refine Ops.v (Yv.move rfl) ?_
  refine Ops.v ((Yv.shrk rfl rfl 32 (by rfl) (by decide)).to (v := .int .u64 0) (toV (by first | rfl | omega | (simp only [Int.one_mul, Int.zero_mul, Int.mul_one, Int.mul_zero, Int.zero_add, Int.add_zero]; first | rfl | exact wrap_u64 (by omega) (by omega))))) ?_
  refine Ops.v (Yv.assign rfl) ?_
  refine Ops.nil ?_
  refine k9 _ _ ?_
  refine run_seq fun K10 k10 => ?_
  refine run_region ?_
  refine Ops.v (Yv.move rfl) ?_
  refine Ops.v (Yv.move rfl) ?_
  refine Ops.v (Yv.move rfl) ?_
  refine Ops.v ((Yv.mulw rfl rfl).to (v := .int .u64 0) (toV (by first | rfl | omega | (simp only [Int.one_mul, Int.zero_mul, Int.mul_one, Int.mul_zero, Int.zero_add, Int.add_zero]; first | rfl | exact wrap_u64 (by omega) (by omega))))) ?_
  refine Ops.v ((Yv.addw rfl rfl).to (v := .int .u64 0) (toV (by first | rfl | omega | (simp only [Int.one_mul, Int.zero_mul, Int.mul_one, Int.mul_zero, Int.zero_add, Int.add_zero]; first | rfl | exact wrap_u64 (by omega) (by omega))))) ?_
  refine Ops.v (Yv.assign rfl) ?_
  refine Ops.nil ?_
  refine k10 _ _ ?_
  refine run_seq fun K11 k11 => ?_
  refine run_region ?_
  refine Ops.v (Yv.move rfl) ?_
  refine Ops.v (Yv.move rfl) ?_
  refine Ops.v ((Yv.mulw rfl rfl).to (v := .int .u64 0) (toV (by first | rfl | omega | (simp only [Int.one_mul, Int.zero_mul, Int.mul_one, Int.mul_zero, Int.zero_add, Int.add_zero]; first | rfl | exact wrap_u64 (by omega) (by omega))))) ?_
  refine Ops.v (Yv.move rfl) ?_
  refine Ops.v ((Yv.addw rfl rfl).to (v := .int .u64 0) (toV (by first | rfl | omega | (simp only [Int.one_mul, Int.zero_mul, Int.mul_one, Int.mul_zero, Int.zero_add, Int.add_zero]; first | rfl | exact wrap_u64 (by omega) (by omega))))) ?_
  refine Ops.v (Yv.move rfl) ?_
  refine Ops.v ((Yv.shrk rfl rfl 32 (by rfl) (by decide)).to (v := .int .u64 0) (toV (by first | rfl | omega | (simp only [Int.one_mul, Int.zero_mul, Int.mul_one, Int.mul_zero, Int.zero_add, Int.add_zero]; first | rfl | exact wrap_u64 (by omega) (by omega))))) ?_
  refine Ops.v ((Yv.addw rfl rfl).to (v := .int .u64 0) (toV (by first | rfl | omega | (simp only [Int.one_mul, Int.zero_mul, Int.mul_one, Int.mul_zero, Int.zero_add, Int.add_zero]; first | rfl | exact wrap_u64 (by omega) (by omega))))) ?_
  refine Ops.v (Yv.assign rfl) ?_
  refine Ops.nil ?_
  refine k11 _ _ ?_
  refine run_seq fun K12 k12 => ?_
  refine run_region ?_
  refine Ops.v (Yv.move rfl) ?_
  refine Ops.v (Yv.move rfl) ?_
  refine Ops.v ((Yv.mulw rfl rfl).to (v := .int .u64 y) (toV (by first | rfl | omega | (simp only [Int.one_mul, Int.zero_mul, Int.mul_one, Int.mul_zero, Int.zero_add, Int.add_zero]; first | rfl | exact wrap_u64 (by omega) (by omega))))) ?_
  refine Ops.v (Yv.assign rfl) ?_
  refine Ops.nil ?_
  refine k12 _ _ ?_
  refine run_ret ?_
  refine ⟨[.int .u64 0, .int .u64 y], ⟨_, _, rfl, rfl, ⟨_, _, rfl, rfl, rfl⟩⟩, ?_⟩
  exact ⟨rfl, rfl⟩

theorem mul_fun {w : World} {y : Int} (hy : 0 ≤ y ∧ y ≤ 2147483648) : Fun Try.prog 69 [.int .u64 1, .int .u64 y] w fun v w' => v = .tuple #[.int .u64 0, .int .u64 y] ∧ w = w' := by
  refine fun_run (m := 30) (rs := [.tmp 4, .tmp 5]) Try.func69 rfl rfl rfl rfl rfl ?_
  have hs0 := HS.start w
  refine run_seq fun K1 k1 => ?_
  refine run_region ?_
  refine Ops.v (Yv.assign rfl) ?_
  refine Ops.v (Yv.assign rfl) ?_
  refine Ops.nil ?_
  refine k1 _ _ ?_
  refine run_seq fun K2 k2 => ?_
  refine run_if0 rfl ?_
  refine run_skip ?_
  refine k2 _ _ ?_
  refine run_seq fun K3 k3 => ?_
  refine run_region ?_
  refine Ops.v (Yv.move rfl) ?_
  refine Ops.v (Yv.move rfl) ?_
  refine Ops.s (Step.call rfl rfl (mul64_fun (by omega)) (?_) True.intro (by rfl))
  rintro _ _ ⟨rfl, rfl⟩
  refine Ops.v (Yv.move rfl) ?_
  refine Ops.v (Yv.extract rfl rfl) ?_
  refine Ops.v (Yv.extract rfl rfl) ?_
  refine Ops.v (Yv.assign rfl) ?_
  refine Ops.v (Yv.assign rfl) ?_
  refine Ops.nil ?_
  refine k3 _ _ ?_
  refine run_seq fun K5 k5 => ?_
  refine run_region ?_
  refine Ops.v (Yv.move rfl) ?_
  refine Ops.v (Yv.move rfl) ?_
  refine Ops.v (Yv.assign rfl) ?_
  refine Ops.v (Yv.assign rfl) ?_
  refine Ops.nil ?_
  refine k5 _ _ ?_
  refine run_ret ?_
  refine ⟨[.int .u64 0, .int .u64 y], ⟨_, _, rfl, rfl, ⟨_, _, rfl, rfl, rfl⟩⟩, ?_⟩
  exact ⟨rfl, rfl⟩

theorem repeat_fun {w : World} {n x : Int} {A : Option Addr} {c : Nat} (hr : Rd w A 1 1 (u8s [x])) (hb : 0 ≤ x ∧ x ≤ 255) (hn : 0 ≤ n ∧ n ≤ 1000000) : Fun Try.prog 63 [.slice A 1 c, .int .i64 n] w fun v w' => ∃ A' c', v = .slice A' n.toNat c' ∧ HS w [.row A' n.toNat c' (u8s (List.replicate n.toNat x)) 5 1] w' := by
  refine fun_run (m := 48) (rs := [.tmp 4]) Try.func63 rfl rfl rfl rfl rfl ?_
  have hs0 := HS.start w
  refine run_seq fun K1 k1 => ?_
  refine run_region ?_
  refine Ops.v (Yv.assign rfl) ?_
  refine Ops.nil ?_
  refine k1 _ _ ?_
  refine run_seq fun K2 k2 => ?_
  refine run_seq fun K3 k3 => ?_
  refine run_region ?_
  refine Ops.v (Yv.move rfl) ?_
  refine Ops.v (Yv.lt rfl rfl) ?_
  refine Ops.nil ?_
  refine k3 _ _ ?_
  refine run_ifp rfl (fun hx => absurd hx (by omega)) (fun _ => ?_)
  refine run_skip ?_
  refine k2 _ _ ?_
  refine run_seq fun K4 k4 => ?_
  refine run_region ?_
  refine Ops.v (Yv.move rfl) ?_
  refine Ops.v (Yv.len (by rw [L22]; rfl) rfl) ?_
  refine Ops.v (Yv.convK U73 V3 rfl (wrap_u64 (by omega) (by omega))) ?_
  refine Ops.v (Yv.move rfl) ?_
  refine Ops.v (Yv.convK U73 V3 rfl (wrap_u64 (by omega) (by omega))) ?_
  refine Ops.s (Step.call rfl rfl (mul_fun (by omega)) (?_) True.intro (by rfl))
  rintro _ _ ⟨rfl, rfl⟩
  refine Ops.v (Yv.move rfl) ?_
  refine Ops.v (Yv.extract rfl rfl) ?_
  refine Ops.v (Yv.extract rfl rfl) ?_
  refine Ops.v (Yv.assign rfl) ?_
  refine Ops.v (Yv.assign rfl) ?_
  refine Ops.nil ?_
  refine k4 _ _ ?_
  refine run_seq fun K6 k6 => ?_
  refine run_seq fun K7 k7 => ?_
  refine run_region ?_
  refine Ops.v (Yv.move rfl) ?_
  refine Ops.v ((Yv.gt rfl rfl).to (v := .bool false) (by rfl)) ?_
  refine Ops.v (Yv.move rfl) ?_
  refine Ops.vg ⟨_, rfl, rfl⟩ (Yv.move rfl) ?_
  refine Ops.vg ⟨_, rfl, rfl⟩ (Yv.gt rfl rfl) ?_
  refine Ops.dec0 (by omega) ?_
  refine Ops.v (Yv.pick0 rfl rfl) ?_
  refine Ops.nil ?_
  refine k7 _ _ ?_
  refine run_if0 rfl ?_
  refine run_skip ?_
  refine k6 _ _ ?_
  refine run_seq fun K8 k8 => ?_
  refine run_region ?_
  refine Ops.v (Yv.move rfl) ?_
  refine Ops.v (Yv.toInt U3 V73 rfl (by omega)) ?_
  refine Ops.s (Step.make hs0 L22 Z5 rfl rfl (by omega) (by omega) (by omega) (fun b10 w9 hs9 hb9 => ?_) True.intro (by rfl))
  rw [u8s_rep] at hs9
  refine Ops.v (Yv.assign rfl) ?_
  refine Ops.nil ?_
  refine k8 _ _ ?_
  refine run_seq fun K12 k12 => ?_
  refine run_region ?_
  refine Ops.v (Yv.move rfl) ?_
  refine Ops.v (Yv.move rfl) ?_
  refine Ops.s (Step.copy 0 hs9 rfl rfl 0 rfl L22 (hs9.rd hr) (u8s_one _) (by omega) (fun h_ => row_copy ((hs9.rdRow 0 rfl).isSome (i := 0) (by omega) (by omega))) (fun w13 hs13 => ?_) True.intro (by rfl))
  replace hs13 : HS w [.row (some ⟨b10, 0, none⟩) n.toNat n.toNat (u8s (putL (List.replicate n.toNat 0) 0 ([x].take (min 1 n.toNat)))) 5 1] w13 := by simpa only [List.set, u8s_take, u8s_putL] using hs13
  refine Ops.v (Yv.assign rfl) ?_
  refine Ops.nil ?_
  refine k12 _ _ ?_
  refine run_seq fun K14 k14 => ?_
  refine run_block ?_
  refine Run.sub [(0, _), (1, _), (4, _), (5, _), (6, _), (7, _), (8, _), (10, _), (26, _)] ⟨rfl, rfl, rfl, rfl, rfl, rfl, rfl, rfl, rfl, trivial⟩ ?_
  refine run_loop (σ := Nat) (fun k e_ w_ => HS w [.row (some ⟨b10, 0, none⟩) n.toNat n.toNat (u8s (repIn x n.toNat k)) 5 1] w_ ∧ e_ = [(0, .slice A 1 c), (1, .int .i64 n), (4, .slice none 0 0), (5, .int .u64 0), (6, .int .u64 n), (7, .slice (some ⟨b10, 0, none⟩) n.toNat n.toNat), (8, .int .i64 (k : Int)), (10, .bool (decide (n < (0 : Int)))), (26, .bool false)] ∧ k ≤ n.toNat ∧ (n.toNat = 0 ∨ 1 ≤ k))
    (fun k => n.toNat - k) (min 1 n.toNat) ?_ ?_
  · -- at the start
    refine ⟨(hs13.to (by rw [repIn_first])), rfl, by omega, by omega⟩
  · -- a round
    rintro k _ w15 ⟨hs15, rfl, f1, f2⟩
    have hlr := repIn_length (x := x) f1
    refine run_seq fun K16 k16 => ?_
    refine run_seq fun K17 k17 => ?_
    refine run_region ?_
    refine Ops.v (Yv.move rfl) ?_
    refine Ops.v (Yv.move rfl) ?_
    refine Ops.v (Yv.len (by rw [L22]; rfl) rfl) ?_
    refine Ops.v (Yv.lt rfl rfl) ?_
    refine Ops.nil ?_
    refine k17 _ _ ?_
    refine run_ifp rfl (fun h18 => ?_) (fun h18 => ?_)
    · -- yes (k : Int) < (n.toNat : Int)
      refine run_skip ?_
      refine k16 _ _ ?_
      refine run_block ?_
      refine run_drawn [] (fun x => HS w [] x) ?_ Tf.mixed (by kernel_rfl) (fun _ _ _ h => h)
      have hs19 := hs15.drew
      have hS20 := hs19.pick [] [] (by decide) rfl
      refine Drw.a 0 rfl (by kernel_rfl) (Yv.move rfl) ?_
      refine Drw.a 1 rfl (by kernel_rfl) (Yv.move rfl) ?_
      refine Drw.a 2 rfl (by kernel_rfl) (Yv.move rfl) ?_
      have hcap21 := hs19.cap 0 rfl
      refine Drw.a 3 rfl (by kernel_rfl) (Yv.part k n.toNat L22 rfl ⟨_, _, rfl, by omega⟩ rfl (by omega) (by omega)) ?_
      refine Drw.a 4 rfl (by kernel_rfl) (Yv.move rfl) ?_
      refine Drw.a 5 rfl (by kernel_rfl) (Yv.move rfl) ?_
      have hcap22 := hs19.cap 0 rfl
      refine Drw.a 6 rfl (by kernel_rfl) (Yv.partTo k L22 rfl rfl (by omega) (by omega)) ?_
      refine Drw.one 7 rfl (by kernel_rfl) (Step.copy 0 hs19 rfl rfl k rfl L22 ((hs19.rdRow 0 rfl).pre8 k (by omega)) (u8s_one _) (by omega) (fun h_ => slA_copy ((hs19.rdRow 0 rfl).isSome (i := k) (by omega) (by omega)) (by omega)) (fun w23 hs23 => ?_) True.intro (by rfl))
      replace hs23 : HS w [.row (some ⟨b10, 0, none⟩) n.toNat n.toNat (u8s (putL (repIn x n.toNat k) k (((repIn x n.toNat k).take k).take (min k (n.toNat - k))))) 5 1] w23 := by simpa only [List.set, u8s_take, u8s_putL] using hs23
      have hS24 := hs23.pick [] [] (by decide) rfl
      refine ⟨fun _ _ => hS24, ?_⟩
      refine Drw.a 8 rfl (by kernel_rfl) (Yv.add rfl rfl (by omega)) ?_
      refine Drw.a 9 rfl (by kernel_rfl) (Yv.assign rfl) ?_
      refine Drw.done ?_ (by kernel_rfl)
      refine ⟨k + min k (n.toNat - k), _, ⟨(hs23.to (by rw [repIn_next f1])), rfl, by omega, by omega⟩, Sub.le ⟨rfl, rfl, rfl, rfl, rfl, rfl, lookI rfl (by omega), rfl, rfl, trivial⟩, by omega⟩
    · -- no
      refine run_exit ?_
      refine k14 _ _ ?_
      refine run_seq fun K25 k25 => ?_
      refine run_region ?_
      refine Ops.v (Yv.move rfl) ?_
      refine Ops.v (Yv.assign rfl) ?_
      refine Ops.nil ?_
      refine k25 _ _ ?_
      refine run_ret ?_
      refine ⟨[.slice (some ⟨b10, 0, none⟩) n.toNat n.toNat], ⟨_, _, rfl, rfl, rfl⟩, ?_⟩
      have hz := hs15.pick [0] [.row (some ⟨b10, 0, none⟩) n.toNat n.toNat (u8s (repIn x n.toNat k)) 5 1] (by decide) rfl
      exact ⟨_, _, rfl, hz.to (by rw [show k = n.toNat from by omega, repIn_done])⟩

theorem new_bad {w : World} {a b x : Int} (hok : ¬ ((1 ≤ a ∧ a ≤ 512) ∧ 1 ≤ b ∧ b ≤ 512)) : Fun Try.prog 51 [.int .i64 a, .int .i64 b, .int .u8 x] w fun v w' => v = .tuple #[.agg #[.int .i64 0, .int .i64 0, .slice none 0 0], .int .i64 2] ∧ HS w [] w' := by
  refine fun_run (m := 22) (rs := [.cell 6 24, .tmp 7]) Try.func51 rfl rfl rfl rfl rfl ?_
  have hs0 := HS.start w
  refine run_seq fun K1 k1 => ?_
  refine run_region ?_
  refine Ops.s (Step.alloc (cs := [.int .i64 0, .int .i64 0, .slice none 0 0]) hs0 Z24 rfl (fun b2 w3 hs3 hb3 => ?_) True.intro (by rfl))
  refine Ops.v (Yv.assign rfl) ?_
  refine Ops.nil ?_
  refine k1 _ _ ?_
  refine run_seq fun K5 k5 => ?_
  refine run_seq fun K6 k6 => ?_
  refine run_region ?_
  refine Ops.v (Yv.move rfl) ?_
  refine Ops.v (Yv.move rfl) ?_
  refine Ops.s (Step.call rfl rfl (sizes_fun) (?_) True.intro (by rfl))
  rintro _ _ ⟨rfl, rfl⟩
  refine Ops.v (Yv.notp rfl) ?_
  refine Ops.nil ?_
  refine k6 _ _ ?_
  refine run_ifp rfl (fun _ => ?_) (fun hx => absurd (by omega) hx)
  refine run_seq fun K8 k8 => ?_
  refine run_region ?_
  refine Ops.v (Yv.buildS (cs := #[.int .i64 0, .int .i64 0, .slice none 0 0]) T24 rfl rfl) ?_
  refine Ops.s (Step.store (vs := [.int .i64 0, .int .i64 0, .slice none 0 0]) 0 hs3 rfl rfl rfl rfl S24 (Nat.le_of_ble_eq_true rfl) rfl (fun w9 hs9 => ?_) True.intro)
  replace hs9 : HS _ [.blk _ [_, _, _] _] _ := hs9
  refine Ops.v (Yv.assign rfl) ?_
  refine Ops.nil ?_
  refine k8 _ _ ?_
  refine run_ret ?_
  refine ⟨[.agg #[.int .i64 0, .int .i64 0, .slice none 0 0], .int .i64 2], ⟨_, _, _, rfl, rfl, run_loadn (cs := [.int .i64 0, .int .i64 0, .slice none 0 0]) A24 S24 (hs9.cells 0 rfl 0 3), ⟨_, _, rfl, rfl, rfl⟩⟩, ?_⟩
  exact ⟨rfl, hs9.pick [] _ (by decide) rfl⟩

theorem new_good {w : World} {a b x : Int} (hok : (1 ≤ a ∧ a ≤ 512) ∧ 1 ≤ b ∧ b ≤ 512) (hb : 0 ≤ x ∧ x ≤ 255) : Fun Try.prog 51 [.int .i64 a, .int .i64 b, .int .u8 x] w fun v w' => ∃ A' c', v = .tuple #[.agg #[.int .i64 a, .int .i64 b, .slice A' (a * b).toNat c'], .int .i64 0] ∧ HS w [.row A' (a * b).toNat c' (u8s (List.replicate (a * b).toNat x)) 5 1] w' := by
  refine fun_run (m := 22) (rs := [.cell 6 24, .tmp 7]) Try.func51 rfl rfl rfl rfl rfl ?_
  have hs0 := HS.start w
  have hab := mul_bd (a := a) (b := b) (x := 512) (y := 512) (by omega) (by omega) (by omega) (by omega)
  refine run_seq fun K1 k1 => ?_
  refine run_region ?_
  refine Ops.s (Step.alloc (cs := [.int .i64 0, .int .i64 0, .slice none 0 0]) hs0 Z24 rfl (fun b2 w3 hs3 hb3 => ?_) True.intro (by rfl))
  refine Ops.v (Yv.assign rfl) ?_
  refine Ops.nil ?_
  refine k1 _ _ ?_
  refine run_seq fun K5 k5 => ?_
  refine run_seq fun K6 k6 => ?_
  refine run_region ?_
  refine Ops.v (Yv.move rfl) ?_
  refine Ops.v (Yv.move rfl) ?_
  refine Ops.s (Step.call rfl rfl (sizes_fun) (?_) True.intro (by rfl))
  rintro _ _ ⟨rfl, rfl⟩
  refine Ops.v (Yv.notp rfl) ?_
  refine Ops.nil ?_
  refine k6 _ _ ?_
  refine run_ifp rfl (fun hx => absurd hx (by omega)) (fun _ => ?_)
  refine run_skip ?_
  refine k5 _ _ ?_
  refine run_seq fun K8 k8 => ?_
  refine run_region ?_
  refine Ops.v (Yv.move rfl) ?_
  refine Ops.v (Yv.move rfl) ?_
  refine Ops.v (Yv.move rfl) ?_
  refine Ops.s (Step.lit (ps := [(0, .int .u8 x)]) (cs := [.int .u8 x]) hs3 L22 ⟨_, Z5, rfl⟩ rfl (by decide) (by decide) (by kernel_rfl) rfl (by decide) (fun b10 w9 hs9 hb9 => ?_) True.intro (by rfl))
  replace hs9 : HS w [.row (some ⟨b10, 0, none⟩) 1 1 (u8s [x]) 5 1, .blk b2 [.int .i64 0, .int .i64 0, .slice none 0 0] 24] w9 := hs9
  have by12 : Bytes [x] := by intro x hx_; simp only [List.mem_cons, List.not_mem_nil, or_false] at hx_; omega
  refine Ops.v (Yv.move rfl) ?_
  refine Ops.v (Yv.move rfl) ?_
  refine Ops.v (Yv.mul rfl rfl (by omega)) ?_
  refine Ops.s (Step.call rfl rfl (repeat_fun (hs9.rdRow 0 rfl) (by omega) (by omega)) (?_) True.intro (by rfl))
  rintro _ w16 ⟨Ad13, c14, rfl, hs16⟩
  replace hs16 := hs9.call hs16
  refine Ops.v (Yv.buildS (cs := #[.int .i64 a, .int .i64 b, .slice Ad13 ((a * b).toNat) c14]) T24 rfl rfl) ?_
  refine Ops.s (Step.store (vs := [.int .i64 a, .int .i64 b, .slice Ad13 ((a * b).toNat) c14]) 2 hs16 rfl rfl rfl rfl S24 (Nat.le_of_ble_eq_true rfl) rfl (fun w17 hs17 => ?_) True.intro)
  replace hs17 : HS _ [.row _ _ _ _ _ _, .row _ _ _ _ _ _, .blk _ [_, _, _] _] _ := hs17
  refine Ops.v (Yv.assign rfl) ?_
  refine Ops.nil ?_
  refine k8 _ _ ?_
  refine run_ret ?_
  refine ⟨[.agg #[.int .i64 a, .int .i64 b, .slice Ad13 ((a * b).toNat) c14], .int .i64 0], ⟨_, _, _, rfl, rfl, run_loadn (cs := [.int .i64 a, .int .i64 b, .slice Ad13 ((a * b).toNat) c14]) A24 S24 (hs17.cells 2 rfl 0 3), ⟨_, _, rfl, rfl, rfl⟩⟩, ?_⟩
  have hz := hs17.pick [0] [.row Ad13 ((a * b).toNat) c14 (u8s (List.replicate (a * b).toNat x)) 5 1] (by decide) rfl
  exact ⟨_, _, rfl, hz⟩

theorem frame_bad {w : World} {a b x : Int} (hok : ¬ (sideP a ∧ sideP b)) : Fun Try.prog 33 [.int .i64 a, .int .i64 b, .int .u8 x] w fun v w' => v = .tuple #[.agg #[.int .i64 0, .int .i64 0, .slice none 0 0, .int .i64 0, .int .i64 0, .slice none 0 0, .int .i64 0, .int .i64 0, .slice none 0 0], .int .i64 2] ∧ HS w [] w' := by
  refine fun_run (m := 43) (rs := [.cell 6 27, .tmp 7]) Try.func33 rfl rfl rfl rfl rfl ?_
  have hs0 := HS.start w
  refine run_seq fun K1 k1 => ?_
  refine run_region ?_
  refine Ops.s (Step.alloc (cs := [.int .i64 0, .int .i64 0, .slice none 0 0, .int .i64 0, .int .i64 0, .slice none 0 0, .int .i64 0, .int .i64 0, .slice none 0 0]) hs0 Z27 rfl (fun b2 w3 hs3 hb3 => ?_) True.intro (by rfl))
  refine Ops.v (Yv.assign rfl) ?_
  refine Ops.nil ?_
  refine k1 _ _ ?_
  refine run_seq fun K5 k5 => ?_
  refine run_seq fun K6 k6 => ?_
  refine run_region ?_
  refine Ops.v (Yv.move rfl) ?_
  refine Ops.v (Yv.move rfl) ?_
  refine Ops.s (Step.call rfl rfl (sides_fun) (?_) True.intro (by rfl))
  rintro _ _ ⟨rfl, rfl⟩
  refine Ops.v (Yv.notp rfl) ?_
  refine Ops.nil ?_
  refine k6 _ _ ?_
  refine run_ifp rfl (fun _ => ?_) (fun hx => absurd (hok) hx)
  refine run_seq fun K8 k8 => ?_
  refine run_region ?_
  refine Ops.v (Yv.buildS (cs := #[.int .i64 0, .int .i64 0, .slice none 0 0, .int .i64 0, .int .i64 0, .slice none 0 0, .int .i64 0, .int .i64 0, .slice none 0 0]) T27 rfl rfl) ?_
  refine Ops.s (Step.store (vs := [.int .i64 0, .int .i64 0, .slice none 0 0, .int .i64 0, .int .i64 0, .slice none 0 0, .int .i64 0, .int .i64 0, .slice none 0 0]) 0 hs3 rfl rfl rfl rfl S27 (Nat.le_of_ble_eq_true rfl) rfl (fun w9 hs9 => ?_) True.intro)
  replace hs9 : HS _ [.blk _ [_, _, _, _, _, _, _, _, _] _] _ := hs9
  refine Ops.v (Yv.assign rfl) ?_
  refine Ops.nil ?_
  refine k8 _ _ ?_
  refine run_ret ?_
  refine ⟨[.agg #[.int .i64 0, .int .i64 0, .slice none 0 0, .int .i64 0, .int .i64 0, .slice none 0 0, .int .i64 0, .int .i64 0, .slice none 0 0], .int .i64 2], ⟨_, _, _, rfl, rfl, run_loadn (cs := [.int .i64 0, .int .i64 0, .slice none 0 0, .int .i64 0, .int .i64 0, .slice none 0 0, .int .i64 0, .int .i64 0, .slice none 0 0]) A27 S27 (hs9.cells 0 rfl 0 9), ⟨_, _, rfl, rfl, rfl⟩⟩, ?_⟩
  exact ⟨rfl, hs9.pick [] _ (by decide) rfl⟩

theorem frame_good {w : World} {a b x : Int} (hok : sideP a ∧ sideP b) (hb : 0 ≤ x ∧ x ≤ 255) : Fun Try.prog 33 [.int .i64 a, .int .i64 b, .int .u8 x] w fun v w' => ∃ A0 c0 A1 c1 A2 c2, v = .tuple #[.agg #[.int .i64 a, .int .i64 b, .slice A0 (a * b).toNat c0, .int .i64 (a / 2), .int .i64 (b / 2), .slice A1 (a / 2 * (b / 2)).toNat c1, .int .i64 (a / 2), .int .i64 (b / 2), .slice A2 (a / 2 * (b / 2)).toNat c2], .int .i64 0] ∧ HS w [.row A0 (a * b).toNat c0 (u8s (List.replicate (a * b).toNat x)) 5 1, .row A1 (a / 2 * (b / 2)).toNat c1 (u8s (List.replicate (a / 2 * (b / 2)).toNat x)) 5 1, .row A2 (a / 2 * (b / 2)).toNat c2 (u8s (List.replicate (a / 2 * (b / 2)).toNat x)) 5 1] w' := by
  refine fun_run (m := 43) (rs := [.cell 6 27, .tmp 7]) Try.func33 rfl rfl rfl rfl rfl ?_
  have hs0 := HS.start w
  have hok2 := hok
  simp only [sideP] at hok2
  refine run_seq fun K1 k1 => ?_
  refine run_region ?_
  refine Ops.s (Step.alloc (cs := [.int .i64 0, .int .i64 0, .slice none 0 0, .int .i64 0, .int .i64 0, .slice none 0 0, .int .i64 0, .int .i64 0, .slice none 0 0]) hs0 Z27 rfl (fun b2 w3 hs3 hb3 => ?_) True.intro (by rfl))
  refine Ops.v (Yv.assign rfl) ?_
  refine Ops.nil ?_
  refine k1 _ _ ?_
  refine run_seq fun K5 k5 => ?_
  refine run_seq fun K6 k6 => ?_
  refine run_region ?_
  refine Ops.v (Yv.move rfl) ?_
  refine Ops.v (Yv.move rfl) ?_
  refine Ops.s (Step.call rfl rfl (sides_fun) (?_) True.intro (by rfl))
  rintro _ _ ⟨rfl, rfl⟩
  refine Ops.v (Yv.notp rfl) ?_
  refine Ops.nil ?_
  refine k6 _ _ ?_
  refine run_ifp rfl (fun hx => absurd hx (fun h => h hok)) (fun _ => ?_)
  refine run_skip ?_
  refine k5 _ _ ?_
  refine run_seq fun K8 k8 => ?_
  refine run_region ?_
  refine Ops.s (Step.alloc (cs := [.int .i64 0, .int .i64 0, .slice none 0 0, .int .i64 0, .int .i64 0, .slice none 0 0, .int .i64 0, .int .i64 0, .slice none 0 0]) hs3 Z27 rfl (fun b9 w10 hs10 hb10 => ?_) True.intro (by rfl))
  refine Ops.nil ?_
  refine k8 _ _ ?_
  refine run_seq fun K12 k12 => ?_
  refine run_seq fun K13 k13 => ?_
  refine run_region ?_
  refine Ops.v (Yv.move rfl) ?_
  refine Ops.nil ?_
  refine k13 _ _ ?_
  refine run_block ?_
  refine run_rounds 4 ?_
  show Run _ _ _ (seqQ _ _) _ _
  refine run_seq fun K14 k14 => ?_
  refine run_region ?_
  refine Ops.v ((Yv.lt rfl rfl).to (v := .bool true) (by rfl)) ?_
  refine Ops.nil ?_
  refine k14 _ _ ?_
  refine run_seq fun K15 k15 => ?_
  refine run_if1 rfl ?_
  refine run_skip ?_
  refine k15 _ _ ?_
  refine run_seq fun K16 k16 => ?_
  refine run_block ?_
  refine run_seq fun K17 k17 => ?_
  refine run_region ?_
  refine Ops.v (Yv.move rfl) ?_
  refine Ops.v (Yv.assign rfl) ?_
  refine Ops.nil ?_
  refine k17 _ _ ?_
  refine run_seq fun K18 k18 => ?_
  refine run_region ?_
  refine Ops.v (Yv.move rfl) ?_
  refine Ops.v (Yv.move rfl) ?_
  refine Ops.v (Yv.move rfl) ?_
  refine Ops.s (Step.call rfl rfl (new_good (by omega) (by omega)) (?_) True.intro (by rfl))
  rintro _ w22 ⟨Ad19, c20, rfl, hs22⟩
  replace hs22 := hs10.call hs22
  refine Ops.v (Yv.move rfl) ?_
  refine Ops.v (Yv.extract rfl rfl) ?_
  refine Ops.v (Yv.extract rfl rfl) ?_
  refine Ops.s (Step.alloc (cs := [.int .i64 0, .int .i64 0, .slice none 0 0]) hs22 Z24 rfl (fun b23 w24 hs24 hb24 => ?_) True.intro (by rfl))
  refine Ops.s (Step.store (vs := [.int .i64 a, .int .i64 b, .slice Ad19 ((a * b).toNat) c20]) 0 hs24 rfl rfl rfl rfl S24 (Nat.le_of_ble_eq_true rfl) rfl (fun w26 hs26 => ?_) True.intro)
  replace hs26 : HS _ [.blk _ [_, _, _] _, .row _ _ _ _ _ _, .blk _ [_, _, _, _, _, _, _, _, _] _, .blk _ [_, _, _, _, _, _, _, _, _] _] _ := hs26
  refine Ops.v (Yv.assign rfl) ?_
  refine Ops.nil ?_
  refine k18 _ _ ?_
  refine run_seq fun K27 k27 => ?_
  refine run_seq fun K28 k28 => ?_
  refine run_region ?_
  refine Ops.v (Yv.move rfl) ?_
  refine Ops.v ((Yv.ne rfl rfl).to (v := .bool false) (by rfl)) ?_
  refine Ops.nil ?_
  refine k28 _ _ ?_
  refine run_if0 rfl ?_
  refine run_skip ?_
  refine k27 _ _ ?_
  refine run_seq fun K29 k29 => ?_
  refine run_region ?_
  refine Ops.v (Yv.move rfl) ?_
  refine Ops.v (Yv.loadn (cs := [.int .i64 a, .int .i64 b, .slice Ad19 ((a * b).toNat) c20]) A24 S24 rfl (now (hs26.cells 0 rfl 0 3))) ?_
  refine Ops.v (Yv.fld F27_0 rfl) ?_
  refine Ops.v (Yv.idxa R25 rfl rfl (by decide) (by decide)) ?_
  refine Ops.s (Step.store (vs := [.int .i64 a, .int .i64 b, .slice Ad19 ((a * b).toNat) c20]) 2 hs26 rfl rfl rfl rfl S24 (Nat.le_of_ble_eq_true rfl) rfl (fun w30 hs30 => ?_) True.intro)
  replace hs30 : HS _ [.blk _ [_, _, _] _, .row _ _ _ _ _ _, .blk _ [_, _, _, _, _, _, _, _, _] _, .blk _ [_, _, _, _, _, _, _, _, _] _] _ := hs30
  refine Ops.nil ?_
  refine k29 _ _ ?_
  refine run_seq fun K31 k31 => ?_
  refine run_region ?_
  refine Ops.v (Yv.move rfl) ?_
  refine Ops.v ((Yv.eq rfl rfl).to (v := .bool true) (by rfl)) ?_
  refine Ops.nil ?_
  refine k31 _ _ ?_
  refine run_if1 rfl ?_
  refine run_region ?_
  refine Ops.v (Yv.move rfl) ?_
  refine Ops.v (Yv.quo rfl rfl (by omega) (by omega) (by omega)) ?_
  refine Ops.v (Yv.move rfl) ?_
  refine Ops.v (Yv.quo rfl rfl (by omega) (by omega) (by omega)) ?_
  refine Ops.v (Yv.assign rfl) ?_
  refine Ops.v (Yv.assign rfl) ?_
  refine Ops.nil ?_
  refine k16 _ _ ?_
  refine run_region ?_
  refine Ops.v ((Yv.add rfl rfl (by omega)).to (v := .int .i64 1) (by rfl)) ?_
  refine Ops.v (Yv.move rfl) ?_
  refine Ops.nil ?_
  show Run _ _ _ (seqQ _ _) _ _
  refine run_seq fun K32 k32 => ?_
  refine run_region ?_
  refine Ops.v ((Yv.lt rfl rfl).to (v := .bool true) (by rfl)) ?_
  refine Ops.nil ?_
  refine k32 _ _ ?_
  refine run_seq fun K33 k33 => ?_
  refine run_if1 rfl ?_
  refine run_skip ?_
  refine k33 _ _ ?_
  refine run_seq fun K34 k34 => ?_
  refine run_block ?_
  refine run_seq fun K35 k35 => ?_
  refine run_region ?_
  refine Ops.v (Yv.move rfl) ?_
  refine Ops.v (Yv.assign rfl) ?_
  refine Ops.nil ?_
  refine k35 _ _ ?_
  refine run_seq fun K36 k36 => ?_
  refine run_region ?_
  refine Ops.v (Yv.move rfl) ?_
  refine Ops.v (Yv.move rfl) ?_
  refine Ops.v (Yv.move rfl) ?_
  refine Ops.s (Step.call rfl rfl (new_good (by omega) (by omega)) (?_) True.intro (by rfl))
  rintro _ w40 ⟨Ad37, c38, rfl, hs40⟩
  replace hs40 := hs30.call hs40
  refine Ops.v (Yv.move rfl) ?_
  refine Ops.v (Yv.extract rfl rfl) ?_
  refine Ops.v (Yv.extract rfl rfl) ?_
  refine Ops.s (Step.alloc (cs := [.int .i64 0, .int .i64 0, .slice none 0 0]) hs40 Z24 rfl (fun b41 w42 hs42 hb42 => ?_) True.intro (by rfl))
  refine Ops.s (Step.store (vs := [.int .i64 (a / 2), .int .i64 (b / 2), .slice Ad37 (((a / 2) * (b / 2)).toNat) c38]) 0 hs42 rfl rfl rfl rfl S24 (Nat.le_of_ble_eq_true rfl) rfl (fun w44 hs44 => ?_) True.intro)
  replace hs44 : HS _ [.blk _ [_, _, _] _, .row _ _ _ _ _ _, .blk _ [_, _, _] _, .row _ _ _ _ _ _, .blk _ [_, _, _, _, _, _, _, _, _] _, .blk _ [_, _, _, _, _, _, _, _, _] _] _ := hs44
  refine Ops.v (Yv.assign rfl) ?_
  refine Ops.nil ?_
  refine k36 _ _ ?_
  refine run_seq fun K45 k45 => ?_
  refine run_seq fun K46 k46 => ?_
  refine run_region ?_
  refine Ops.v (Yv.move rfl) ?_
  refine Ops.v ((Yv.ne rfl rfl).to (v := .bool false) (by rfl)) ?_
  refine Ops.nil ?_
  refine k46 _ _ ?_
  refine run_if0 rfl ?_
  refine run_skip ?_
  refine k45 _ _ ?_
  refine run_seq fun K47 k47 => ?_
  refine run_region ?_
  refine Ops.v (Yv.move rfl) ?_
  refine Ops.v (Yv.loadn (cs := [.int .i64 (a / 2), .int .i64 (b / 2), .slice Ad37 (((a / 2) * (b / 2)).toNat) c38]) A24 S24 rfl (now (hs44.cells 0 rfl 0 3))) ?_
  refine Ops.v (Yv.fld F27_0 rfl) ?_
  refine Ops.v (Yv.idxa R25 rfl rfl (by decide) (by decide)) ?_
  refine Ops.s (Step.store (vs := [.int .i64 (a / 2), .int .i64 (b / 2), .slice Ad37 (((a / 2) * (b / 2)).toNat) c38]) 4 hs44 rfl rfl rfl rfl S24 (Nat.le_of_ble_eq_true rfl) rfl (fun w48 hs48 => ?_) True.intro)
  replace hs48 : HS _ [.blk _ [_, _, _] _, .row _ _ _ _ _ _, .blk _ [_, _, _] _, .row _ _ _ _ _ _, .blk _ [_, _, _, _, _, _, _, _, _] _, .blk _ [_, _, _, _, _, _, _, _, _] _] _ := hs48
  refine Ops.nil ?_
  refine k47 _ _ ?_
  refine run_seq fun K49 k49 => ?_
  refine run_region ?_
  refine Ops.v (Yv.move rfl) ?_
  refine Ops.v ((Yv.eq rfl rfl).to (v := .bool false) (by rfl)) ?_
  refine Ops.nil ?_
  refine k49 _ _ ?_
  refine run_if0 rfl ?_
  refine run_skip ?_
  refine k34 _ _ ?_
  refine run_region ?_
  refine Ops.v ((Yv.add rfl rfl (by omega)).to (v := .int .i64 2) (by rfl)) ?_
  refine Ops.v (Yv.move rfl) ?_
  refine Ops.nil ?_
  show Run _ _ _ (seqQ _ _) _ _
  refine run_seq fun K50 k50 => ?_
  refine run_region ?_
  refine Ops.v ((Yv.lt rfl rfl).to (v := .bool true) (by rfl)) ?_
  refine Ops.nil ?_
  refine k50 _ _ ?_
  refine run_seq fun K51 k51 => ?_
  refine run_if1 rfl ?_
  refine run_skip ?_
  refine k51 _ _ ?_
  refine run_seq fun K52 k52 => ?_
  refine run_block ?_
  refine run_seq fun K53 k53 => ?_
  refine run_region ?_
  refine Ops.v (Yv.move rfl) ?_
  refine Ops.v (Yv.assign rfl) ?_
  refine Ops.nil ?_
  refine k53 _ _ ?_
  refine run_seq fun K54 k54 => ?_
  refine run_region ?_
  refine Ops.v (Yv.move rfl) ?_
  refine Ops.v (Yv.move rfl) ?_
  refine Ops.v (Yv.move rfl) ?_
  refine Ops.s (Step.call rfl rfl (new_good (by omega) (by omega)) (?_) True.intro (by rfl))
  rintro _ w58 ⟨Ad55, c56, rfl, hs58⟩
  replace hs58 := hs48.call hs58
  refine Ops.v (Yv.move rfl) ?_
  refine Ops.v (Yv.extract rfl rfl) ?_
  refine Ops.v (Yv.extract rfl rfl) ?_
  refine Ops.s (Step.alloc (cs := [.int .i64 0, .int .i64 0, .slice none 0 0]) hs58 Z24 rfl (fun b59 w60 hs60 hb60 => ?_) True.intro (by rfl))
  refine Ops.s (Step.store (vs := [.int .i64 (a / 2), .int .i64 (b / 2), .slice Ad55 (((a / 2) * (b / 2)).toNat) c56]) 0 hs60 rfl rfl rfl rfl S24 (Nat.le_of_ble_eq_true rfl) rfl (fun w62 hs62 => ?_) True.intro)
  replace hs62 : HS _ [.blk _ [_, _, _] _, .row _ _ _ _ _ _, .blk _ [_, _, _] _, .row _ _ _ _ _ _, .blk _ [_, _, _] _, .row _ _ _ _ _ _, .blk _ [_, _, _, _, _, _, _, _, _] _, .blk _ [_, _, _, _, _, _, _, _, _] _] _ := hs62
  refine Ops.v (Yv.assign rfl) ?_
  refine Ops.nil ?_
  refine k54 _ _ ?_
  refine run_seq fun K63 k63 => ?_
  refine run_seq fun K64 k64 => ?_
  refine run_region ?_
  refine Ops.v (Yv.move rfl) ?_
  refine Ops.v ((Yv.ne rfl rfl).to (v := .bool false) (by rfl)) ?_
  refine Ops.nil ?_
  refine k64 _ _ ?_
  refine run_if0 rfl ?_
  refine run_skip ?_
  refine k63 _ _ ?_
  refine run_seq fun K65 k65 => ?_
  refine run_region ?_
  refine Ops.v (Yv.move rfl) ?_
  refine Ops.v (Yv.loadn (cs := [.int .i64 (a / 2), .int .i64 (b / 2), .slice Ad55 (((a / 2) * (b / 2)).toNat) c56]) A24 S24 rfl (now (hs62.cells 0 rfl 0 3))) ?_
  refine Ops.v (Yv.fld F27_0 rfl) ?_
  refine Ops.v (Yv.idxa R25 rfl rfl (by decide) (by decide)) ?_
  refine Ops.s (Step.store (vs := [.int .i64 (a / 2), .int .i64 (b / 2), .slice Ad55 (((a / 2) * (b / 2)).toNat) c56]) 6 hs62 rfl rfl rfl rfl S24 (Nat.le_of_ble_eq_true rfl) rfl (fun w66 hs66 => ?_) True.intro)
  replace hs66 : HS _ [.blk _ [_, _, _] _, .row _ _ _ _ _ _, .blk _ [_, _, _] _, .row _ _ _ _ _ _, .blk _ [_, _, _] _, .row _ _ _ _ _ _, .blk _ [_, _, _, _, _, _, _, _, _] _, .blk _ [_, _, _, _, _, _, _, _, _] _] _ := hs66
  refine Ops.nil ?_
  refine k65 _ _ ?_
  refine run_seq fun K67 k67 => ?_
  refine run_region ?_
  refine Ops.v (Yv.move rfl) ?_
  refine Ops.v ((Yv.eq rfl rfl).to (v := .bool false) (by rfl)) ?_
  refine Ops.nil ?_
  refine k67 _ _ ?_
  refine run_if0 rfl ?_
  refine run_skip ?_
  refine k52 _ _ ?_
  refine run_region ?_
  refine Ops.v ((Yv.add rfl rfl (by omega)).to (v := .int .i64 3) (by rfl)) ?_
  refine Ops.v (Yv.move rfl) ?_
  refine Ops.nil ?_
  show Run _ _ _ (seqQ _ _) _ _
  refine run_seq fun K68 k68 => ?_
  refine run_region ?_
  refine Ops.v ((Yv.lt rfl rfl).to (v := .bool false) (by rfl)) ?_
  refine Ops.nil ?_
  refine k68 _ _ ?_
  refine run_seq fun K69 k69 => ?_
  refine run_if0 rfl ?_
  refine run_exit ?_
  refine k12 _ _ ?_
  refine run_seq fun K70 k70 => ?_
  refine run_region ?_
  refine Ops.v (Yv.loadn (cs := [.int .i64 a, .int .i64 b, .slice Ad19 ((a * b).toNat) c20, .int .i64 (a / 2), .int .i64 (b / 2), .slice Ad37 (((a / 2) * (b / 2)).toNat) c38, .int .i64 (a / 2), .int .i64 (b / 2), .slice Ad55 (((a / 2) * (b / 2)).toNat) c56]) A27 S27 rfl (now (hs66.cells 6 rfl 0 9))) ?_
  refine Ops.s (Step.store (vs := [.int .i64 a, .int .i64 b, .slice Ad19 ((a * b).toNat) c20, .int .i64 (a / 2), .int .i64 (b / 2), .slice Ad37 (((a / 2) * (b / 2)).toNat) c38, .int .i64 (a / 2), .int .i64 (b / 2), .slice Ad55 (((a / 2) * (b / 2)).toNat) c56]) 7 hs66 rfl rfl rfl rfl S27 (Nat.le_of_ble_eq_true rfl) rfl (fun w71 hs71 => ?_) True.intro)
  replace hs71 : HS _ [.blk _ [_, _, _] _, .row _ _ _ _ _ _, .blk _ [_, _, _] _, .row _ _ _ _ _ _, .blk _ [_, _, _] _, .row _ _ _ _ _ _, .blk _ [_, _, _, _, _, _, _, _, _] _, .blk _ [_, _, _, _, _, _, _, _, _] _] _ := hs71
  refine Ops.v (Yv.assign rfl) ?_
  refine Ops.nil ?_
  refine k70 _ _ ?_
  refine run_ret ?_
  refine ⟨[.agg #[.int .i64 a, .int .i64 b, .slice Ad19 ((a * b).toNat) c20, .int .i64 (a / 2), .int .i64 (b / 2), .slice Ad37 (((a / 2) * (b / 2)).toNat) c38, .int .i64 (a / 2), .int .i64 (b / 2), .slice Ad55 (((a / 2) * (b / 2)).toNat) c56], .int .i64 0], ⟨_, _, _, rfl, rfl, run_loadn (cs := [.int .i64 a, .int .i64 b, .slice Ad19 ((a * b).toNat) c20, .int .i64 (a / 2), .int .i64 (b / 2), .slice Ad37 (((a / 2) * (b / 2)).toNat) c38, .int .i64 (a / 2), .int .i64 (b / 2), .slice Ad55 (((a / 2) * (b / 2)).toNat) c56]) A27 S27 (hs71.cells 7 rfl 0 9), ⟨_, _, rfl, rfl, rfl⟩⟩, ?_⟩
  have hz := hs71.pick [5, 3, 1] [.row Ad19 ((a * b).toNat) c20 (u8s (List.replicate (a * b).toNat x)) 5 1, .row Ad37 (((a / 2) * (b / 2)).toNat) c38 (u8s (List.replicate ((a / 2) * (b / 2)).toNat x)) 5 1, .row Ad55 (((a / 2) * (b / 2)).toNat) c56 (u8s (List.replicate ((a / 2) * (b / 2)).toNat x)) 5 1] (by decide) rfl
  exact ⟨_, _, _, _, _, _, rfl, hz⟩

theorem copyPlane_fun {w : World} {W H : Int} {A : Option Addr} {m c : Nat} {xs : List Int} (hr : Rd w A m 1 (u8s xs)) (hm : m ≤ 140737488355328) : Fun Try.prog 36 [.agg #[.int .i64 W, .int .i64 H, .slice A m c]] w fun v w' => ∃ A' c', v = .agg #[.int .i64 W, .int .i64 H, .slice A' m c'] ∧ HS w [.row A' m c' (u8s xs) 5 1] w' := by
  refine fun_run (m := 11) (rs := [.cell 2 24]) Try.func36 rfl rfl rfl rfl rfl ?_
  have hs0 := HS.start w
  refine run_seq fun K1 k1 => ?_
  refine run_region ?_
  refine Ops.s (Step.box (cs := [.int .i64 W, .int .i64 H, .slice A m c]) hs0 rfl rfl (fun b2 w3 hs3 hb3 => ?_) True.intro (by rfl))
  refine Ops.s (Step.alloc (cs := [.int .i64 0, .int .i64 0, .slice none 0 0]) hs3 Z24 rfl (fun b5 w6 hs6 hb6 => ?_) True.intro (by rfl))
  refine Ops.nil ?_
  refine k1 _ _ ?_
  refine run_seq fun K8 k8 => ?_
  refine run_drawn [8] (fun x => Below (w6.drew).heap.size (w6.drew) x) ?_ Tf.mixed (by kernel_rfl) (fun _ _ _ h => h)
  have hs9 := hs6.drew
  have hS10 := Below.refl (w6.drew).heap.size (w6.drew)
  refine Drw.a 0 rfl (by kernel_rfl) (Yv.fld F24_0 rfl) ?_
  refine Drw.l 1 rfl (by kernel_rfl) hS10 (Yv.load A3 rfl (fun _ hq_ => ((hs9.grow hq_).cell 1 rfl 0 rfl))) ?_
  refine Drw.a 2 rfl (by kernel_rfl) (Yv.fld F24_1 rfl) ?_
  refine Drw.l 3 rfl (by kernel_rfl) hS10 (Yv.load A3 rfl (fun _ hq_ => ((hs9.grow hq_).cell 1 rfl 1 rfl))) ?_
  refine Drw.a 4 rfl (by kernel_rfl) (Yv.fld F24_2 rfl) ?_
  refine Drw.l 5 rfl (by kernel_rfl) hS10 (Yv.load A22 rfl (fun _ hq_ => ((hs9.grow hq_).cell 1 rfl 2 rfl))) ?_
  refine Drw.one 6 rfl (by kernel_rfl) (Step.call rfl rfl (copyBytes_fun (hs9.rd hr) (by omega)) (?_) True.intro (by rfl))
  rintro _ w14 ⟨Ad11, c12, rfl, hs14⟩
  have hS15 := HS.keepS hS10 (Nat.le_refl _) hs14
  refine ⟨fun _ _ => hS15, ?_⟩
  replace hs14 := hs9.call hs14
  refine Drw.a 7 rfl (by kernel_rfl) (Yv.buildS (cs := #[.int .i64 W, .int .i64 H, .slice Ad11 m c12]) T24 rfl rfl) ?_
  refine Drw.one 8 rfl (by kernel_rfl) (Step.store (vs := [.int .i64 W, .int .i64 H, .slice Ad11 m c12]) 1 hs14 rfl rfl rfl rfl S24 (Nat.le_of_ble_eq_true rfl) rfl (fun w16 hs16 => ?_) True.intro)
  refine ⟨fun h => absurd h (by decide), ?_⟩
  replace hs16 : HS _ [.row _ _ _ _ _ _, .blk _ [_, _, _] _, .blk _ [_, _, _] _] _ := hs16
  refine Drw.done ?_ (by kernel_rfl)
  refine k8 _ _ ?_
  refine run_ret ?_
  refine ⟨[.agg #[.int .i64 W, .int .i64 H, .slice Ad11 m c12]], ⟨_, _, _, rfl, rfl, run_loadn (cs := [.int .i64 W, .int .i64 H, .slice Ad11 m c12]) A24 S24 (hs16.cells 1 rfl 0 3), rfl⟩, ?_⟩
  have hz := hs16.pick [0] [.row Ad11 m c12 (u8s xs) 5 1] (by decide) rfl
  exact ⟨_, _, rfl, hz⟩

theorem copyFrame_fun {w : World} {W0 H0 W1 H1 W2 H2 : Int} {A0 A1 A2 : Option Addr} {m0 m1 m2 c0 c1 c2 : Nat} {xs0 xs1 xs2 : List Int} (hr0 : Rd w A0 m0 1 (u8s xs0)) (hr1 : Rd w A1 m1 1 (u8s xs1)) (hr2 : Rd w A2 m2 1 (u8s xs2)) (hm : m0 ≤ 140737488355328 ∧ m1 ≤ 140737488355328 ∧ m2 ≤ 140737488355328) : Fun Try.prog 11 [.agg #[.int .i64 W0, .int .i64 H0, .slice A0 m0 c0, .int .i64 W1, .int .i64 H1, .slice A1 m1 c1, .int .i64 W2, .int .i64 H2, .slice A2 m2 c2]] w fun v w' => ∃ A0' c0' A1' c1' A2' c2', v = .agg #[.int .i64 W0, .int .i64 H0, .slice A0' m0 c0', .int .i64 W1, .int .i64 H1, .slice A1' m1 c1', .int .i64 W2, .int .i64 H2, .slice A2' m2 c2'] ∧ HS w [.row A0' m0 c0' (u8s xs0) 5 1, .row A1' m1 c1' (u8s xs1) 5 1, .row A2' m2 c2' (u8s xs2) 5 1] w' := by
  refine fun_run (m := 18) (rs := [.cell 2 27]) Try.func11 rfl rfl rfl rfl rfl ?_
  have hs0 := HS.start w
  refine run_seq fun K1 k1 => ?_
  refine run_region ?_
  refine Ops.s (Step.box (cs := [.int .i64 W0, .int .i64 H0, .slice A0 m0 c0, .int .i64 W1, .int .i64 H1, .slice A1 m1 c1, .int .i64 W2, .int .i64 H2, .slice A2 m2 c2]) hs0 rfl rfl (fun b2 w3 hs3 hb3 => ?_) True.intro (by rfl))
  refine Ops.s (Step.alloc (cs := [.int .i64 0, .int .i64 0, .slice none 0 0, .int .i64 0, .int .i64 0, .slice none 0 0, .int .i64 0, .int .i64 0, .slice none 0 0]) hs3 Z27 rfl (fun b5 w6 hs6 hb6 => ?_) True.intro (by rfl))
  refine Ops.nil ?_
  refine k1 _ _ ?_
  refine run_seq fun K8 k8 => ?_
  refine run_region ?_
  refine Ops.s (Step.alloc (cs := [.int .i64 0, .int .i64 0, .slice none 0 0, .int .i64 0, .int .i64 0, .slice none 0 0, .int .i64 0, .int .i64 0, .slice none 0 0]) hs6 Z27 rfl (fun b9 w10 hs10 hb10 => ?_) True.intro (by rfl))
  refine Ops.nil ?_
  refine k8 _ _ ?_
  refine run_seq fun K12 k12 => ?_
  refine run_seq fun K13 k13 => ?_
  refine run_region ?_
  refine Ops.v (Yv.assign rfl) ?_
  refine Ops.nil ?_
  refine k13 _ _ ?_
  refine run_block ?_
  refine run_rounds 4 ?_
  show Run _ _ _ (seqQ _ _) _ _
  refine run_seq fun K14 k14 => ?_
  refine run_seq fun K15 k15 => ?_
  refine run_region ?_
  refine Ops.v (Yv.move rfl) ?_
  refine Ops.v ((Yv.lt rfl rfl).to (v := .bool true) (by rfl)) ?_
  refine Ops.nil ?_
  refine k15 _ _ ?_
  refine run_if1 rfl ?_
  refine run_skip ?_
  refine k14 _ _ ?_
  refine run_seq fun K16 k16 => ?_
  refine run_block ?_
  refine run_region ?_
  refine Ops.v (Yv.move rfl) ?_
  refine Ops.v (Yv.move rfl) ?_
  refine Ops.v (Yv.fld F27_0 rfl) ?_
  refine Ops.v (Yv.idxa R25 rfl rfl (by decide) (by decide)) ?_
  refine Ops.v (Yv.loadn (cs := [.int .i64 W0, .int .i64 H0, .slice A0 m0 c0]) A24 S24 rfl (now (hs10.cells 2 rfl 0 3))) ?_
  refine Ops.s (Step.call rfl rfl (copyPlane_fun (hs10.rd hr0) (by omega)) (?_) True.intro (by rfl))
  rintro _ w20 ⟨Ad17, c18, rfl, hs20⟩
  replace hs20 := hs10.call hs20
  refine Ops.v (Yv.fld F27_0 rfl) ?_
  refine Ops.v (Yv.idxa R25 rfl rfl (by decide) (by decide)) ?_
  refine Ops.s (Step.store (vs := [.int .i64 W0, .int .i64 H0, .slice Ad17 m0 c18]) 1 hs20 rfl rfl rfl rfl S24 (Nat.le_of_ble_eq_true rfl) rfl (fun w21 hs21 => ?_) True.intro)
  replace hs21 : HS _ [.row _ _ _ _ _ _, .blk _ [_, _, _, _, _, _, _, _, _] _, .blk _ [_, _, _, _, _, _, _, _, _] _, .blk _ [_, _, _, _, _, _, _, _, _] _] _ := hs21
  refine Ops.nil ?_
  refine k16 _ _ ?_
  refine run_region ?_
  refine Ops.v (Yv.move rfl) ?_
  refine Ops.v ((Yv.add rfl rfl (by omega)).to (v := .int .i64 1) (by rfl)) ?_
  refine Ops.v (Yv.assign rfl) ?_
  refine Ops.nil ?_
  show Run _ _ _ (seqQ _ _) _ _
  refine run_seq fun K22 k22 => ?_
  refine run_seq fun K23 k23 => ?_
  refine run_region ?_
  refine Ops.v (Yv.move rfl) ?_
  refine Ops.v ((Yv.lt rfl rfl).to (v := .bool true) (by rfl)) ?_
  refine Ops.nil ?_
  refine k23 _ _ ?_
  refine run_if1 rfl ?_
  refine run_skip ?_
  refine k22 _ _ ?_
  refine run_seq fun K24 k24 => ?_
  refine run_block ?_
  refine run_region ?_
  refine Ops.v (Yv.move rfl) ?_
  refine Ops.v (Yv.move rfl) ?_
  refine Ops.v (Yv.fld F27_0 rfl) ?_
  refine Ops.v (Yv.idxa R25 rfl rfl (by decide) (by decide)) ?_
  refine Ops.v (Yv.loadn (cs := [.int .i64 W1, .int .i64 H1, .slice A1 m1 c1]) A24 S24 rfl (now (hs21.cells 3 rfl 3 3))) ?_
  refine Ops.s (Step.call rfl rfl (copyPlane_fun (hs21.rd hr1) (by omega)) (?_) True.intro (by rfl))
  rintro _ w28 ⟨Ad25, c26, rfl, hs28⟩
  replace hs28 := hs21.call hs28
  refine Ops.v (Yv.fld F27_0 rfl) ?_
  refine Ops.v (Yv.idxa R25 rfl rfl (by decide) (by decide)) ?_
  refine Ops.s (Step.store (vs := [.int .i64 W1, .int .i64 H1, .slice Ad25 m1 c26]) 2 hs28 rfl rfl rfl rfl S24 (Nat.le_of_ble_eq_true rfl) rfl (fun w29 hs29 => ?_) True.intro)
  replace hs29 : HS _ [.row _ _ _ _ _ _, .row _ _ _ _ _ _, .blk _ [_, _, _, _, _, _, _, _, _] _, .blk _ [_, _, _, _, _, _, _, _, _] _, .blk _ [_, _, _, _, _, _, _, _, _] _] _ := hs29
  refine Ops.nil ?_
  refine k24 _ _ ?_
  refine run_region ?_
  refine Ops.v (Yv.move rfl) ?_
  refine Ops.v ((Yv.add rfl rfl (by omega)).to (v := .int .i64 2) (by rfl)) ?_
  refine Ops.v (Yv.assign rfl) ?_
  refine Ops.nil ?_
  show Run _ _ _ (seqQ _ _) _ _
  refine run_seq fun K30 k30 => ?_
  refine run_seq fun K31 k31 => ?_
  refine run_region ?_
  refine Ops.v (Yv.move rfl) ?_
  refine Ops.v ((Yv.lt rfl rfl).to (v := .bool true) (by rfl)) ?_
  refine Ops.nil ?_
  refine k31 _ _ ?_
  refine run_if1 rfl ?_
  refine run_skip ?_
  refine k30 _ _ ?_
  refine run_seq fun K32 k32 => ?_
  refine run_block ?_
  refine run_region ?_
  refine Ops.v (Yv.move rfl) ?_
  refine Ops.v (Yv.move rfl) ?_
  refine Ops.v (Yv.fld F27_0 rfl) ?_
  refine Ops.v (Yv.idxa R25 rfl rfl (by decide) (by decide)) ?_
  refine Ops.v (Yv.loadn (cs := [.int .i64 W2, .int .i64 H2, .slice A2 m2 c2]) A24 S24 rfl (now (hs29.cells 4 rfl 6 3))) ?_
  refine Ops.s (Step.call rfl rfl (copyPlane_fun (hs29.rd hr2) (by omega)) (?_) True.intro (by rfl))
  rintro _ w36 ⟨Ad33, c34, rfl, hs36⟩
  replace hs36 := hs29.call hs36
  refine Ops.v (Yv.fld F27_0 rfl) ?_
  refine Ops.v (Yv.idxa R25 rfl rfl (by decide) (by decide)) ?_
  refine Ops.s (Step.store (vs := [.int .i64 W2, .int .i64 H2, .slice Ad33 m2 c34]) 3 hs36 rfl rfl rfl rfl S24 (Nat.le_of_ble_eq_true rfl) rfl (fun w37 hs37 => ?_) True.intro)
  replace hs37 : HS _ [.row _ _ _ _ _ _, .row _ _ _ _ _ _, .row _ _ _ _ _ _, .blk _ [_, _, _, _, _, _, _, _, _] _, .blk _ [_, _, _, _, _, _, _, _, _] _, .blk _ [_, _, _, _, _, _, _, _, _] _] _ := hs37
  refine Ops.nil ?_
  refine k32 _ _ ?_
  refine run_region ?_
  refine Ops.v (Yv.move rfl) ?_
  refine Ops.v ((Yv.add rfl rfl (by omega)).to (v := .int .i64 3) (by rfl)) ?_
  refine Ops.v (Yv.assign rfl) ?_
  refine Ops.nil ?_
  show Run _ _ _ (seqQ _ _) _ _
  refine run_seq fun K38 k38 => ?_
  refine run_seq fun K39 k39 => ?_
  refine run_region ?_
  refine Ops.v (Yv.move rfl) ?_
  refine Ops.v ((Yv.lt rfl rfl).to (v := .bool false) (by rfl)) ?_
  refine Ops.nil ?_
  refine k39 _ _ ?_
  refine run_if0 rfl ?_
  refine run_exit ?_
  refine k12 _ _ ?_
  refine run_seq fun K40 k40 => ?_
  refine run_region ?_
  refine Ops.v (Yv.loadn (cs := [.int .i64 W0, .int .i64 H0, .slice Ad17 m0 c18, .int .i64 W1, .int .i64 H1, .slice Ad25 m1 c26, .int .i64 W2, .int .i64 H2, .slice Ad33 m2 c34]) A27 S27 rfl (now (hs37.cells 3 rfl 0 9))) ?_
  refine Ops.s (Step.store (vs := [.int .i64 W0, .int .i64 H0, .slice Ad17 m0 c18, .int .i64 W1, .int .i64 H1, .slice Ad25 m1 c26, .int .i64 W2, .int .i64 H2, .slice Ad33 m2 c34]) 4 hs37 rfl rfl rfl rfl S27 (Nat.le_of_ble_eq_true rfl) rfl (fun w41 hs41 => ?_) True.intro)
  replace hs41 : HS _ [.row _ _ _ _ _ _, .row _ _ _ _ _ _, .row _ _ _ _ _ _, .blk _ [_, _, _, _, _, _, _, _, _] _, .blk _ [_, _, _, _, _, _, _, _, _] _, .blk _ [_, _, _, _, _, _, _, _, _] _] _ := hs41
  refine Ops.nil ?_
  refine k40 _ _ ?_
  refine run_ret ?_
  refine ⟨[.agg #[.int .i64 W0, .int .i64 H0, .slice Ad17 m0 c18, .int .i64 W1, .int .i64 H1, .slice Ad25 m1 c26, .int .i64 W2, .int .i64 H2, .slice Ad33 m2 c34]], ⟨_, _, _, rfl, rfl, run_loadn (cs := [.int .i64 W0, .int .i64 H0, .slice Ad17 m0 c18, .int .i64 W1, .int .i64 H1, .slice Ad25 m1 c26, .int .i64 W2, .int .i64 H2, .slice Ad33 m2 c34]) A27 S27 (hs41.cells 4 rfl 0 9), rfl⟩, ?_⟩
  have hz := hs41.pick [2, 1, 0] [.row Ad17 m0 c18 (u8s xs0) 5 1, .row Ad25 m1 c26 (u8s xs1) 5 1, .row Ad33 m2 c34 (u8s xs2) 5 1] (by decide) rfl
  exact ⟨_, _, _, _, _, _, rfl, hz⟩

theorem rsame_fun {w : World} {W H W' H' : Int} {A B : Option Addr} {m c m2 c2 : Nat} {xs ys : List Int} (hr : Rd w A m 1 (u8s xs)) (hr2 : Rd w B m2 1 (u8s ys)) : Fun Try.prog 42 [.agg #[.int .i64 W, .int .i64 H, .slice A m c], .agg #[.int .i64 W', .int .i64 H', .slice B m2 c2]] w fun v w' => v = .bool (decide ((W = W' ∧ H = H') ∧ xs = ys)) ∧ HS w [] w' := by
  refine fun_run (m := 24) (rs := [.tmp 4]) Try.func42 rfl rfl rfl rfl rfl ?_
  have hs0 := HS.start w
  refine run_seq fun K1 k1 => ?_
  refine run_region ?_
  refine Ops.s (Step.box (cs := [.int .i64 W, .int .i64 H, .slice A m c]) hs0 rfl rfl (fun b2 w3 hs3 hb3 => ?_) True.intro (by rfl))
  refine Ops.s (Step.box (cs := [.int .i64 W', .int .i64 H', .slice B m2 c2]) hs3 rfl rfl (fun b5 w6 hs6 hb6 => ?_) True.intro (by rfl))
  refine Ops.v (Yv.assign rfl) ?_
  refine Ops.nil ?_
  refine k1 _ _ ?_
  refine run_seq fun K8 k8 => ?_
  refine Run.cut (fun e_ w_ => HS w [.blk b5 [.int .i64 W', .int .i64 H', .slice B m2 c2] 24, .blk b2 [.int .i64 W, .int .i64 H, .slice A m c] 24] w_ ∧ Le [(0, .agg #[.int .i64 W, .int .i64 H, .slice A m c]), (1, .agg #[.int .i64 W', .int .i64 H', .slice B m2 c2]), (2, .pointer (some ⟨b2, 0, none⟩)), (3, .pointer (some ⟨b5, 0, none⟩)), (4, .bool (decide (((W = W') ∧ (H = H')) ∧ (xs = ys))))] e_) ?_ ?_
  · -- region 1: its ways meet again
    refine run_region ?_
    refine Ops.v (Yv.fld F24_0 rfl) ?_
    refine Ops.v (Yv.load A3 rfl (now (hs6.cell 1 rfl 0 rfl))) ?_
    refine Ops.v (Yv.fld F24_0 rfl) ?_
    refine Ops.v (Yv.load A3 rfl (now (hs6.cell 0 rfl 0 rfl))) ?_
    refine Ops.v (Yv.eq rfl rfl) ?_
    refine Ops.dec (fun h9 => ?_) (fun h9 => ?_)
    · -- yes
      refine Ops.v (Yv.move rfl) ?_
      refine Ops.vg ⟨_, rfl, rfl⟩ (Yv.fld F24_1 rfl) ?_
      refine Ops.vg ⟨_, rfl, rfl⟩ (Yv.load A3 rfl (now (hs6.cell 1 rfl 1 rfl))) ?_
      refine Ops.vg ⟨_, rfl, rfl⟩ (Yv.fld F24_1 rfl) ?_
      refine Ops.vg ⟨_, rfl, rfl⟩ (Yv.load A3 rfl (now (hs6.cell 0 rfl 1 rfl))) ?_
      refine Ops.vg ⟨_, rfl, rfl⟩ (Yv.eq rfl rfl) ?_
      refine Ops.dec (fun h10 => ?_) (fun h10 => ?_)
      · -- yes
        refine Ops.v (Yv.pick1 rfl rfl) ?_
        refine Ops.v (Yv.move rfl) ?_
        refine Ops.vg ⟨_, rfl, rfl⟩ (Yv.fld F24_2 rfl) ?_
        refine Ops.vg ⟨_, rfl, rfl⟩ (Yv.load A22 rfl (now (hs6.cell 1 rfl 2 rfl))) ?_
        refine Ops.vg ⟨_, rfl, rfl⟩ (Yv.fld F24_2 rfl) ?_
        refine Ops.vg ⟨_, rfl, rfl⟩ (Yv.load A22 rfl (now (hs6.cell 0 rfl 2 rfl))) ?_
        refine Ops.s (Step.call rfl rfl (eqBytes_fun (hs6.rd hr) (hs6.rd hr2)) (?_) ⟨_, rfl, rfl⟩ (by rfl))
        rintro _ w11 ⟨rfl, hs11⟩
        replace hs11 := hs6.call hs11
        refine Ops.v (Yv.pick1 rfl rfl) ?_
        refine Ops.v (Yv.assign rfl) ?_
        refine Ops.nil ?_
        refine ⟨hs11, Sub.le ⟨rfl, rfl, rfl, rfl, lookB rfl (by first | (simp only [h9, h10, ne_eq, not_true_eq_false, not_false_eq_true, or_true, true_or, or_false, false_or, and_true, true_and, and_false, false_and, decide_true, decide_false, or_self, and_self, Bool.decide_eq_true]; done) | simp [h9, h10]), trivial⟩⟩
      · -- no
        refine Ops.v (Yv.pick1 rfl rfl) ?_
        refine Ops.v (Yv.move rfl) ?_
        refine Ops.skip ⟨_, rfl, rfl⟩ ?_
        refine Ops.skip ⟨_, rfl, rfl⟩ ?_
        refine Ops.skip ⟨_, rfl, rfl⟩ ?_
        refine Ops.skip ⟨_, rfl, rfl⟩ ?_
        refine Ops.skip ⟨_, rfl, rfl⟩ ?_
        refine Ops.v (Yv.pick0 rfl rfl) ?_
        refine Ops.v (Yv.assign rfl) ?_
        refine Ops.nil ?_
        refine ⟨hs6, Sub.le ⟨rfl, rfl, rfl, rfl, lookB rfl (by first | (simp only [h9, h10, ne_eq, not_true_eq_false, not_false_eq_true, or_true, true_or, or_false, false_or, and_true, true_and, and_false, false_and, decide_true, decide_false, or_self, and_self, Bool.decide_eq_true]; done) | simp [h9, h10]), trivial⟩⟩
    · -- no
      refine Ops.v (Yv.move rfl) ?_
      refine Ops.skip ⟨_, rfl, rfl⟩ ?_
      refine Ops.skip ⟨_, rfl, rfl⟩ ?_
      refine Ops.skip ⟨_, rfl, rfl⟩ ?_
      refine Ops.skip ⟨_, rfl, rfl⟩ ?_
      refine Ops.skip ⟨_, rfl, rfl⟩ ?_
      refine Ops.v (Yv.pick0 rfl rfl) ?_
      refine Ops.v (Yv.move rfl) ?_
      refine Ops.skip ⟨_, rfl, rfl⟩ ?_
      refine Ops.skip ⟨_, rfl, rfl⟩ ?_
      refine Ops.skip ⟨_, rfl, rfl⟩ ?_
      refine Ops.skip ⟨_, rfl, rfl⟩ ?_
      refine Ops.skip ⟨_, rfl, rfl⟩ ?_
      refine Ops.v (Yv.pick0 rfl rfl) ?_
      refine Ops.v (Yv.assign rfl) ?_
      refine Ops.nil ?_
      refine ⟨hs6, Sub.le ⟨rfl, rfl, rfl, rfl, lookB rfl (by first | (simp only [h9, ne_eq, not_true_eq_false, not_false_eq_true, or_true, true_or, or_false, false_or, and_true, true_and, and_false, false_and, decide_true, decide_false, or_self, and_self, Bool.decide_eq_true]; done) | simp [h9]), trivial⟩⟩
  rintro e12 w12 ⟨hs12, he12⟩
  refine k8 _ _ ?_
  refine Run.le he12 ?_
  refine run_ret ?_
  refine ⟨[.bool (decide (((W = W') ∧ (H = H')) ∧ (xs = ys)))], ⟨_, _, rfl, rfl, rfl⟩, ?_⟩
  exact ⟨rfl, hs12.pick [] _ (by decide) rfl⟩

theorem sameFrame_fun {w : World} {W0 H0 W1 H1 W2 H2 : Int} {A0 A1 A2 : Option Addr} {m0 m1 m2 c0 c1 c2 : Nat} {V0 G0 V1 G1 V2 G2 : Int} {B0 B1 B2 : Option Addr} {n0 n1 n2 d0 d1 d2 : Nat} {xs0 xs1 xs2 ys0 ys1 ys2 : List Int} (hr0 : Rd w A0 m0 1 (u8s xs0)) (hs0_ : Rd w B0 n0 1 (u8s ys0)) (hr1 : Rd w A1 m1 1 (u8s xs1)) (hs1_ : Rd w B1 n1 1 (u8s ys1)) (hr2 : Rd w A2 m2 1 (u8s xs2)) (hs2_ : Rd w B2 n2 1 (u8s ys2)) : Fun Try.prog 15 [.agg #[.int .i64 W0, .int .i64 H0, .slice A0 m0 c0, .int .i64 W1, .int .i64 H1, .slice A1 m1 c1, .int .i64 W2, .int .i64 H2, .slice A2 m2 c2], .agg #[.int .i64 V0, .int .i64 G0, .slice B0 n0 d0, .int .i64 V1, .int .i64 G1, .slice B1 n1 d1, .int .i64 V2, .int .i64 G2, .slice B2 n2 d2]] w fun v w' => v = .bool (decide ((((W0 = V0 ∧ H0 = G0) ∧ xs0 = ys0) ∧ ((W1 = V1 ∧ H1 = G1) ∧ xs1 = ys1)) ∧ ((W2 = V2 ∧ H2 = G2) ∧ xs2 = ys2))) ∧ HS w [] w' := by
  refine fun_run (m := 30) (rs := [.tmp 4]) Try.func15 rfl rfl rfl rfl rfl ?_
  have hs0 := HS.start w
  refine run_seq fun K1 k1 => ?_
  refine run_region ?_
  refine Ops.s (Step.box (cs := [.int .i64 W0, .int .i64 H0, .slice A0 m0 c0, .int .i64 W1, .int .i64 H1, .slice A1 m1 c1, .int .i64 W2, .int .i64 H2, .slice A2 m2 c2]) hs0 rfl rfl (fun b2 w3 hs3 hb3 => ?_) True.intro (by rfl))
  refine Ops.s (Step.box (cs := [.int .i64 V0, .int .i64 G0, .slice B0 n0 d0, .int .i64 V1, .int .i64 G1, .slice B1 n1 d1, .int .i64 V2, .int .i64 G2, .slice B2 n2 d2]) hs3 rfl rfl (fun b5 w6 hs6 hb6 => ?_) True.intro (by rfl))
  refine Ops.v (Yv.assign rfl) ?_
  refine Ops.nil ?_
  refine k1 _ _ ?_
  refine run_seq fun K8 k8 => ?_
  refine Run.cut (fun e_ w_ => HS w [.blk b5 [.int .i64 V0, .int .i64 G0, .slice B0 n0 d0, .int .i64 V1, .int .i64 G1, .slice B1 n1 d1, .int .i64 V2, .int .i64 G2, .slice B2 n2 d2] 27, .blk b2 [.int .i64 W0, .int .i64 H0, .slice A0 m0 c0, .int .i64 W1, .int .i64 H1, .slice A1 m1 c1, .int .i64 W2, .int .i64 H2, .slice A2 m2 c2] 27] w_ ∧ Le [(0, .agg #[.int .i64 W0, .int .i64 H0, .slice A0 m0 c0, .int .i64 W1, .int .i64 H1, .slice A1 m1 c1, .int .i64 W2, .int .i64 H2, .slice A2 m2 c2]), (1, .agg #[.int .i64 V0, .int .i64 G0, .slice B0 n0 d0, .int .i64 V1, .int .i64 G1, .slice B1 n1 d1, .int .i64 V2, .int .i64 G2, .slice B2 n2 d2]), (2, .pointer (some ⟨b2, 0, none⟩)), (3, .pointer (some ⟨b5, 0, none⟩)), (4, .bool (decide ((((W0 = V0 ∧ H0 = G0) ∧ xs0 = ys0) ∧ ((W1 = V1 ∧ H1 = G1) ∧ xs1 = ys1)) ∧ ((W2 = V2 ∧ H2 = G2) ∧ xs2 = ys2))))] e_) ?_ ?_
  · -- region 1: its ways meet again
    refine run_region ?_
    refine Ops.v (Yv.fld F27_0 rfl) ?_
    refine Ops.v (Yv.idxa R25 rfl rfl (by decide) (by decide)) ?_
    refine Ops.v (Yv.loadn (cs := [.int .i64 W0, .int .i64 H0, .slice A0 m0 c0]) A24 S24 rfl (now (hs6.cells 1 rfl 0 3))) ?_
    refine Ops.v (Yv.fld F27_0 rfl) ?_
    refine Ops.v (Yv.idxa R25 rfl rfl (by decide) (by decide)) ?_
    refine Ops.v (Yv.loadn (cs := [.int .i64 V0, .int .i64 G0, .slice B0 n0 d0]) A24 S24 rfl (now (hs6.cells 0 rfl 0 3))) ?_
    refine Ops.s (Step.call rfl rfl (rsame_fun (hs6.rd hr0) (hs6.rd hs0_)) (?_) True.intro (by rfl))
    rintro _ w9 ⟨rfl, hs9⟩
    replace hs9 := hs6.call hs9
    refine Ops.dec (fun h10 => ?_) (fun h10 => ?_)
    · -- yes
      refine Ops.v (Yv.move rfl) ?_
      refine Ops.vg ⟨_, rfl, rfl⟩ (Yv.fld F27_0 rfl) ?_
      refine Ops.vg ⟨_, rfl, rfl⟩ (Yv.idxa R25 rfl rfl (by decide) (by decide)) ?_
      refine Ops.vg ⟨_, rfl, rfl⟩ (Yv.loadn (cs := [.int .i64 W1, .int .i64 H1, .slice A1 m1 c1]) A24 S24 rfl (now (hs9.cells 1 rfl 3 3))) ?_
      refine Ops.vg ⟨_, rfl, rfl⟩ (Yv.fld F27_0 rfl) ?_
      refine Ops.vg ⟨_, rfl, rfl⟩ (Yv.idxa R25 rfl rfl (by decide) (by decide)) ?_
      refine Ops.vg ⟨_, rfl, rfl⟩ (Yv.loadn (cs := [.int .i64 V1, .int .i64 G1, .slice B1 n1 d1]) A24 S24 rfl (now (hs9.cells 0 rfl 3 3))) ?_
      refine Ops.s (Step.call rfl rfl (rsame_fun (hs9.rd hr1) (hs9.rd hs1_)) (?_) ⟨_, rfl, rfl⟩ (by rfl))
      rintro _ w11 ⟨rfl, hs11⟩
      replace hs11 := hs9.call hs11
      refine Ops.dec (fun h12 => ?_) (fun h12 => ?_)
      · -- yes
        refine Ops.v (Yv.pick1 rfl rfl) ?_
        refine Ops.v (Yv.move rfl) ?_
        refine Ops.vg ⟨_, rfl, rfl⟩ (Yv.fld F27_0 rfl) ?_
        refine Ops.vg ⟨_, rfl, rfl⟩ (Yv.idxa R25 rfl rfl (by decide) (by decide)) ?_
        refine Ops.vg ⟨_, rfl, rfl⟩ (Yv.loadn (cs := [.int .i64 W2, .int .i64 H2, .slice A2 m2 c2]) A24 S24 rfl (now (hs11.cells 1 rfl 6 3))) ?_
        refine Ops.vg ⟨_, rfl, rfl⟩ (Yv.fld F27_0 rfl) ?_
        refine Ops.vg ⟨_, rfl, rfl⟩ (Yv.idxa R25 rfl rfl (by decide) (by decide)) ?_
        refine Ops.vg ⟨_, rfl, rfl⟩ (Yv.loadn (cs := [.int .i64 V2, .int .i64 G2, .slice B2 n2 d2]) A24 S24 rfl (now (hs11.cells 0 rfl 6 3))) ?_
        refine Ops.s (Step.call rfl rfl (rsame_fun (hs11.rd hr2) (hs11.rd hs2_)) (?_) ⟨_, rfl, rfl⟩ (by rfl))
        rintro _ w13 ⟨rfl, hs13⟩
        replace hs13 := hs11.call hs13
        refine Ops.v (Yv.pick1 rfl rfl) ?_
        refine Ops.v (Yv.assign rfl) ?_
        refine Ops.nil ?_
        refine ⟨hs13, Sub.le ⟨rfl, rfl, rfl, rfl, lookB rfl (by first | (simp only [h10, h12, ne_eq, not_true_eq_false, not_false_eq_true, or_true, true_or, or_false, false_or, and_true, true_and, and_false, false_and, decide_true, decide_false, or_self, and_self, Bool.decide_eq_true]; done) | simp [h10, h12]), trivial⟩⟩
      · -- no
        refine Ops.v (Yv.pick1 rfl rfl) ?_
        refine Ops.v (Yv.move rfl) ?_
        refine Ops.skip ⟨_, rfl, rfl⟩ ?_
        refine Ops.skip ⟨_, rfl, rfl⟩ ?_
        refine Ops.skip ⟨_, rfl, rfl⟩ ?_
        refine Ops.skip ⟨_, rfl, rfl⟩ ?_
        refine Ops.skip ⟨_, rfl, rfl⟩ ?_
        refine Ops.skip ⟨_, rfl, rfl⟩ ?_
        refine Ops.skip ⟨_, rfl, rfl⟩ ?_
        refine Ops.v (Yv.pick0 rfl rfl) ?_
        refine Ops.v (Yv.assign rfl) ?_
        refine Ops.nil ?_
        refine ⟨hs11, Sub.le ⟨rfl, rfl, rfl, rfl, lookB rfl (by first | (simp only [h10, h12, ne_eq, not_true_eq_false, not_false_eq_true, or_true, true_or, or_false, false_or, and_true, true_and, and_false, false_and, decide_true, decide_false, or_self, and_self, Bool.decide_eq_true]; done) | simp [h10, h12]), trivial⟩⟩
    · -- no
      refine Ops.v (Yv.move rfl) ?_
      refine Ops.skip ⟨_, rfl, rfl⟩ ?_
      refine Ops.skip ⟨_, rfl, rfl⟩ ?_
      refine Ops.skip ⟨_, rfl, rfl⟩ ?_
      refine Ops.skip ⟨_, rfl, rfl⟩ ?_
      refine Ops.skip ⟨_, rfl, rfl⟩ ?_
      refine Ops.skip ⟨_, rfl, rfl⟩ ?_
      refine Ops.skip ⟨_, rfl, rfl⟩ ?_
      refine Ops.v (Yv.pick0 rfl rfl) ?_
      refine Ops.v (Yv.move rfl) ?_
      refine Ops.skip ⟨_, rfl, rfl⟩ ?_
      refine Ops.skip ⟨_, rfl, rfl⟩ ?_
      refine Ops.skip ⟨_, rfl, rfl⟩ ?_
      refine Ops.skip ⟨_, rfl, rfl⟩ ?_
      refine Ops.skip ⟨_, rfl, rfl⟩ ?_
      refine Ops.skip ⟨_, rfl, rfl⟩ ?_
      refine Ops.skip ⟨_, rfl, rfl⟩ ?_
      refine Ops.v (Yv.pick0 rfl rfl) ?_
      refine Ops.v (Yv.assign rfl) ?_
      refine Ops.nil ?_
      refine ⟨hs9, Sub.le ⟨rfl, rfl, rfl, rfl, lookB rfl (by first | (simp only [h10, ne_eq, not_true_eq_false, not_false_eq_true, or_true, true_or, or_false, false_or, and_true, true_and, and_false, false_and, decide_true, decide_false, or_self, and_self, Bool.decide_eq_true]; done) | simp [h10]), trivial⟩⟩
  rintro e14 w14 ⟨hs14, he14⟩
  refine k8 _ _ ?_
  refine Run.le he14 ?_
  refine run_ret ?_
  refine ⟨[.bool (decide ((((W0 = V0 ∧ H0 = G0) ∧ xs0 = ys0) ∧ ((W1 = V1 ∧ H1 = G1) ∧ xs1 = ys1)) ∧ ((W2 = V2 ∧ H2 = G2) ∧ xs2 = ys2)))], ⟨_, _, rfl, rfl, rfl⟩, ?_⟩
  exact ⟨rfl, hs14.pick [] _ (by decide) rfl⟩

end Go.Proofs.Zed
