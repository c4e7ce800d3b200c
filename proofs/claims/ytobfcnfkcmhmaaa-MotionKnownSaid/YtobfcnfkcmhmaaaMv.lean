/- The walks of subpel (chapter 14): Fetch of the reference. -/
import Derived.Test.YtobfcnfkcmhmaaaMu
set_option linter.unusedVariables false
set_option linter.unusedSimpArgs false
namespace Go.Proofs.Zed
open Go Go.RowKit Tf
attribute [local irreducible] Try.prog

set_option maxHeartbeats 4000000 in
theorem rfetch_fun {w : World} {W H : Int} {A : Option Addr} {m c : Nat} {xs : List Int} (hr : Rd w A m 1 (u8s xs)) (hx : Bytes xs) {x y bw bh kd : Int} (hmc : m ≤ c) : Fun Try.prog 41 [.agg #[.int .i64 W, .int .i64 H, .slice A m c], .int .i64 x, .int .i64 y, .int .i64 bw, .int .i64 bh, .int .i64 kd] w fun v w' => ∃ A' c', v = .tuple #[.slice A' (fetchOut xs W H m x y bw bh kd).length c', .int .i64 (fetchE W H m x y bw bh kd)] ∧ HS w [.row A' (fetchOut xs W H m x y bw bh kd).length c' (u8s (fetchOut xs W H m x y bw bh kd)) 5 1] w' := by
  refine fun_run (m := 183) (rs := [.tmp 12, .tmp 13]) Try.func41 rfl rfl rfl rfl rfl ?_
  have hs0 := HS.start w
  have hbig := hr.big
  have hlen_xs : xs.length = m := by have := hr.len; rw [u8s_length] at this; omega
  refine run_seq fun K1 k1 => ?_
  refine run_region ?_
  refine Ops.s (Step.box (cs := [.int .i64 W, .int .i64 H, .slice A m c]) hs0 rfl rfl (fun b2 w3 hs3 hb3 => ?_) True.intro (by rfl))
  refine Ops.v (Yv.assign rfl) ?_
  refine Ops.v (Yv.assign rfl) ?_
  refine Ops.nil ?_
  refine k1 _ _ ?_
  refine run_seq fun K5 k5 => ?_
  refine run_seq fun K6 k6 => ?_
  refine Run.cut (fun e_ w_ => HS w [.blk b2 [.int .i64 W, .int .i64 H, .slice A m c] 24] w_ ∧ Le [(0, .agg #[.int .i64 W, .int .i64 H, .slice A m c]), (1, .int .i64 x), (2, .int .i64 y), (3, .int .i64 bw), (4, .int .i64 bh), (5, .int .i64 kd), (6, .pointer (some ⟨b2, 0, none⟩)), (12, .slice none 0 0), (13, .int .i64 0), (70, .bool (decide ((((((((((((checkF W H m) ≠ (0 : Int)) ∨ (x < ((-1048576) : Int))) ∨ ((1048576 : Int) < x)) ∨ (y < ((-1048576) : Int))) ∨ ((1048576 : Int) < y)) ∨ (bw < (4 : Int))) ∨ ((64 : Int) < bw)) ∨ (bh < (4 : Int))) ∨ ((64 : Int) < bh)) ∨ (kd < (0 : Int))) ∨ ((2 : Int) < kd))))] e_) ?_ ?_
  · -- region 1: its ways meet again
    refine run_region' _ rfl ?_
    refine Ops.v (Yv.loadn (cs := [.int .i64 W, .int .i64 H, .slice A m c]) A24 S24 rfl (now (hs3.cells 0 rfl 0 3))) ?_
    refine Ops.s (Step.call rfl rfl (rcheck_fun) (?_) True.intro (by rfl))
    rintro _ w7 ⟨rfl, hs7⟩
    replace hs7 := hs3.call hs7
    refine Ops.v (Yv.ne rfl rfl) ?_
    refine Ops.dec (fun h8 => ?_) (fun h8 => ?_)
    · -- yes
      refine Ops.v (Yv.move rfl) ?_
      refine Ops.skip ⟨_, rfl, rfl⟩ ?_
      refine Ops.skip ⟨_, rfl, rfl⟩ ?_
      refine Ops.v (Yv.pick1 rfl rfl) ?_
      refine Ops.v (Yv.move rfl) ?_
      refine Ops.skip ⟨_, rfl, rfl⟩ ?_
      refine Ops.skip ⟨_, rfl, rfl⟩ ?_
      refine Ops.v (Yv.pick1 rfl rfl) ?_
      refine Ops.v (Yv.move rfl) ?_
      refine Ops.skip ⟨_, rfl, rfl⟩ ?_
      refine Ops.skip ⟨_, rfl, rfl⟩ ?_
      refine Ops.v (Yv.pick1 rfl rfl) ?_
      refine Ops.v (Yv.move rfl) ?_
      refine Ops.skip ⟨_, rfl, rfl⟩ ?_
      refine Ops.skip ⟨_, rfl, rfl⟩ ?_
      refine Ops.v (Yv.pick1 rfl rfl) ?_
      refine Ops.v (Yv.move rfl) ?_
      refine Ops.skip ⟨_, rfl, rfl⟩ ?_
      refine Ops.skip ⟨_, rfl, rfl⟩ ?_
      refine Ops.v (Yv.pick1 rfl rfl) ?_
      refine Ops.v (Yv.move rfl) ?_
      refine Ops.skip ⟨_, rfl, rfl⟩ ?_
      refine Ops.skip ⟨_, rfl, rfl⟩ ?_
      refine Ops.v (Yv.pick1 rfl rfl) ?_
      refine Ops.v (Yv.move rfl) ?_
      refine Ops.skip ⟨_, rfl, rfl⟩ ?_
      refine Ops.skip ⟨_, rfl, rfl⟩ ?_
      refine Ops.v (Yv.pick1 rfl rfl) ?_
      refine Ops.v (Yv.move rfl) ?_
      refine Ops.skip ⟨_, rfl, rfl⟩ ?_
      refine Ops.skip ⟨_, rfl, rfl⟩ ?_
      refine Ops.v (Yv.pick1 rfl rfl) ?_
      refine Ops.v (Yv.move rfl) ?_
      refine Ops.skip ⟨_, rfl, rfl⟩ ?_
      refine Ops.skip ⟨_, rfl, rfl⟩ ?_
      refine Ops.v (Yv.pick1 rfl rfl) ?_
      refine Ops.v (Yv.move rfl) ?_
      refine Ops.skip ⟨_, rfl, rfl⟩ ?_
      refine Ops.skip ⟨_, rfl, rfl⟩ ?_
      refine Ops.v (Yv.pick1 rfl rfl) ?_
      refine Ops.nil ?_
      refine ⟨hs7, Sub.le ⟨rfl, rfl, rfl, rfl, rfl, rfl, rfl, rfl, rfl, lookB rfl (by first | (simp only [h8, ne_eq, not_true_eq_false, not_false_eq_true, or_true, true_or, or_false, false_or, and_true, true_and, and_false, false_and, decide_true, decide_false, or_self, and_self, Bool.decide_eq_true]; done) | simp [h8]), trivial⟩⟩
    · -- no
      refine Ops.v (Yv.move rfl) ?_
      refine Ops.vg ⟨_, rfl, rfl⟩ (Yv.move rfl) ?_
      refine Ops.vg ⟨_, rfl, rfl⟩ (Yv.lt rfl rfl) ?_
      refine Ops.dec (fun h9 => ?_) (fun h9 => ?_)
      · -- yes
        refine Ops.v (Yv.pick0 rfl rfl) ?_
        refine Ops.v (Yv.move rfl) ?_
        refine Ops.skip ⟨_, rfl, rfl⟩ ?_
        refine Ops.skip ⟨_, rfl, rfl⟩ ?_
        refine Ops.v (Yv.pick1 rfl rfl) ?_
        refine Ops.v (Yv.move rfl) ?_
        refine Ops.skip ⟨_, rfl, rfl⟩ ?_
        refine Ops.skip ⟨_, rfl, rfl⟩ ?_
        refine Ops.v (Yv.pick1 rfl rfl) ?_
        refine Ops.v (Yv.move rfl) ?_
        refine Ops.skip ⟨_, rfl, rfl⟩ ?_
        refine Ops.skip ⟨_, rfl, rfl⟩ ?_
        refine Ops.v (Yv.pick1 rfl rfl) ?_
        refine Ops.v (Yv.move rfl) ?_
        refine Ops.skip ⟨_, rfl, rfl⟩ ?_
        refine Ops.skip ⟨_, rfl, rfl⟩ ?_
        refine Ops.v (Yv.pick1 rfl rfl) ?_
        refine Ops.v (Yv.move rfl) ?_
        refine Ops.skip ⟨_, rfl, rfl⟩ ?_
        refine Ops.skip ⟨_, rfl, rfl⟩ ?_
        refine Ops.v (Yv.pick1 rfl rfl) ?_
        refine Ops.v (Yv.move rfl) ?_
        refine Ops.skip ⟨_, rfl, rfl⟩ ?_
        refine Ops.skip ⟨_, rfl, rfl⟩ ?_
        refine Ops.v (Yv.pick1 rfl rfl) ?_
        refine Ops.v (Yv.move rfl) ?_
        refine Ops.skip ⟨_, rfl, rfl⟩ ?_
        refine Ops.skip ⟨_, rfl, rfl⟩ ?_
        refine Ops.v (Yv.pick1 rfl rfl) ?_
        refine Ops.v (Yv.move rfl) ?_
        refine Ops.skip ⟨_, rfl, rfl⟩ ?_
        refine Ops.skip ⟨_, rfl, rfl⟩ ?_
        refine Ops.v (Yv.pick1 rfl rfl) ?_
        refine Ops.v (Yv.move rfl) ?_
        refine Ops.skip ⟨_, rfl, rfl⟩ ?_
        refine Ops.skip ⟨_, rfl, rfl⟩ ?_
        refine Ops.v (Yv.pick1 rfl rfl) ?_
        refine Ops.nil ?_
        refine ⟨hs7, Sub.le ⟨rfl, rfl, rfl, rfl, rfl, rfl, rfl, rfl, rfl, lookB rfl (by first | (simp only [h8, h9, ne_eq, not_true_eq_false, not_false_eq_true, or_true, true_or, or_false, false_or, and_true, true_and, and_false, false_and, decide_true, decide_false, or_self, and_self, Bool.decide_eq_true]; done) | simp [h8, h9]), trivial⟩⟩
      · -- no
        refine Ops.v (Yv.pick0 rfl rfl) ?_
        refine Ops.v (Yv.move rfl) ?_
        refine Ops.vg ⟨_, rfl, rfl⟩ (Yv.move rfl) ?_
        refine Ops.vg ⟨_, rfl, rfl⟩ (Yv.gt rfl rfl) ?_
        refine Ops.dec (fun h10 => ?_) (fun h10 => ?_)
        · -- yes
          refine Ops.v (Yv.pick0 rfl rfl) ?_
          refine Ops.v (Yv.move rfl) ?_
          refine Ops.skip ⟨_, rfl, rfl⟩ ?_
          refine Ops.skip ⟨_, rfl, rfl⟩ ?_
          refine Ops.v (Yv.pick1 rfl rfl) ?_
          refine Ops.v (Yv.move rfl) ?_
          refine Ops.skip ⟨_, rfl, rfl⟩ ?_
          refine Ops.skip ⟨_, rfl, rfl⟩ ?_
          refine Ops.v (Yv.pick1 rfl rfl) ?_
          refine Ops.v (Yv.move rfl) ?_
          refine Ops.skip ⟨_, rfl, rfl⟩ ?_
          refine Ops.skip ⟨_, rfl, rfl⟩ ?_
          refine Ops.v (Yv.pick1 rfl rfl) ?_
          refine Ops.v (Yv.move rfl) ?_
          refine Ops.skip ⟨_, rfl, rfl⟩ ?_
          refine Ops.skip ⟨_, rfl, rfl⟩ ?_
          refine Ops.v (Yv.pick1 rfl rfl) ?_
          refine Ops.v (Yv.move rfl) ?_
          refine Ops.skip ⟨_, rfl, rfl⟩ ?_
          refine Ops.skip ⟨_, rfl, rfl⟩ ?_
          refine Ops.v (Yv.pick1 rfl rfl) ?_
          refine Ops.v (Yv.move rfl) ?_
          refine Ops.skip ⟨_, rfl, rfl⟩ ?_
          refine Ops.skip ⟨_, rfl, rfl⟩ ?_
          refine Ops.v (Yv.pick1 rfl rfl) ?_
          refine Ops.v (Yv.move rfl) ?_
          refine Ops.skip ⟨_, rfl, rfl⟩ ?_
          refine Ops.skip ⟨_, rfl, rfl⟩ ?_
          refine Ops.v (Yv.pick1 rfl rfl) ?_
          refine Ops.v (Yv.move rfl) ?_
          refine Ops.skip ⟨_, rfl, rfl⟩ ?_
          refine Ops.skip ⟨_, rfl, rfl⟩ ?_
          refine Ops.v (Yv.pick1 rfl rfl) ?_
          refine Ops.nil ?_
          refine ⟨hs7, Sub.le ⟨rfl, rfl, rfl, rfl, rfl, rfl, rfl, rfl, rfl, lookB rfl (by first | (simp only [h8, h9, h10, ne_eq, not_true_eq_false, not_false_eq_true, or_true, true_or, or_false, false_or, and_true, true_and, and_false, false_and, decide_true, decide_false, or_self, and_self, Bool.decide_eq_true]; done) | simp [h8, h9, h10]), trivial⟩⟩
        · -- no
          refine Ops.v (Yv.pick0 rfl rfl) ?_
          refine Ops.v (Yv.move rfl) ?_
          refine Ops.vg ⟨_, rfl, rfl⟩ (Yv.move rfl) ?_
          refine Ops.vg ⟨_, rfl, rfl⟩ (Yv.lt rfl rfl) ?_
          refine Ops.dec (fun h11 => ?_) (fun h11 => ?_)
          · -- yes
            refine Ops.v (Yv.pick0 rfl rfl) ?_
            refine Ops.v (Yv.move rfl) ?_
            refine Ops.skip ⟨_, rfl, rfl⟩ ?_
            refine Ops.skip ⟨_, rfl, rfl⟩ ?_
            refine Ops.v (Yv.pick1 rfl rfl) ?_
            refine Ops.v (Yv.move rfl) ?_
            refine Ops.skip ⟨_, rfl, rfl⟩ ?_
            refine Ops.skip ⟨_, rfl, rfl⟩ ?_
            refine Ops.v (Yv.pick1 rfl rfl) ?_
            refine Ops.v (Yv.move rfl) ?_
            refine Ops.skip ⟨_, rfl, rfl⟩ ?_
            refine Ops.skip ⟨_, rfl, rfl⟩ ?_
            refine Ops.v (Yv.pick1 rfl rfl) ?_
            refine Ops.v (Yv.move rfl) ?_
            refine Ops.skip ⟨_, rfl, rfl⟩ ?_
            refine Ops.skip ⟨_, rfl, rfl⟩ ?_
            refine Ops.v (Yv.pick1 rfl rfl) ?_
            refine Ops.v (Yv.move rfl) ?_
            refine Ops.skip ⟨_, rfl, rfl⟩ ?_
            refine Ops.skip ⟨_, rfl, rfl⟩ ?_
            refine Ops.v (Yv.pick1 rfl rfl) ?_
            refine Ops.v (Yv.move rfl) ?_
            refine Ops.skip ⟨_, rfl, rfl⟩ ?_
            refine Ops.skip ⟨_, rfl, rfl⟩ ?_
            refine Ops.v (Yv.pick1 rfl rfl) ?_
            refine Ops.v (Yv.move rfl) ?_
            refine Ops.skip ⟨_, rfl, rfl⟩ ?_
            refine Ops.skip ⟨_, rfl, rfl⟩ ?_
            refine Ops.v (Yv.pick1 rfl rfl) ?_
            refine Ops.nil ?_
            refine ⟨hs7, Sub.le ⟨rfl, rfl, rfl, rfl, rfl, rfl, rfl, rfl, rfl, lookB rfl (by first | (simp only [h8, h9, h10, h11, ne_eq, not_true_eq_false, not_false_eq_true, or_true, true_or, or_false, false_or, and_true, true_and, and_false, false_and, decide_true, decide_false, or_self, and_self, Bool.decide_eq_true]; done) | simp [h8, h9, h10, h11]), trivial⟩⟩
          · -- no
            refine Ops.v (Yv.pick0 rfl rfl) ?_
            refine Ops.v (Yv.move rfl) ?_
            refine Ops.vg ⟨_, rfl, rfl⟩ (Yv.move rfl) ?_
            refine Ops.vg ⟨_, rfl, rfl⟩ (Yv.gt rfl rfl) ?_
            refine Ops.dec (fun h12 => ?_) (fun h12 => ?_)
            · -- yes
              refine Ops.v (Yv.pick0 rfl rfl) ?_
              refine Ops.v (Yv.move rfl) ?_
              refine Ops.skip ⟨_, rfl, rfl⟩ ?_
              refine Ops.skip ⟨_, rfl, rfl⟩ ?_
              refine Ops.v (Yv.pick1 rfl rfl) ?_
              refine Ops.v (Yv.move rfl) ?_
              refine Ops.skip ⟨_, rfl, rfl⟩ ?_
              refine Ops.skip ⟨_, rfl, rfl⟩ ?_
              refine Ops.v (Yv.pick1 rfl rfl) ?_
              refine Ops.v (Yv.move rfl) ?_
              refine Ops.skip ⟨_, rfl, rfl⟩ ?_
              refine Ops.skip ⟨_, rfl, rfl⟩ ?_
              refine Ops.v (Yv.pick1 rfl rfl) ?_
              refine Ops.v (Yv.move rfl) ?_
              refine Ops.skip ⟨_, rfl, rfl⟩ ?_
              refine Ops.skip ⟨_, rfl, rfl⟩ ?_
              refine Ops.v (Yv.pick1 rfl rfl) ?_
              refine Ops.v (Yv.move rfl) ?_
              refine Ops.skip ⟨_, rfl, rfl⟩ ?_
              refine Ops.skip ⟨_, rfl, rfl⟩ ?_
              refine Ops.v (Yv.pick1 rfl rfl) ?_
              refine Ops.v (Yv.move rfl) ?_
              refine Ops.skip ⟨_, rfl, rfl⟩ ?_
              refine Ops.skip ⟨_, rfl, rfl⟩ ?_
              refine Ops.v (Yv.pick1 rfl rfl) ?_
              refine Ops.nil ?_
              refine ⟨hs7, Sub.le ⟨rfl, rfl, rfl, rfl, rfl, rfl, rfl, rfl, rfl, lookB rfl (by first | (simp only [h8, h9, h10, h11, h12, ne_eq, not_true_eq_false, not_false_eq_true, or_true, true_or, or_false, false_or, and_true, true_and, and_false, false_and, decide_true, decide_false, or_self, and_self, Bool.decide_eq_true]; done) | simp [h8, h9, h10, h11, h12]), trivial⟩⟩
            · -- no
              refine Ops.v (Yv.pick0 rfl rfl) ?_
              refine Ops.v (Yv.move rfl) ?_
              refine Ops.vg ⟨_, rfl, rfl⟩ (Yv.move rfl) ?_
              refine Ops.vg ⟨_, rfl, rfl⟩ (Yv.lt rfl rfl) ?_
              refine Ops.dec (fun h13 => ?_) (fun h13 => ?_)
              · -- yes
                refine Ops.v (Yv.pick0 rfl rfl) ?_
                refine Ops.v (Yv.move rfl) ?_
                refine Ops.skip ⟨_, rfl, rfl⟩ ?_
                refine Ops.skip ⟨_, rfl, rfl⟩ ?_
                refine Ops.v (Yv.pick1 rfl rfl) ?_
                refine Ops.v (Yv.move rfl) ?_
                refine Ops.skip ⟨_, rfl, rfl⟩ ?_
                refine Ops.skip ⟨_, rfl, rfl⟩ ?_
                refine Ops.v (Yv.pick1 rfl rfl) ?_
                refine Ops.v (Yv.move rfl) ?_
                refine Ops.skip ⟨_, rfl, rfl⟩ ?_
                refine Ops.skip ⟨_, rfl, rfl⟩ ?_
                refine Ops.v (Yv.pick1 rfl rfl) ?_
                refine Ops.v (Yv.move rfl) ?_
                refine Ops.skip ⟨_, rfl, rfl⟩ ?_
                refine Ops.skip ⟨_, rfl, rfl⟩ ?_
                refine Ops.v (Yv.pick1 rfl rfl) ?_
                refine Ops.v (Yv.move rfl) ?_
                refine Ops.skip ⟨_, rfl, rfl⟩ ?_
                refine Ops.skip ⟨_, rfl, rfl⟩ ?_
                refine Ops.v (Yv.pick1 rfl rfl) ?_
                refine Ops.nil ?_
                refine ⟨hs7, Sub.le ⟨rfl, rfl, rfl, rfl, rfl, rfl, rfl, rfl, rfl, lookB rfl (by first | (simp only [h8, h9, h10, h11, h12, h13, ne_eq, not_true_eq_false, not_false_eq_true, or_true, true_or, or_false, false_or, and_true, true_and, and_false, false_and, decide_true, decide_false, or_self, and_self, Bool.decide_eq_true]; done) | simp [h8, h9, h10, h11, h12, h13]), trivial⟩⟩
              · -- no
                refine Ops.v (Yv.pick0 rfl rfl) ?_
                refine Ops.v (Yv.move rfl) ?_
                refine Ops.vg ⟨_, rfl, rfl⟩ (Yv.move rfl) ?_
                refine Ops.vg ⟨_, rfl, rfl⟩ (Yv.gt rfl rfl) ?_
                refine Ops.dec (fun h14 => ?_) (fun h14 => ?_)
                · -- yes
                  refine Ops.v (Yv.pick0 rfl rfl) ?_
                  refine Ops.v (Yv.move rfl) ?_
                  refine Ops.skip ⟨_, rfl, rfl⟩ ?_
                  refine Ops.skip ⟨_, rfl, rfl⟩ ?_
                  refine Ops.v (Yv.pick1 rfl rfl) ?_
                  refine Ops.v (Yv.move rfl) ?_
                  refine Ops.skip ⟨_, rfl, rfl⟩ ?_
                  refine Ops.skip ⟨_, rfl, rfl⟩ ?_
                  refine Ops.v (Yv.pick1 rfl rfl) ?_
                  refine Ops.v (Yv.move rfl) ?_
                  refine Ops.skip ⟨_, rfl, rfl⟩ ?_
                  refine Ops.skip ⟨_, rfl, rfl⟩ ?_
                  refine Ops.v (Yv.pick1 rfl rfl) ?_
                  refine Ops.v (Yv.move rfl) ?_
                  refine Ops.skip ⟨_, rfl, rfl⟩ ?_
                  refine Ops.skip ⟨_, rfl, rfl⟩ ?_
                  refine Ops.v (Yv.pick1 rfl rfl) ?_
                  refine Ops.nil ?_
                  refine ⟨hs7, Sub.le ⟨rfl, rfl, rfl, rfl, rfl, rfl, rfl, rfl, rfl, lookB rfl (by first | (simp only [h8, h9, h10, h11, h12, h13, h14, ne_eq, not_true_eq_false, not_false_eq_true, or_true, true_or, or_false, false_or, and_true, true_and, and_false, false_and, decide_true, decide_false, or_self, and_self, Bool.decide_eq_true]; done) | simp [h8, h9, h10, h11, h12, h13, h14]), trivial⟩⟩
                · -- no
                  refine Ops.v (Yv.pick0 rfl rfl) ?_
                  refine Ops.v (Yv.move rfl) ?_
                  refine Ops.vg ⟨_, rfl, rfl⟩ (Yv.move rfl) ?_
                  refine Ops.vg ⟨_, rfl, rfl⟩ (Yv.lt rfl rfl) ?_
                  refine Ops.dec (fun h15 => ?_) (fun h15 => ?_)
                  · -- yes
                    refine Ops.v (Yv.pick0 rfl rfl) ?_
                    refine Ops.v (Yv.move rfl) ?_
                    refine Ops.skip ⟨_, rfl, rfl⟩ ?_
                    refine Ops.skip ⟨_, rfl, rfl⟩ ?_
                    refine Ops.v (Yv.pick1 rfl rfl) ?_
                    refine Ops.v (Yv.move rfl) ?_
                    refine Ops.skip ⟨_, rfl, rfl⟩ ?_
                    refine Ops.skip ⟨_, rfl, rfl⟩ ?_
                    refine Ops.v (Yv.pick1 rfl rfl) ?_
                    refine Ops.v (Yv.move rfl) ?_
                    refine Ops.skip ⟨_, rfl, rfl⟩ ?_
                    refine Ops.skip ⟨_, rfl, rfl⟩ ?_
                    refine Ops.v (Yv.pick1 rfl rfl) ?_
                    refine Ops.nil ?_
                    refine ⟨hs7, Sub.le ⟨rfl, rfl, rfl, rfl, rfl, rfl, rfl, rfl, rfl, lookB rfl (by first | (simp only [h8, h9, h10, h11, h12, h13, h14, h15, ne_eq, not_true_eq_false, not_false_eq_true, or_true, true_or, or_false, false_or, and_true, true_and, and_false, false_and, decide_true, decide_false, or_self, and_self, Bool.decide_eq_true]; done) | simp [h8, h9, h10, h11, h12, h13, h14, h15]), trivial⟩⟩
                  · -- no
                    refine Ops.v (Yv.pick0 rfl rfl) ?_
                    refine Ops.v (Yv.move rfl) ?_
                    refine Ops.vg ⟨_, rfl, rfl⟩ (Yv.move rfl) ?_
                    refine Ops.vg ⟨_, rfl, rfl⟩ (Yv.gt rfl rfl) ?_
                    refine Ops.dec (fun h16 => ?_) (fun h16 => ?_)
                    · -- yes
                      refine Ops.v (Yv.pick0 rfl rfl) ?_
                      refine Ops.v (Yv.move rfl) ?_
                      refine Ops.skip ⟨_, rfl, rfl⟩ ?_
                      refine Ops.skip ⟨_, rfl, rfl⟩ ?_
                      refine Ops.v (Yv.pick1 rfl rfl) ?_
                      refine Ops.v (Yv.move rfl) ?_
                      refine Ops.skip ⟨_, rfl, rfl⟩ ?_
                      refine Ops.skip ⟨_, rfl, rfl⟩ ?_
                      refine Ops.v (Yv.pick1 rfl rfl) ?_
                      refine Ops.nil ?_
                      refine ⟨hs7, Sub.le ⟨rfl, rfl, rfl, rfl, rfl, rfl, rfl, rfl, rfl, lookB rfl (by first | (simp only [h8, h9, h10, h11, h12, h13, h14, h15, h16, ne_eq, not_true_eq_false, not_false_eq_true, or_true, true_or, or_false, false_or, and_true, true_and, and_false, false_and, decide_true, decide_false, or_self, and_self, Bool.decide_eq_true]; done) | simp [h8, h9, h10, h11, h12, h13, h14, h15, h16]), trivial⟩⟩
                    · -- no
                      refine Ops.v (Yv.pick0 rfl rfl) ?_
                      refine Ops.v (Yv.move rfl) ?_
                      refine Ops.vg ⟨_, rfl, rfl⟩ (Yv.move rfl) ?_
                      refine Ops.vg ⟨_, rfl, rfl⟩ (Yv.lt rfl rfl) ?_
                      refine Ops.dec (fun h17 => ?_) (fun h17 => ?_)
                      · -- yes
                        refine Ops.v (Yv.pick0 rfl rfl) ?_
                        refine Ops.v (Yv.move rfl) ?_
                        refine Ops.skip ⟨_, rfl, rfl⟩ ?_
                        refine Ops.skip ⟨_, rfl, rfl⟩ ?_
                        refine Ops.v (Yv.pick1 rfl rfl) ?_
                        refine Ops.nil ?_
                        refine ⟨hs7, Sub.le ⟨rfl, rfl, rfl, rfl, rfl, rfl, rfl, rfl, rfl, lookB rfl (by first | (simp only [h8, h9, h10, h11, h12, h13, h14, h15, h16, h17, ne_eq, not_true_eq_false, not_false_eq_true, or_true, true_or, or_false, false_or, and_true, true_and, and_false, false_and, decide_true, decide_false, or_self, and_self, Bool.decide_eq_true]; done) | simp [h8, h9, h10, h11, h12, h13, h14, h15, h16, h17]), trivial⟩⟩
                      · -- no
                        refine Ops.v (Yv.pick0 rfl rfl) ?_
                        refine Ops.v (Yv.move rfl) ?_
                        refine Ops.vg ⟨_, rfl, rfl⟩ (Yv.move rfl) ?_
                        refine Ops.vg ⟨_, rfl, rfl⟩ (Yv.gt rfl rfl) ?_
                        refine Ops.v (Yv.pick0 rfl rfl) ?_
                        refine Ops.nil ?_
                        refine ⟨hs7, Sub.le ⟨rfl, rfl, rfl, rfl, rfl, rfl, rfl, rfl, rfl, lookB rfl (by first | (simp only [h8, h9, h10, h11, h12, h13, h14, h15, h16, h17, ne_eq, not_true_eq_false, not_false_eq_true, or_true, true_or, or_false, false_or, and_true, true_and, and_false, false_and, decide_true, decide_false, or_self, and_self, Bool.decide_eq_true]; done) | simp [h8, h9, h10, h11, h12, h13, h14, h15, h16, h17]), trivial⟩⟩
  rintro e18 w18 ⟨hs18, he18⟩
  refine k6 _ _ ?_
  refine Run.le he18 ?_
  refine run_ifp rfl (fun h19 => ?_) (fun h19 => ?_)
  · -- yes (((((((((((checkF W H m) ≠ (0 : Int)) ∨ (x < ((-1048576) : Int))) ∨ ((1048576 : Int) < x)) ∨ (y < ((-1048576) : Int))) ∨ ((1048576 : Int) < y)) ∨ (bw < (4 : Int))) ∨ ((64 : Int) < bw)) ∨ (bh < (4 : Int))) ∨ ((64 : Int) < bh)) ∨ (kd < (0 : Int))) ∨ ((2 : Int) < kd)
    refine run_seq fun K20 k20 => ?_
    refine run_region ?_
    refine Ops.v (Yv.assign rfl) ?_
    refine Ops.v (Yv.assign rfl) ?_
    refine Ops.nil ?_
    refine k20 _ _ ?_
    refine run_ret ?_
    refine ⟨[.slice none 0 0, .int .i64 2], ⟨_, _, rfl, rfl, ⟨_, _, rfl, rfl, rfl⟩⟩, ?_⟩
    obtain ⟨e1, e2⟩ := fetch_bad (xs := xs) (W := W) (H := H) (m := m) (x := x) (y := y) (bw := bw) (bh := bh) (kd := kd) (by unfold fetchOk; omega)
    rw [e1, e2]
    exact ⟨none, 0, rfl, (hs18.pick [] [] (by decide) rfl).nilRow 5 1⟩
  · -- no
    have hok : fetchOk W H m x y bw bh kd := by unfold fetchOk; omega
    obtain ⟨hck, hx_, hy_, hw_, hh_, hk0, hk1⟩ := hok
    have hcf := check_ok hck
    have hWH := mul_bd (a := W) (b := H) (x := 512) (y := 512) (by omega) (by omega) (by omega) (by omega)
    have etx := (taps_ok (kd := kd) (q := x % 2 ^ 4) ⟨⟨hk0, hk1⟩, by omega, by omega⟩)
    have ety := (taps_ok (kd := kd) (q := y % 2 ^ 4) ⟨⟨hk0, hk1⟩, by omega, by omega⟩)
    have hTx : ∀ k, -128 ≤ gi (tapsOut kd (x % 2 ^ 4)) k ∧ gi (tapsOut kd (x % 2 ^ 4)) k ≤ 128 := fun k => by rw [etx.2]; exact taps_bd hk0 hk1 (by omega) (by omega) k
    have hTy : ∀ k, -128 ≤ gi (tapsOut kd (y % 2 ^ 4)) k ∧ gi (tapsOut kd (y % 2 ^ 4)) k ≤ 128 := fun k => by rw [ety.2]; exact taps_bd hk0 hk1 (by omega) (by omega) k
    have hwh := mul_bd (a := bw) (b := bh) (x := 64) (y := 64) (by omega) (by omega) (by omega) (by omega)
    have hwh7 := mul_bd (a := bw) (b := bh + 7) (x := 64) (y := 71) (by omega) (by omega) (by omega) (by omega)
    have hw7 : bw * (bh + 7) = bw * bh + 7 * bw := by rw [Int.mul_add]; omega
    refine run_skip ?_
    refine k5 _ _ ?_
    refine run_seq fun K21 k21 => ?_
    refine run_region ?_
    refine Ops.v (Yv.move rfl) ?_
    refine Ops.v (Yv.move rfl) ?_
    refine Ops.v (Yv.andm rfl rfl 4 (by decide) (by rfl)) ?_
    refine Ops.s (Step.call rfl rfl (rtaps_fun) (?_) True.intro (by rfl))
    rintro _ w22 ⟨rfl, hs22⟩
    replace hs22 := hs18.call hs22
    refine Ops.v (Yv.move rfl) ?_
    refine Ops.v (Yv.extract rfl rfl) ?_
    refine Ops.v (Yv.extract rfl rfl) ?_
    refine Ops.s (Step.alloc (cs := [.int .i64 0, .int .i64 0, .int .i64 0, .int .i64 0, .int .i64 0, .int .i64 0, .int .i64 0, .int .i64 0]) hs22 Z81 rfl (fun b23 w24 hs24 hb24 => ?_) True.intro (by rfl))
    refine Ops.s (Step.store (vs := [.int .i64 (gi (tapsOut kd (x % 2 ^ 4)) 0), .int .i64 (gi (tapsOut kd (x % 2 ^ 4)) 1), .int .i64 (gi (tapsOut kd (x % 2 ^ 4)) 2), .int .i64 (gi (tapsOut kd (x % 2 ^ 4)) 3), .int .i64 (gi (tapsOut kd (x % 2 ^ 4)) 4), .int .i64 (gi (tapsOut kd (x % 2 ^ 4)) 5), .int .i64 (gi (tapsOut kd (x % 2 ^ 4)) 6), .int .i64 (gi (tapsOut kd (x % 2 ^ 4)) 7)]) 0 hs24 rfl rfl rfl rfl S81 (Nat.le_of_ble_eq_true rfl) rfl (fun w26 hs26 => ?_) True.intro)
    replace hs26 : HS _ [.blk _ [_, _, _, _, _, _, _, _] _, .blk _ [_, _, _] _] _ := hs26
    refine Ops.v (Yv.assign rfl) ?_
    refine Ops.nil ?_
    refine k21 _ _ ?_
    refine run_seq fun K27 k27 => ?_
    refine run_region ?_
    refine Ops.v (Yv.move rfl) ?_
    refine Ops.v (Yv.move rfl) ?_
    refine Ops.v (Yv.andm rfl rfl 4 (by decide) (by rfl)) ?_
    refine Ops.s (Step.call rfl rfl (rtaps_fun) (?_) True.intro (by rfl))
    rintro _ w28 ⟨rfl, hs28⟩
    replace hs28 := hs26.call hs28
    refine Ops.v (Yv.move rfl) ?_
    refine Ops.v (Yv.extract rfl rfl) ?_
    refine Ops.v (Yv.extract rfl rfl) ?_
    refine Ops.s (Step.alloc (cs := [.int .i64 0, .int .i64 0, .int .i64 0, .int .i64 0, .int .i64 0, .int .i64 0, .int .i64 0, .int .i64 0]) hs28 Z81 rfl (fun b29 w30 hs30 hb30 => ?_) True.intro (by rfl))
    refine Ops.s (Step.store (vs := [.int .i64 (gi (tapsOut kd (y % 2 ^ 4)) 0), .int .i64 (gi (tapsOut kd (y % 2 ^ 4)) 1), .int .i64 (gi (tapsOut kd (y % 2 ^ 4)) 2), .int .i64 (gi (tapsOut kd (y % 2 ^ 4)) 3), .int .i64 (gi (tapsOut kd (y % 2 ^ 4)) 4), .int .i64 (gi (tapsOut kd (y % 2 ^ 4)) 5), .int .i64 (gi (tapsOut kd (y % 2 ^ 4)) 6), .int .i64 (gi (tapsOut kd (y % 2 ^ 4)) 7)]) 0 hs30 rfl rfl rfl rfl S81 (Nat.le_of_ble_eq_true rfl) rfl (fun w32 hs32 => ?_) True.intro)
    replace hs32 : HS _ [.blk _ [_, _, _, _, _, _, _, _] _, .blk _ [_, _, _, _, _, _, _, _] _, .blk _ [_, _, _] _] _ := hs32
    refine Ops.v (Yv.assign rfl) ?_
    refine Ops.nil ?_
    refine k27 _ _ ?_
    refine run_seq fun K33 k33 => ?_
    refine run_region ?_
    refine Ops.v (Yv.move rfl) ?_
    refine Ops.v (Yv.move rfl) ?_
    refine Ops.v (Yv.add rfl rfl (by omega)) ?_
    refine Ops.v (Yv.mul rfl rfl (by omega)) ?_
    refine Ops.s (Step.make hs32 L45 Z3 rfl rfl (by omega) (by omega) (by omega) (fun b35 w34 hs34 hb34 => ?_) True.intro (by rfl))
    rw [i64s_rep] at hs34
    refine Ops.v (Yv.assign rfl) ?_
    refine Ops.nil ?_
    refine k33 _ _ ?_
    refine run_seq fun K37 k37 => ?_
    refine run_seq fun K38 k38 => ?_
    refine run_region ?_
    refine Ops.v (Yv.assign rfl) ?_
    refine Ops.nil ?_
    refine k38 _ _ ?_
    refine run_block ?_
    refine Run.sub [(0, _), (1, _), (2, _), (3, _), (4, _), (5, _), (6, _), (12, _), (13, _), (14, _), (16, _), (18, _), (19, _), (70, _)] ⟨rfl, rfl, rfl, rfl, rfl, rfl, rfl, rfl, rfl, rfl, rfl, rfl, rfl, rfl, trivial⟩ ?_
    refine run_loop (σ := Nat) (fun j e_ w_ => HS w [.row (some ⟨b35, 0, none⟩) ((bw * (bh + 7) : Int).toNat) ((bw * (bh + 7) : Int).toNat) (i64s (acrIn xs W H (tapsOut kd (x % 2 ^ 4)) x y bw (bw * (bh + 7)).toNat (j * bw.toNat))) 3 1, .blk b29 [.int .i64 (gi (tapsOut kd (y % 2 ^ 4)) 0), .int .i64 (gi (tapsOut kd (y % 2 ^ 4)) 1), .int .i64 (gi (tapsOut kd (y % 2 ^ 4)) 2), .int .i64 (gi (tapsOut kd (y % 2 ^ 4)) 3), .int .i64 (gi (tapsOut kd (y % 2 ^ 4)) 4), .int .i64 (gi (tapsOut kd (y % 2 ^ 4)) 5), .int .i64 (gi (tapsOut kd (y % 2 ^ 4)) 6), .int .i64 (gi (tapsOut kd (y % 2 ^ 4)) 7)] 81, .blk b23 [.int .i64 (gi (tapsOut kd (x % 2 ^ 4)) 0), .int .i64 (gi (tapsOut kd (x % 2 ^ 4)) 1), .int .i64 (gi (tapsOut kd (x % 2 ^ 4)) 2), .int .i64 (gi (tapsOut kd (x % 2 ^ 4)) 3), .int .i64 (gi (tapsOut kd (x % 2 ^ 4)) 4), .int .i64 (gi (tapsOut kd (x % 2 ^ 4)) 5), .int .i64 (gi (tapsOut kd (x % 2 ^ 4)) 6), .int .i64 (gi (tapsOut kd (x % 2 ^ 4)) 7)] 81, .blk b2 [.int .i64 W, .int .i64 H, .slice A m c] 24] w_ ∧ e_ = [(0, .agg #[.int .i64 W, .int .i64 H, .slice A m c]), (1, .int .i64 x), (2, .int .i64 y), (3, .int .i64 bw), (4, .int .i64 bh), (5, .int .i64 kd), (6, .pointer (some ⟨b2, 0, none⟩)), (12, .slice none 0 0), (13, .int .i64 0), (14, .pointer (some ⟨b23, 0, none⟩)), (16, .pointer (some ⟨b29, 0, none⟩)), (18, .slice (some ⟨b35, 0, none⟩) ((bw * (bh + 7) : Int).toNat) ((bw * (bh + 7) : Int).toNat)), (19, .int .i64 (j : Int)), (70, .bool (decide ((((((((((((checkF W H m) ≠ (0 : Int)) ∨ (x < ((-1048576) : Int))) ∨ ((1048576 : Int) < x)) ∨ (y < ((-1048576) : Int))) ∨ ((1048576 : Int) < y)) ∨ (bw < (4 : Int))) ∨ ((64 : Int) < bw)) ∨ (bh < (4 : Int))) ∨ ((64 : Int) < bh)) ∨ (kd < (0 : Int))) ∨ ((2 : Int) < kd))))] ∧ (j : Int) ≤ bh + 7)
      (fun j => (bh + 7).toNat - j) 0 ?_ ?_
    · -- at the start
      refine ⟨hs34.to (by rw [Nat.zero_mul]; rfl), rfl, by omega⟩
    · -- a round
      rintro j _ w39 ⟨hs39, rfl, f1⟩
      refine run_seq fun K40 k40 => ?_
      refine run_seq fun K41 k41 => ?_
      refine run_region ?_
      refine Ops.v (Yv.move rfl) ?_
      refine Ops.v (Yv.move rfl) ?_
      refine Ops.v (Yv.add rfl rfl (by omega)) ?_
      refine Ops.v (Yv.lt rfl rfl) ?_
      refine Ops.nil ?_
      refine k41 _ _ ?_
      refine run_ifp rfl (fun h42 => ?_) (fun h42 => ?_)
      · -- yes (j : Int) < (bh + 7)
        refine run_skip ?_
        refine k40 _ _ ?_
        refine run_seq fun K43 k43 => ?_
        refine run_block ?_
        refine run_seq fun K44 k44 => ?_
        refine run_drawn [] (fun x => Below (w39.drew).heap.size (w39.drew) x) ?_ Tf.mixed (by kernel_rfl) (fun _ _ _ h => h)
        have hs45 := hs39.drew
        have hS46 := Below.refl (w39.drew).heap.size (w39.drew)
        refine Drw.a 0 rfl (by kernel_rfl) (Yv.move rfl) ?_
        refine Drw.a 1 rfl (by kernel_rfl) (Yv.shr rfl rfl 4 (by first | rfl | omega) (by omega)) ?_
        refine Drw.a 2 rfl (by kernel_rfl) (Yv.move rfl) ?_
        refine Drw.a 3 rfl (by kernel_rfl) (Yv.add rfl rfl (by omega)) ?_
        refine Drw.a 4 rfl (by kernel_rfl) (Yv.sub rfl rfl (by omega)) ?_
        refine Drw.a 5 rfl (by kernel_rfl) (Yv.fld F24_1 rfl) ?_
        refine Drw.l 6 rfl (by kernel_rfl) hS46 (Yv.load A3 rfl (fun _ hq_ => ((hs45.grow hq_).cell 3 rfl 1 rfl))) ?_
        refine Drw.a 7 rfl (by kernel_rfl) (Yv.sub rfl rfl (by omega)) ?_
        refine Drw.a 9 rfl (by kernel_rfl) (Yv.fld F24_0 rfl) ?_
        refine Drw.l 10 rfl (by kernel_rfl) hS46 (Yv.load A3 rfl (fun _ hq_ => ((hs45.grow hq_).cell 3 rfl 0 rfl))) ?_
        refine Drw.one 8 rfl (by kernel_rfl) (Step.call rfl rfl (rclip_fun (by omega)) (?_) True.intro (by rfl))
        rintro _ _ ⟨rfl, rfl⟩
        refine ⟨fun _ h => h, ?_⟩
        have hmy := mul_bd (a := (min (max (((y / 2 ^ 4) + (j : Int)) - 3) (0 : Int)) (H - 1))) (b := W) (x := 512) (y := 512) (by omega) (by omega) (by omega) (by omega)
        refine Drw.a 11 rfl (by kernel_rfl) (Yv.mul rfl rfl (by omega)) ?_
        refine Drw.a 12 rfl (by kernel_rfl) (Yv.assign rfl) ?_
        refine Drw.done ?_ (by kernel_rfl)
        refine k44 _ _ ?_
        refine run_seq fun K48 k48 => ?_
        refine run_region ?_
        refine Ops.v (Yv.assign rfl) ?_
        refine Ops.nil ?_
        refine k48 _ _ ?_
        refine run_block ?_
        refine Run.sub [(0, _), (1, _), (2, _), (3, _), (4, _), (5, _), (6, _), (12, _), (13, _), (14, _), (16, _), (18, _), (19, _), (20, _), (21, _), (70, _), (93, _)] ⟨rfl, rfl, rfl, rfl, rfl, rfl, rfl, rfl, rfl, rfl, rfl, rfl, rfl, rfl, rfl, rfl, rfl, trivial⟩ ?_
        refine run_loop (σ := Nat) (fun i e_ w_ => HS w [.row (some ⟨b35, 0, none⟩) ((bw * (bh + 7) : Int).toNat) ((bw * (bh + 7) : Int).toNat) (i64s (acrIn xs W H (tapsOut kd (x % 2 ^ 4)) x y bw (bw * (bh + 7)).toNat (j * bw.toNat + i))) 3 1, .blk b29 [.int .i64 (gi (tapsOut kd (y % 2 ^ 4)) 0), .int .i64 (gi (tapsOut kd (y % 2 ^ 4)) 1), .int .i64 (gi (tapsOut kd (y % 2 ^ 4)) 2), .int .i64 (gi (tapsOut kd (y % 2 ^ 4)) 3), .int .i64 (gi (tapsOut kd (y % 2 ^ 4)) 4), .int .i64 (gi (tapsOut kd (y % 2 ^ 4)) 5), .int .i64 (gi (tapsOut kd (y % 2 ^ 4)) 6), .int .i64 (gi (tapsOut kd (y % 2 ^ 4)) 7)] 81, .blk b23 [.int .i64 (gi (tapsOut kd (x % 2 ^ 4)) 0), .int .i64 (gi (tapsOut kd (x % 2 ^ 4)) 1), .int .i64 (gi (tapsOut kd (x % 2 ^ 4)) 2), .int .i64 (gi (tapsOut kd (x % 2 ^ 4)) 3), .int .i64 (gi (tapsOut kd (x % 2 ^ 4)) 4), .int .i64 (gi (tapsOut kd (x % 2 ^ 4)) 5), .int .i64 (gi (tapsOut kd (x % 2 ^ 4)) 6), .int .i64 (gi (tapsOut kd (x % 2 ^ 4)) 7)] 81, .blk b2 [.int .i64 W, .int .i64 H, .slice A m c] 24] w_ ∧ e_ = [(0, .agg #[.int .i64 W, .int .i64 H, .slice A m c]), (1, .int .i64 x), (2, .int .i64 y), (3, .int .i64 bw), (4, .int .i64 bh), (5, .int .i64 kd), (6, .pointer (some ⟨b2, 0, none⟩)), (12, .slice none 0 0), (13, .int .i64 0), (14, .pointer (some ⟨b23, 0, none⟩)), (16, .pointer (some ⟨b29, 0, none⟩)), (18, .slice (some ⟨b35, 0, none⟩) ((bw * (bh + 7) : Int).toNat) ((bw * (bh + 7) : Int).toNat)), (19, .int .i64 (j : Int)), (20, .int .i64 ((min (max (((y / 2 ^ 4) + (j : Int)) - 3) (0 : Int)) (H - 1)) * W)), (21, .int .i64 (i : Int)), (70, .bool (decide ((((((((((((checkF W H m) ≠ (0 : Int)) ∨ (x < ((-1048576) : Int))) ∨ ((1048576 : Int) < x)) ∨ (y < ((-1048576) : Int))) ∨ ((1048576 : Int) < y)) ∨ (bw < (4 : Int))) ∨ ((64 : Int) < bw)) ∨ (bh < (4 : Int))) ∨ ((64 : Int) < bh)) ∨ (kd < (0 : Int))) ∨ ((2 : Int) < kd)))), (93, .bool (decide ((j : Int) < (bh + 7))))] ∧ (i : Int) ≤ bw)
          (fun i => bw.toNat - i) 0 ?_ ?_
        · -- at the start
          refine ⟨hs45, rfl, by omega⟩
        · -- a round
          rintro i _ w49 ⟨hs49, rfl, f2⟩
          have hjb : j * bw.toNat ≤ 71 * 64 := Nat.mul_le_mul (by omega) (by omega)
          have hjc : ((j * bw.toNat : Nat) : Int) = (j : Int) * bw := by rw [Int.natCast_mul, Int.toNat_of_nonneg (by omega)]
          refine run_seq fun K50 k50 => ?_
          refine run_seq fun K51 k51 => ?_
          refine run_region ?_
          refine Ops.v (Yv.move rfl) ?_
          refine Ops.v (Yv.move rfl) ?_
          refine Ops.v (Yv.lt rfl rfl) ?_
          refine Ops.nil ?_
          refine k51 _ _ ?_
          refine run_ifp rfl (fun h52 => ?_) (fun h52 => ?_)
          · -- yes (i : Int) < bw
            refine run_skip ?_
            refine k50 _ _ ?_
            refine run_seq fun K53 k53 => ?_
            refine run_block ?_
            refine run_seq fun K54 k54 => ?_
            refine run_region ?_
            refine Ops.v (Yv.assign rfl) ?_
            refine Ops.nil ?_
            refine k54 _ _ ?_
            refine run_seq fun K55 k55 => ?_
            refine run_seq fun K56 k56 => ?_
            refine run_region ?_
            refine Ops.v (Yv.assign rfl) ?_
            refine Ops.nil ?_
            refine k56 _ _ ?_
            refine run_block ?_
            refine Run.sub [(0, _), (1, _), (2, _), (3, _), (4, _), (5, _), (6, _), (12, _), (13, _), (14, _), (16, _), (18, _), (19, _), (20, _), (21, _), (22, _), (23, _), (70, _), (93, _), (110, _)] ⟨rfl, rfl, rfl, rfl, rfl, rfl, rfl, rfl, rfl, rfl, rfl, rfl, rfl, rfl, rfl, rfl, rfl, rfl, rfl, rfl, trivial⟩ ?_
            refine run_loop (σ := Nat) (fun k e_ w_ => HS w [.row (some ⟨b35, 0, none⟩) ((bw * (bh + 7) : Int).toNat) ((bw * (bh + 7) : Int).toNat) (i64s (acrIn xs W H (tapsOut kd (x % 2 ^ 4)) x y bw (bw * (bh + 7)).toNat (j * bw.toNat + i))) 3 1, .blk b29 [.int .i64 (gi (tapsOut kd (y % 2 ^ 4)) 0), .int .i64 (gi (tapsOut kd (y % 2 ^ 4)) 1), .int .i64 (gi (tapsOut kd (y % 2 ^ 4)) 2), .int .i64 (gi (tapsOut kd (y % 2 ^ 4)) 3), .int .i64 (gi (tapsOut kd (y % 2 ^ 4)) 4), .int .i64 (gi (tapsOut kd (y % 2 ^ 4)) 5), .int .i64 (gi (tapsOut kd (y % 2 ^ 4)) 6), .int .i64 (gi (tapsOut kd (y % 2 ^ 4)) 7)] 81, .blk b23 [.int .i64 (gi (tapsOut kd (x % 2 ^ 4)) 0), .int .i64 (gi (tapsOut kd (x % 2 ^ 4)) 1), .int .i64 (gi (tapsOut kd (x % 2 ^ 4)) 2), .int .i64 (gi (tapsOut kd (x % 2 ^ 4)) 3), .int .i64 (gi (tapsOut kd (x % 2 ^ 4)) 4), .int .i64 (gi (tapsOut kd (x % 2 ^ 4)) 5), .int .i64 (gi (tapsOut kd (x % 2 ^ 4)) 6), .int .i64 (gi (tapsOut kd (x % 2 ^ 4)) 7)] 81, .blk b2 [.int .i64 W, .int .i64 H, .slice A m c] 24] w_ ∧ e_ = [(0, .agg #[.int .i64 W, .int .i64 H, .slice A m c]), (1, .int .i64 x), (2, .int .i64 y), (3, .int .i64 bw), (4, .int .i64 bh), (5, .int .i64 kd), (6, .pointer (some ⟨b2, 0, none⟩)), (12, .slice none 0 0), (13, .int .i64 0), (14, .pointer (some ⟨b23, 0, none⟩)), (16, .pointer (some ⟨b29, 0, none⟩)), (18, .slice (some ⟨b35, 0, none⟩) ((bw * (bh + 7) : Int).toNat) ((bw * (bh + 7) : Int).toNat)), (19, .int .i64 (j : Int)), (20, .int .i64 ((min (max (((y / 2 ^ 4) + (j : Int)) - 3) (0 : Int)) (H - 1)) * W)), (21, .int .i64 (i : Int)), (22, .int .i64 (tapSum (tapsOut kd (x % 2 ^ 4)) 4 (fun k => nearF xs W H (y / 2 ^ 4 + (j : Int) - 3) (x / 2 ^ 4 + (i : Int) - 3 + k)) k)), (23, .int .i64 (k : Int)), (70, .bool (decide ((((((((((((checkF W H m) ≠ (0 : Int)) ∨ (x < ((-1048576) : Int))) ∨ ((1048576 : Int) < x)) ∨ (y < ((-1048576) : Int))) ∨ ((1048576 : Int) < y)) ∨ (bw < (4 : Int))) ∨ ((64 : Int) < bw)) ∨ (bh < (4 : Int))) ∨ ((64 : Int) < bh)) ∨ (kd < (0 : Int))) ∨ ((2 : Int) < kd)))), (93, .bool (decide ((j : Int) < (bh + 7)))), (110, .bool (decide ((i : Int) < bw)))] ∧ k ≤ 8)
              (fun k => 8 - k) 0 ?_ ?_
            · -- at the start
              refine ⟨hs49, rfl, by omega⟩
            · -- a round
              rintro k _ w57 ⟨hs57, rfl, f3⟩
              have hsb := tapSum_bd8 (r := 4) (f := fun k => nearF xs W H (y / 2 ^ 4 + (j : Int) - 3) (x / 2 ^ 4 + (i : Int) - 3 + k)) hTx (fun z _ _ => by have := gi_bytes hx (min (max (y / 2 ^ 4 + (j : Int) - 3) 0) (H - 1) * W + min (max (x / 2 ^ 4 + (i : Int) - 3 + z) 0) (W - 1)); unfold nearF; omega) (by decide) k f3
              refine run_seq fun K58 k58 => ?_
              refine run_seq fun K59 k59 => ?_
              refine run_region ?_
              refine Ops.v (Yv.move rfl) ?_
              refine Ops.v (Yv.lt rfl rfl) ?_
              refine Ops.nil ?_
              refine k59 _ _ ?_
              refine run_ifp rfl (fun h60 => ?_) (fun h60 => ?_)
              · -- yes (k : Int) < (8 : Int)
                refine run_skip ?_
                refine k58 _ _ ?_
                refine run_seq fun K61 k61 => ?_
                refine run_block ?_
                refine run_drawn [] (fun x => Below (w57.drew).heap.size (w57.drew) x) ?_ Tf.mixed (by kernel_rfl) (fun _ _ _ h => h)
                have hs62 := hs57.drew
                have hS63 := Below.refl (w57.drew).heap.size (w57.drew)
                refine Drw.a 0 rfl (by kernel_rfl) (Yv.move rfl) ?_
                refine Drw.a 1 rfl (by kernel_rfl) (Yv.move rfl) ?_
                refine Drw.a 2 rfl (by kernel_rfl) (Yv.idxa (o' := ((k : Int)).toNat) R81 rfl rfl (by omega) (by omega) (ho := by omega)) ?_
                refine Drw.l 3 rfl (by kernel_rfl) hS63 (Yv.load A3 rfl (fun _ hq_ => ((hs62.grow hq_).cell 2 rfl _ (gi8_at (by omega) (by omega))))) ?_
                refine Drw.a 4 rfl (by kernel_rfl) (Yv.fld F24_2 rfl) ?_
                refine Drw.l 5 rfl (by kernel_rfl) hS63 (Yv.load A22 rfl (fun _ hq_ => ((hs62.grow hq_).cell 3 rfl 2 rfl))) ?_
                refine Drw.a 6 rfl (by kernel_rfl) (Yv.move rfl) ?_
                refine Drw.a 7 rfl (by kernel_rfl) (Yv.move rfl) ?_
                refine Drw.a 8 rfl (by kernel_rfl) (Yv.shr rfl rfl 4 (by first | rfl | omega) (by omega)) ?_
                refine Drw.a 9 rfl (by kernel_rfl) (Yv.move rfl) ?_
                refine Drw.a 10 rfl (by kernel_rfl) (Yv.add rfl rfl (by omega)) ?_
                refine Drw.a 11 rfl (by kernel_rfl) (Yv.move rfl) ?_
                refine Drw.a 12 rfl (by kernel_rfl) (Yv.add rfl rfl (by omega)) ?_
                refine Drw.a 13 rfl (by kernel_rfl) (Yv.sub rfl rfl (by omega)) ?_
                refine Drw.a 14 rfl (by kernel_rfl) (Yv.fld F24_0 rfl) ?_
                refine Drw.l 15 rfl (by kernel_rfl) hS63 (Yv.load A3 rfl (fun _ hq_ => ((hs62.grow hq_).cell 3 rfl 0 rfl))) ?_
                refine Drw.a 16 rfl (by kernel_rfl) (Yv.sub rfl rfl (by omega)) ?_
                refine Drw.one 17 rfl (by kernel_rfl) (Step.call rfl rfl (rclip_fun (by omega)) (?_) True.intro (by rfl))
                rintro _ _ ⟨rfl, rfl⟩
                refine ⟨fun _ h => h, ?_⟩
                have hpl := place_in (W := W) (H := H) (r := min (max (y / 2 ^ 4 + (j : Int) - 3) 0) (H - 1)) (c := (min (max ((((x / 2 ^ 4) + (i : Int)) + (k : Int)) - 3) (0 : Int)) (W - 1))) (by omega) (by omega) (by omega) (by omega)
                refine Drw.a 18 rfl (by kernel_rfl) (Yv.add rfl rfl (by omega)) ?_
                refine Drw.a 19 rfl (by kernel_rfl) (Yv.idx L22 rfl rfl ((hs62.rd hr).isSome (i := ((min (max (((y / 2 ^ 4) + (j : Int)) - 3) (0 : Int)) (H - 1)) * W) + (min (max ((((x / 2 ^ 4) + (i : Int)) + (k : Int)) - 3) (0 : Int)) (W - 1))) (by omega) (by omega)) (by omega) (by omega)) ?_
                refine Drw.l 20 rfl (by kernel_rfl) hS63 (Yv.load A5 rfl (fun _ hq_ => (((hs62.grow hq_).rd hr).u8 (by omega) (by omega)))) ?_
                have g65 := gi_bytes (xs := xs) hx (((min (max (((y / 2 ^ 4) + (j : Int)) - 3) (0 : Int)) (H - 1)) * W) + (min (max ((((x / 2 ^ 4) + (i : Int)) + (k : Int)) - 3) (0 : Int)) (W - 1)))
                refine Drw.a 21 rfl (by kernel_rfl) (Yv.toInt U3 V5 rfl (by omega)) ?_
                have hab := abs_mul (hTx (k : Int)) (show -255 ≤ (gi xs (((min (max (((y / 2 ^ 4) + (j : Int)) - 3) (0 : Int)) (H - 1)) * W) + (min (max ((((x / 2 ^ 4) + (i : Int)) + (k : Int)) - 3) (0 : Int)) (W - 1)))) ∧ (gi xs (((min (max (((y / 2 ^ 4) + (j : Int)) - 3) (0 : Int)) (H - 1)) * W) + (min (max ((((x / 2 ^ 4) + (i : Int)) + (k : Int)) - 3) (0 : Int)) (W - 1)))) ≤ 255 by omega)
                refine Drw.a 22 rfl (by kernel_rfl) (Yv.mul rfl rfl (by omega)) ?_
                refine Drw.a 23 rfl (by kernel_rfl) (Yv.add rfl rfl (by omega)) ?_
                refine Drw.a 24 rfl (by kernel_rfl) (Yv.assign rfl) ?_
                refine Drw.done ?_ (by kernel_rfl)
                refine k61 _ _ ?_
                refine run_region ?_
                refine Ops.v (Yv.move rfl) ?_
                refine Ops.v (Yv.add rfl rfl (by omega)) ?_
                refine Ops.v (Yv.assign rfl) ?_
                refine Ops.nil ?_
                refine ⟨k + 1, _, ⟨hs62, rfl, by omega⟩, Sub.le ⟨rfl, rfl, rfl, rfl, rfl, rfl, rfl, rfl, rfl, rfl, rfl, rfl, rfl, rfl, rfl, lookI rfl (acr_next (by omega)), lookI rfl (by omega), rfl, rfl, rfl, trivial⟩, by omega⟩
              · -- no
                refine run_exit ?_
                have hk9 : k = 8 := by omega
                refine k55 _ _ ?_
                refine run_region ?_
                refine Ops.v (Yv.move rfl) ?_
                refine Ops.v (Yv.move rfl) ?_
                refine Ops.v (Yv.move rfl) ?_
                have hji := mul_bd (a := (j : Int)) (b := bw) (x := 71) (y := 64) (by omega) (by omega) (by omega) (by omega)
                have hji2 : ((j : Int) + 1) * bw ≤ (bh + 7) * bw := Int.mul_le_mul_of_nonneg_right (by omega) (by omega)
                rw [Int.add_mul, Int.one_mul, Int.mul_comm (bh + 7) bw] at hji2
                refine Ops.v (Yv.mul rfl rfl (by omega)) ?_
                refine Ops.v (Yv.move rfl) ?_
                refine Ops.v (Yv.add rfl rfl (by omega)) ?_
                refine Ops.v (Yv.move rfl) ?_
                refine Ops.v (Yv.shr rfl rfl 3 (by first | rfl | omega) (by omega)) ?_
                refine Ops.v (Yv.idx L45 rfl rfl ((hs57.rdRow 0 rfl).isSome (i := ((j : Int) * bw) + (i : Int)) (by omega) (by omega)) (by omega) (by omega)) ?_
                refine Ops.s (Step.storeRow (vs := [.int .i64 ((tapSum (tapsOut kd (x % 2 ^ 4)) 4 (fun k => nearF xs W H (y / 2 ^ 4 + (j : Int) - 3) (x / 2 ^ 4 + (i : Int) - 3 + k)) k) / 2 ^ 3)]) 0 hs57 rfl rfl rfl rfl S3 (by have hl_ := (hs57.rdRow 0 rfl).len; show (((j : Int) * bw) + (i : Int)).toNat * 1 + 1 ≤ _; omega) (Nat.succ_pos _) rfl (fun w66 hs66 => ?_) True.intro)
                have hs66_ := i64s_put (xs := acrIn xs W H (tapsOut kd (x % 2 ^ 4)) x y bw (bw * (bh + 7)).toNat (j * bw.toNat + i)) (i := (((j : Int) * bw) + (i : Int)).toNat * 1) (v := (tapSum (tapsOut kd (x % 2 ^ 4)) 4 (fun k => nearF xs W H (y / 2 ^ 4 + (j : Int) - 3) (x / 2 ^ 4 + (i : Int) - 3 + k)) k) / 2 ^ 3) (by have hl_ := (hs57.rdRow 0 rfl).len; rw [i64s_length] at hl_; omega)
                simp only [Nat.mul_one] at hs66_
                replace hs66 : HS w [.row (some ⟨b35, 0, none⟩) ((bw * (bh + 7) : Int).toNat) ((bw * (bh + 7) : Int).toNat) (i64s ((acrIn xs W H (tapsOut kd (x % 2 ^ 4)) x y bw (bw * (bh + 7)).toNat (j * bw.toNat + i)).set ((((j : Int) * bw) + (i : Int)).toNat) ((tapSum (tapsOut kd (x % 2 ^ 4)) 4 (fun k => nearF xs W H (y / 2 ^ 4 + (j : Int) - 3) (x / 2 ^ 4 + (i : Int) - 3 + k)) k) / 2 ^ 3))) 3 1, .blk b29 [.int .i64 (gi (tapsOut kd (y % 2 ^ 4)) 0), .int .i64 (gi (tapsOut kd (y % 2 ^ 4)) 1), .int .i64 (gi (tapsOut kd (y % 2 ^ 4)) 2), .int .i64 (gi (tapsOut kd (y % 2 ^ 4)) 3), .int .i64 (gi (tapsOut kd (y % 2 ^ 4)) 4), .int .i64 (gi (tapsOut kd (y % 2 ^ 4)) 5), .int .i64 (gi (tapsOut kd (y % 2 ^ 4)) 6), .int .i64 (gi (tapsOut kd (y % 2 ^ 4)) 7)] 81, .blk b23 [.int .i64 (gi (tapsOut kd (x % 2 ^ 4)) 0), .int .i64 (gi (tapsOut kd (x % 2 ^ 4)) 1), .int .i64 (gi (tapsOut kd (x % 2 ^ 4)) 2), .int .i64 (gi (tapsOut kd (x % 2 ^ 4)) 3), .int .i64 (gi (tapsOut kd (x % 2 ^ 4)) 4), .int .i64 (gi (tapsOut kd (x % 2 ^ 4)) 5), .int .i64 (gi (tapsOut kd (x % 2 ^ 4)) 6), .int .i64 (gi (tapsOut kd (x % 2 ^ 4)) 7)] 81, .blk b2 [.int .i64 W, .int .i64 H, .slice A m c] 24] w66 := by simpa only [List.set, Nat.mul_one, hs66_] using hs66
                refine Ops.nil ?_
                refine k53 _ _ ?_
                refine run_region ?_
                refine Ops.v (Yv.move rfl) ?_
                refine Ops.v (Yv.add rfl rfl (by omega)) ?_
                refine Ops.v (Yv.assign rfl) ?_
                refine Ops.nil ?_
                refine ⟨i + 1, _, ⟨(hs66.to (by subst hk9; exact congrArg (fun l => [Ent.row _ _ _ (i64s l) 3 1, _, _, _]) (acrIn_next2 (by omega) (by omega) (by omega)))), rfl, by omega⟩, Sub.le ⟨rfl, rfl, rfl, rfl, rfl, rfl, rfl, rfl, rfl, rfl, rfl, rfl, rfl, rfl, lookI rfl (by omega), rfl, rfl, trivial⟩, (by show bw.toNat - (i + 1) < bw.toNat - i; omega)⟩
          · -- no
            refine run_exit ?_
            have hi9 : i = bw.toNat := by omega
            refine k43 _ _ ?_
            refine run_region ?_
            refine Ops.v (Yv.move rfl) ?_
            refine Ops.v (Yv.add rfl rfl (by omega)) ?_
            refine Ops.v (Yv.assign rfl) ?_
            refine Ops.nil ?_
            refine ⟨j + 1, _, ⟨(hs49.to (by subst hi9; rw [Nat.succ_mul])), rfl, by omega⟩, Sub.le ⟨rfl, rfl, rfl, rfl, rfl, rfl, rfl, rfl, rfl, rfl, rfl, rfl, lookI rfl (by omega), rfl, trivial⟩, (by show (bh + 7).toNat - (j + 1) < (bh + 7).toNat - j; omega)⟩
      · -- no
        refine run_exit ?_
        have hj9 : j = (bh + 7).toNat := by omega
        have hjn : j * bw.toNat = (bw * (bh + 7)).toNat := by rw [hj9, Int.mul_comm bw, Int.toNat_mul (by omega) (by omega)]
        refine k37 _ _ ?_
        refine run_seq fun K67 k67 => ?_
        refine run_region ?_
        refine Ops.v (Yv.assign rfl) ?_
        refine Ops.nil ?_
        refine k67 _ _ ?_
        refine run_seq fun K68 k68 => ?_
        refine run_seq fun K69 k69 => ?_
        refine run_region ?_
        refine Ops.v (Yv.assign rfl) ?_
        refine Ops.nil ?_
        refine k69 _ _ ?_
        refine run_block ?_
        refine Run.sub [(0, _), (1, _), (2, _), (3, _), (4, _), (5, _), (6, _), (12, _), (13, _), (14, _), (16, _), (18, _), (19, _), (24, _), (25, _), (70, _), (93, _)] ⟨rfl, rfl, rfl, rfl, rfl, rfl, rfl, rfl, rfl, rfl, rfl, rfl, rfl, rfl, rfl, rfl, rfl, trivial⟩ ?_
        refine run_loop (σ := Nat × Option Addr × Nat) (fun (q, A_, c_) e_ w_ => HS w [.row A_ q c_ (u8s (fetchTo xs W H (tapsOut kd (x % 2 ^ 4)) (tapsOut kd (y % 2 ^ 4)) x y bw q)) 5 1, .row (some ⟨b35, 0, none⟩) ((bw * (bh + 7) : Int).toNat) ((bw * (bh + 7) : Int).toNat) (i64s (acrTo xs W H (tapsOut kd (x % 2 ^ 4)) x y bw (bw * (bh + 7)).toNat)) 3 1, .blk b29 [.int .i64 (gi (tapsOut kd (y % 2 ^ 4)) 0), .int .i64 (gi (tapsOut kd (y % 2 ^ 4)) 1), .int .i64 (gi (tapsOut kd (y % 2 ^ 4)) 2), .int .i64 (gi (tapsOut kd (y % 2 ^ 4)) 3), .int .i64 (gi (tapsOut kd (y % 2 ^ 4)) 4), .int .i64 (gi (tapsOut kd (y % 2 ^ 4)) 5), .int .i64 (gi (tapsOut kd (y % 2 ^ 4)) 6), .int .i64 (gi (tapsOut kd (y % 2 ^ 4)) 7)] 81, .blk b23 [.int .i64 (gi (tapsOut kd (x % 2 ^ 4)) 0), .int .i64 (gi (tapsOut kd (x % 2 ^ 4)) 1), .int .i64 (gi (tapsOut kd (x % 2 ^ 4)) 2), .int .i64 (gi (tapsOut kd (x % 2 ^ 4)) 3), .int .i64 (gi (tapsOut kd (x % 2 ^ 4)) 4), .int .i64 (gi (tapsOut kd (x % 2 ^ 4)) 5), .int .i64 (gi (tapsOut kd (x % 2 ^ 4)) 6), .int .i64 (gi (tapsOut kd (x % 2 ^ 4)) 7)] 81, .blk b2 [.int .i64 W, .int .i64 H, .slice A m c] 24] w_ ∧ e_ = [(0, .agg #[.int .i64 W, .int .i64 H, .slice A m c]), (1, .int .i64 x), (2, .int .i64 y), (3, .int .i64 bw), (4, .int .i64 bh), (5, .int .i64 kd), (6, .pointer (some ⟨b2, 0, none⟩)), (12, .slice none 0 0), (13, .int .i64 0), (14, .pointer (some ⟨b23, 0, none⟩)), (16, .pointer (some ⟨b29, 0, none⟩)), (18, .slice (some ⟨b35, 0, none⟩) ((bw * (bh + 7) : Int).toNat) ((bw * (bh + 7) : Int).toNat)), (19, .int .i64 (j : Int)), (24, .slice A_ q c_), (25, .int .i64 (q : Int)), (70, .bool (decide ((((((((((((checkF W H m) ≠ (0 : Int)) ∨ (x < ((-1048576) : Int))) ∨ ((1048576 : Int) < x)) ∨ (y < ((-1048576) : Int))) ∨ ((1048576 : Int) < y)) ∨ (bw < (4 : Int))) ∨ ((64 : Int) < bw)) ∨ (bh < (4 : Int))) ∨ ((64 : Int) < bh)) ∨ (kd < (0 : Int))) ∨ ((2 : Int) < kd)))), (93, .bool (decide ((j : Int) < (bh + 7))))] ∧ (q : Int) ≤ bw * bh)
          (fun (q, A_, c_) => (bw * bh).toNat - q) (0, none, 0) ?_ ?_
        · -- at the start
          refine ⟨((hs39.to (by rw [hjn, acrIn_done])).nilRow 5 1), rfl, by omega⟩
        · -- a round
          rintro ⟨q, A_, c_⟩ _ w70 ⟨hs70, rfl, f4⟩
          have hal := acrTo_length (xs := xs) (W := W) (H := H) (t := (tapsOut kd (x % 2 ^ 4))) (x := x) (y := y) (bw := bw) (bw * (bh + 7)).toNat
          refine run_seq fun K71 k71 => ?_
          refine run_seq fun K72 k72 => ?_
          refine run_region ?_
          refine Ops.v (Yv.move rfl) ?_
          refine Ops.v (Yv.move rfl) ?_
          refine Ops.v (Yv.move rfl) ?_
          refine Ops.v (Yv.mul rfl rfl (by omega)) ?_
          refine Ops.v (Yv.lt rfl rfl) ?_
          refine Ops.nil ?_
          refine k72 _ _ ?_
          refine run_ifp rfl (fun h73 => ?_) (fun h73 => ?_)
          · -- yes (q : Int) < (bw * bh)
            refine run_skip ?_
            refine k71 _ _ ?_
            refine run_seq fun K74 k74 => ?_
            refine run_block ?_
            refine run_seq fun K75 k75 => ?_
            refine run_region ?_
            refine Ops.v (Yv.assign rfl) ?_
            refine Ops.nil ?_
            refine k75 _ _ ?_
            refine run_seq fun K76 k76 => ?_
            refine run_seq fun K77 k77 => ?_
            refine run_region ?_
            refine Ops.v (Yv.assign rfl) ?_
            refine Ops.nil ?_
            refine k77 _ _ ?_
            refine run_block ?_
            refine Run.sub [(0, _), (1, _), (2, _), (3, _), (4, _), (5, _), (6, _), (12, _), (13, _), (14, _), (16, _), (18, _), (19, _), (24, _), (25, _), (26, _), (27, _), (70, _), (93, _), (154, _)] ⟨rfl, rfl, rfl, rfl, rfl, rfl, rfl, rfl, rfl, rfl, rfl, rfl, rfl, rfl, rfl, rfl, rfl, rfl, rfl, rfl, trivial⟩ ?_
            refine run_loop (σ := Nat) (fun k e_ w_ => HS w [.row A_ q c_ (u8s (fetchTo xs W H (tapsOut kd (x % 2 ^ 4)) (tapsOut kd (y % 2 ^ 4)) x y bw q)) 5 1, .row (some ⟨b35, 0, none⟩) ((bw * (bh + 7) : Int).toNat) ((bw * (bh + 7) : Int).toNat) (i64s (acrTo xs W H (tapsOut kd (x % 2 ^ 4)) x y bw (bw * (bh + 7)).toNat)) 3 1, .blk b29 [.int .i64 (gi (tapsOut kd (y % 2 ^ 4)) 0), .int .i64 (gi (tapsOut kd (y % 2 ^ 4)) 1), .int .i64 (gi (tapsOut kd (y % 2 ^ 4)) 2), .int .i64 (gi (tapsOut kd (y % 2 ^ 4)) 3), .int .i64 (gi (tapsOut kd (y % 2 ^ 4)) 4), .int .i64 (gi (tapsOut kd (y % 2 ^ 4)) 5), .int .i64 (gi (tapsOut kd (y % 2 ^ 4)) 6), .int .i64 (gi (tapsOut kd (y % 2 ^ 4)) 7)] 81, .blk b23 [.int .i64 (gi (tapsOut kd (x % 2 ^ 4)) 0), .int .i64 (gi (tapsOut kd (x % 2 ^ 4)) 1), .int .i64 (gi (tapsOut kd (x % 2 ^ 4)) 2), .int .i64 (gi (tapsOut kd (x % 2 ^ 4)) 3), .int .i64 (gi (tapsOut kd (x % 2 ^ 4)) 4), .int .i64 (gi (tapsOut kd (x % 2 ^ 4)) 5), .int .i64 (gi (tapsOut kd (x % 2 ^ 4)) 6), .int .i64 (gi (tapsOut kd (x % 2 ^ 4)) 7)] 81, .blk b2 [.int .i64 W, .int .i64 H, .slice A m c] 24] w_ ∧ e_ = [(0, .agg #[.int .i64 W, .int .i64 H, .slice A m c]), (1, .int .i64 x), (2, .int .i64 y), (3, .int .i64 bw), (4, .int .i64 bh), (5, .int .i64 kd), (6, .pointer (some ⟨b2, 0, none⟩)), (12, .slice none 0 0), (13, .int .i64 0), (14, .pointer (some ⟨b23, 0, none⟩)), (16, .pointer (some ⟨b29, 0, none⟩)), (18, .slice (some ⟨b35, 0, none⟩) ((bw * (bh + 7) : Int).toNat) ((bw * (bh + 7) : Int).toNat)), (19, .int .i64 (j : Int)), (24, .slice A_ q c_), (25, .int .i64 (q : Int)), (26, .int .i64 (tapSum (tapsOut kd (y % 2 ^ 4)) 1024 (fun k => acrossF xs W H (tapsOut kd (x % 2 ^ 4)) x y ((q : Int) / bw + k) ((q : Int) % bw)) k)), (27, .int .i64 (k : Int)), (70, .bool (decide ((((((((((((checkF W H m) ≠ (0 : Int)) ∨ (x < ((-1048576) : Int))) ∨ ((1048576 : Int) < x)) ∨ (y < ((-1048576) : Int))) ∨ ((1048576 : Int) < y)) ∨ (bw < (4 : Int))) ∨ ((64 : Int) < bw)) ∨ (bh < (4 : Int))) ∨ ((64 : Int) < bh)) ∨ (kd < (0 : Int))) ∨ ((2 : Int) < kd)))), (93, .bool (decide ((j : Int) < (bh + 7)))), (154, .bool (decide ((q : Int) < (bw * bh))))] ∧ k ≤ 8)
              (fun k => 8 - k) 0 ?_ ?_
            · -- at the start
              refine ⟨hs70, rfl, by omega⟩
            · -- a round
              rintro k _ w78 ⟨hs78, rfl, f5⟩
              have hsb := tapSum_bd8 (r := 1024) (f := fun k => acrossF xs W H (tapsOut kd (x % 2 ^ 4)) x y ((q : Int) / bw + k) ((q : Int) % bw)) hTy (fun z _ _ => acrossF_bd hx hTx x y _ _) (by decide) k f5
              refine run_seq fun K79 k79 => ?_
              refine run_seq fun K80 k80 => ?_
              refine run_region ?_
              refine Ops.v (Yv.move rfl) ?_
              refine Ops.v (Yv.lt rfl rfl) ?_
              refine Ops.nil ?_
              refine k80 _ _ ?_
              refine run_ifp rfl (fun h81 => ?_) (fun h81 => ?_)
              · -- yes (k : Int) < (8 : Int)
                refine run_skip ?_
                refine k79 _ _ ?_
                refine run_seq fun K82 k82 => ?_
                refine run_block ?_
                refine run_drawn [] (fun x => Below (w78.drew).heap.size (w78.drew) x) ?_ Tf.mixed (by kernel_rfl) (fun _ _ _ h => h)
                have hs83 := hs78.drew
                have hS84 := Below.refl (w78.drew).heap.size (w78.drew)
                refine Drw.a 0 rfl (by kernel_rfl) (Yv.move rfl) ?_
                refine Drw.a 1 rfl (by kernel_rfl) (Yv.move rfl) ?_
                refine Drw.a 2 rfl (by kernel_rfl) (Yv.idxa (o' := ((k : Int)).toNat) R81 rfl rfl (by omega) (by omega) (ho := by omega)) ?_
                refine Drw.l 3 rfl (by kernel_rfl) hS84 (Yv.load A3 rfl (fun _ hq_ => ((hs83.grow hq_).cell 2 rfl _ (gi8_at (by omega) (by omega))))) ?_
                refine Drw.a 4 rfl (by kernel_rfl) (Yv.move rfl) ?_
                refine Drw.a 5 rfl (by kernel_rfl) (Yv.move rfl) ?_
                refine Drw.a 6 rfl (by kernel_rfl) (Yv.move rfl) ?_
                refine Drw.a 7 rfl (by kernel_rfl) (Yv.move rfl) ?_
                have hkb := mul_bd (a := (k : Int)) (b := bw) (x := 7) (y := 64) (by omega) (by omega) (by omega) (by omega)
                have hkb2 : (k : Int) * bw ≤ 7 * bw := Int.mul_le_mul_of_nonneg_right (by omega) (by omega)
                refine Drw.a 8 rfl (by kernel_rfl) (Yv.mul rfl rfl (by omega)) ?_
                refine Drw.a 9 rfl (by kernel_rfl) (Yv.add rfl rfl (by omega)) ?_
                refine Drw.a 10 rfl (by kernel_rfl) (Yv.idx L45 rfl rfl ((hs83.rdRow 1 rfl).isSome (i := (q : Int) + ((k : Int) * bw)) (by omega) (by omega)) (by omega) (by omega)) ?_
                refine Drw.l 11 rfl (by kernel_rfl) hS84 (Yv.load A3 rfl (fun _ hq_ => (((hs83.grow hq_).rdRow 1 rfl).i64 (by omega) (by omega)))) ?_
                have har := acr_read (xs := xs) (W := W) (H := H) (t := (tapsOut kd (x % 2 ^ 4))) (x := x) (y := y) (bw := bw) (n := (bw * (bh + 7)).toNat) (q := q) (k := k) (by omega) (by omega)
                have hab := abs_mul (hTy (k : Int)) (acrossF_bd (W := W) (H := H) hx hTx x y ((q : Int) / bw + (k : Int)) ((q : Int) % bw))
                rw [← har] at hab
                refine Drw.a 12 rfl (by kernel_rfl) (Yv.mul rfl rfl (by omega)) ?_
                refine Drw.a 13 rfl (by kernel_rfl) (Yv.add rfl rfl (by omega)) ?_
                refine Drw.a 14 rfl (by kernel_rfl) (Yv.assign rfl) ?_
                refine Drw.done ?_ (by kernel_rfl)
                refine k82 _ _ ?_
                refine run_region ?_
                refine Ops.v (Yv.move rfl) ?_
                refine Ops.v (Yv.add rfl rfl (by omega)) ?_
                refine Ops.v (Yv.assign rfl) ?_
                refine Ops.nil ?_
                refine ⟨k + 1, _, ⟨hs83, rfl, by omega⟩, Sub.le ⟨rfl, rfl, rfl, rfl, rfl, rfl, rfl, rfl, rfl, rfl, rfl, rfl, rfl, rfl, rfl, lookI rfl (by rw [har]; rfl), lookI rfl (by omega), rfl, rfl, rfl, trivial⟩, by omega⟩
              · -- no
                refine run_exit ?_
                have hk8 : k = 8 := by omega
                refine k76 _ _ ?_
                refine run_region ?_
                refine Ops.v (Yv.move rfl) ?_
                refine Ops.v (Yv.move rfl) ?_
                refine Ops.v (Yv.shr rfl rfl 11 (by first | rfl | omega) (by omega)) ?_
                refine Ops.s (Step.call rfl rfl (rclip_fun (by omega)) (?_) True.intro (by rfl))
                rintro _ _ ⟨rfl, rfl⟩
                refine Ops.v (Yv.toByte U5 V3 rfl (by omega)) ?_
                refine Ops.s (Step.lit (ps := [(0, .int .u8 (min (max ((tapSum (tapsOut kd (y % 2 ^ 4)) 1024 (fun k => acrossF xs W H (tapsOut kd (x % 2 ^ 4)) x y ((q : Int) / bw + k) ((q : Int) % bw)) k) / 2 ^ 11) (0 : Int)) (255 : Int)))]) (cs := [.int .u8 (min (max ((tapSum (tapsOut kd (y % 2 ^ 4)) 1024 (fun k => acrossF xs W H (tapsOut kd (x % 2 ^ 4)) x y ((q : Int) / bw + k) ((q : Int) % bw)) k) / 2 ^ 11) (0 : Int)) (255 : Int))]) hs78 L22 ⟨_, Z5, rfl⟩ rfl (by decide) (by decide) (by kernel_rfl) rfl (by decide) (fun b87 w86 hs86 hb86 => ?_) True.intro (by rfl))
                replace hs86 : HS w [.row (some ⟨b87, 0, none⟩) 1 1 (u8s [min (max ((tapSum (tapsOut kd (y % 2 ^ 4)) 1024 (fun k => acrossF xs W H (tapsOut kd (x % 2 ^ 4)) x y ((q : Int) / bw + k) ((q : Int) % bw)) k) / 2 ^ 11) (0 : Int)) (255 : Int)]) 5 1, .row A_ q c_ (u8s (fetchTo xs W H (tapsOut kd (x % 2 ^ 4)) (tapsOut kd (y % 2 ^ 4)) x y bw q)) 5 1, .row (some ⟨b35, 0, none⟩) ((bw * (bh + 7) : Int).toNat) ((bw * (bh + 7) : Int).toNat) (i64s (acrTo xs W H (tapsOut kd (x % 2 ^ 4)) x y bw (bw * (bh + 7)).toNat)) 3 1, .blk b29 [.int .i64 (gi (tapsOut kd (y % 2 ^ 4)) 0), .int .i64 (gi (tapsOut kd (y % 2 ^ 4)) 1), .int .i64 (gi (tapsOut kd (y % 2 ^ 4)) 2), .int .i64 (gi (tapsOut kd (y % 2 ^ 4)) 3), .int .i64 (gi (tapsOut kd (y % 2 ^ 4)) 4), .int .i64 (gi (tapsOut kd (y % 2 ^ 4)) 5), .int .i64 (gi (tapsOut kd (y % 2 ^ 4)) 6), .int .i64 (gi (tapsOut kd (y % 2 ^ 4)) 7)] 81, .blk b23 [.int .i64 (gi (tapsOut kd (x % 2 ^ 4)) 0), .int .i64 (gi (tapsOut kd (x % 2 ^ 4)) 1), .int .i64 (gi (tapsOut kd (x % 2 ^ 4)) 2), .int .i64 (gi (tapsOut kd (x % 2 ^ 4)) 3), .int .i64 (gi (tapsOut kd (x % 2 ^ 4)) 4), .int .i64 (gi (tapsOut kd (x % 2 ^ 4)) 5), .int .i64 (gi (tapsOut kd (x % 2 ^ 4)) 6), .int .i64 (gi (tapsOut kd (x % 2 ^ 4)) 7)] 81, .blk b2 [.int .i64 W, .int .i64 H, .slice A m c] 24] w86 := hs86
                have by89 : Bytes [min (max ((tapSum (tapsOut kd (y % 2 ^ 4)) 1024 (fun k => acrossF xs W H (tapsOut kd (x % 2 ^ 4)) x y ((q : Int) / bw + k) ((q : Int) % bw)) k) / 2 ^ 11) (0 : Int)) (255 : Int)] := by intro x hx_; simp only [List.mem_cons, List.not_mem_nil, or_false] at hx_; omega
                refine Ops.s (Step.append 1 hs86 rfl rfl L22 Z5 rfl (by decide) rfl (hs86.rdRow 0 rfl) (u8s_one _) (by omega) (by decide) (fun Ad91 c92 w90 hs90 => ?_) True.intro (by rfl))
                replace hs90 : HS w [.row (some ⟨b87, 0, none⟩) 1 1 (u8s [min (max ((tapSum (tapsOut kd (y % 2 ^ 4)) 1024 (fun k => acrossF xs W H (tapsOut kd (x % 2 ^ 4)) x y ((q : Int) / bw + k) ((q : Int) % bw)) k) / 2 ^ 11) (0 : Int)) (255 : Int)]) 5 1, .row Ad91 (q + 1) c92 (u8s ((fetchTo xs W H (tapsOut kd (x % 2 ^ 4)) (tapsOut kd (y % 2 ^ 4)) x y bw q) ++ [min (max ((tapSum (tapsOut kd (y % 2 ^ 4)) 1024 (fun k => acrossF xs W H (tapsOut kd (x % 2 ^ 4)) x y ((q : Int) / bw + k) ((q : Int) % bw)) k) / 2 ^ 11) (0 : Int)) (255 : Int)])) 5 1, .row (some ⟨b35, 0, none⟩) ((bw * (bh + 7) : Int).toNat) ((bw * (bh + 7) : Int).toNat) (i64s (acrTo xs W H (tapsOut kd (x % 2 ^ 4)) x y bw (bw * (bh + 7)).toNat)) 3 1, .blk b29 [.int .i64 (gi (tapsOut kd (y % 2 ^ 4)) 0), .int .i64 (gi (tapsOut kd (y % 2 ^ 4)) 1), .int .i64 (gi (tapsOut kd (y % 2 ^ 4)) 2), .int .i64 (gi (tapsOut kd (y % 2 ^ 4)) 3), .int .i64 (gi (tapsOut kd (y % 2 ^ 4)) 4), .int .i64 (gi (tapsOut kd (y % 2 ^ 4)) 5), .int .i64 (gi (tapsOut kd (y % 2 ^ 4)) 6), .int .i64 (gi (tapsOut kd (y % 2 ^ 4)) 7)] 81, .blk b23 [.int .i64 (gi (tapsOut kd (x % 2 ^ 4)) 0), .int .i64 (gi (tapsOut kd (x % 2 ^ 4)) 1), .int .i64 (gi (tapsOut kd (x % 2 ^ 4)) 2), .int .i64 (gi (tapsOut kd (x % 2 ^ 4)) 3), .int .i64 (gi (tapsOut kd (x % 2 ^ 4)) 4), .int .i64 (gi (tapsOut kd (x % 2 ^ 4)) 5), .int .i64 (gi (tapsOut kd (x % 2 ^ 4)) 6), .int .i64 (gi (tapsOut kd (x % 2 ^ 4)) 7)] 81, .blk b2 [.int .i64 W, .int .i64 H, .slice A m c] 24] w90 := by simpa only [List.set, u8s_append] using hs90
                refine Ops.v (Yv.assign rfl) ?_
                refine Ops.nil ?_
                refine k74 _ _ ?_
                refine run_region ?_
                refine Ops.v (Yv.move rfl) ?_
                refine Ops.v (Yv.add rfl rfl (by omega)) ?_
                refine Ops.v (Yv.assign rfl) ?_
                refine Ops.nil ?_
                refine ⟨(q + 1, Ad91, c92), _, ⟨((hs90.pick [1, 2, 3, 4, 5] [.row Ad91 (q + 1) c92 (u8s ((fetchTo xs W H (tapsOut kd (x % 2 ^ 4)) (tapsOut kd (y % 2 ^ 4)) x y bw q) ++ [min (max ((tapSum (tapsOut kd (y % 2 ^ 4)) 1024 (fun k => acrossF xs W H (tapsOut kd (x % 2 ^ 4)) x y ((q : Int) / bw + k) ((q : Int) % bw)) k) / 2 ^ 11) (0 : Int)) (255 : Int)])) 5 1, .row (some ⟨b35, 0, none⟩) ((bw * (bh + 7) : Int).toNat) ((bw * (bh + 7) : Int).toNat) (i64s (acrTo xs W H (tapsOut kd (x % 2 ^ 4)) x y bw (bw * (bh + 7)).toNat)) 3 1, .blk b29 [.int .i64 (gi (tapsOut kd (y % 2 ^ 4)) 0), .int .i64 (gi (tapsOut kd (y % 2 ^ 4)) 1), .int .i64 (gi (tapsOut kd (y % 2 ^ 4)) 2), .int .i64 (gi (tapsOut kd (y % 2 ^ 4)) 3), .int .i64 (gi (tapsOut kd (y % 2 ^ 4)) 4), .int .i64 (gi (tapsOut kd (y % 2 ^ 4)) 5), .int .i64 (gi (tapsOut kd (y % 2 ^ 4)) 6), .int .i64 (gi (tapsOut kd (y % 2 ^ 4)) 7)] 81, .blk b23 [.int .i64 (gi (tapsOut kd (x % 2 ^ 4)) 0), .int .i64 (gi (tapsOut kd (x % 2 ^ 4)) 1), .int .i64 (gi (tapsOut kd (x % 2 ^ 4)) 2), .int .i64 (gi (tapsOut kd (x % 2 ^ 4)) 3), .int .i64 (gi (tapsOut kd (x % 2 ^ 4)) 4), .int .i64 (gi (tapsOut kd (x % 2 ^ 4)) 5), .int .i64 (gi (tapsOut kd (x % 2 ^ 4)) 6), .int .i64 (gi (tapsOut kd (x % 2 ^ 4)) 7)] 81, .blk b2 [.int .i64 W, .int .i64 H, .slice A m c] 24] (by decide) rfl).to (by subst hk8; rfl)), rfl, by omega⟩, Sub.le ⟨rfl, rfl, rfl, rfl, rfl, rfl, rfl, rfl, rfl, rfl, rfl, rfl, rfl, rfl, lookI rfl (by omega), rfl, rfl, trivial⟩, (by show (bw * bh).toNat - (q + 1) < (bw * bh).toNat - q; omega)⟩
          · -- no
            refine run_exit ?_
            refine k68 _ _ ?_
            refine run_seq fun K93 k93 => ?_
            refine run_region ?_
            refine Ops.v (Yv.move rfl) ?_
            refine Ops.v (Yv.assign rfl) ?_
            refine Ops.v (Yv.assign rfl) ?_
            refine Ops.nil ?_
            refine k93 _ _ ?_
            refine run_ret ?_
            refine ⟨[.slice A_ q c_, .int .i64 0], ⟨_, _, rfl, rfl, ⟨_, _, rfl, rfl, rfl⟩⟩, ?_⟩
            obtain ⟨e1, e2⟩ := fetch_ok (xs := xs) (W := W) (H := H) (m := m) (x := x) (y := y) (bw := bw) (bh := bh) (kd := kd) ⟨hck, hx_, hy_, hw_, hh_, hk0, hk1⟩
            rw [e1, e2, fetchF_length, fetchF, ← etx.2, ← ety.2, show (bw * bh).toNat = q from by omega]
            have hz := hs70.pick [0] [.row A_ q c_ (u8s (fetchTo xs W H (tapsOut kd (x % 2 ^ 4)) (tapsOut kd (y % 2 ^ 4)) x y bw q)) 5 1] (by decide) rfl
            exact ⟨_, _, rfl, hz⟩

end Go.Proofs.Zed
