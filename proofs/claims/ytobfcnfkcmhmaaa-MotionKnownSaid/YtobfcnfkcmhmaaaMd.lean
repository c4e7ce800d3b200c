/- The walks of what is blended (chapter 15). -/
import Derived.Test.YtobfcnfkcmhmaaaMc
set_option linter.unusedVariables false
set_option linter.unusedSimpArgs false
namespace Go.Proofs.Zed
open Go Go.RowKit Tf
attribute [local irreducible] Try.prog

theorem lies_fun {w : World} {A : Option Addr} {m c : Nat} {sw X Y W H : Int} (hm : m ≤ 9223372036854775807) : Fun Try.prog 60 [.slice A m c, .int .i64 sw, .agg #[.int .i64 X, .int .i64 Y, .int .i64 W, .int .i64 H]] w fun v w' => v = .bool (decide (liesP (m : Int) sw X Y W H)) ∧ HS w [] w' := by
  refine fun_run (m := 59) (rs := [.tmp 6]) Try.func60 rfl rfl rfl rfl rfl ?_
  have hs0 := HS.start w
  refine run_seq fun K1 k1 => ?_
  refine run_region ?_
  refine Ops.s (Step.box (cs := [.int .i64 X, .int .i64 Y, .int .i64 W, .int .i64 H]) hs0 rfl rfl (fun b2 w3 hs3 hb3 => ?_) True.intro (by rfl))
  refine Ops.v (Yv.assign rfl) ?_
  refine Ops.nil ?_
  refine k1 _ _ ?_
  refine run_seq fun K5 k5 => ?_
  refine run_seq fun K6 k6 => ?_
  refine Run.cut (fun e_ w_ => w3 = w_ ∧ Le [(0, .slice A m c), (1, .int .i64 sw), (2, .agg #[.int .i64 X, .int .i64 Y, .int .i64 W, .int .i64 H]), (5, .pointer (some ⟨b2, 0, none⟩)), (6, .bool false), (24, .bool (decide (((¬ ((1 : Int) ≤ sw ∧ sw ≤ 64)) ∨ (((m : Int) % sw) ≠ (0 : Int))) ∨ (¬ ((1 : Int) ≤ ((m : Int) / sw) ∧ ((m : Int) / sw) ≤ 64)))))] e_) ?_ ?_
  · -- region 1: its ways meet again
    refine run_region ?_
    refine Ops.v (Yv.move rfl) ?_
    refine Ops.s (Step.call rfl rfl (within_fun) (?_) True.intro (by rfl))
    rintro _ _ ⟨rfl, rfl⟩
    refine Ops.dec (fun h8 => ?_) (fun h8 => ?_)
    · -- yes
      refine Ops.v (Yv.not rfl) ?_
      refine Ops.v (Yv.move rfl) ?_
      refine Ops.vg ⟨_, rfl, rfl⟩ (Yv.move rfl) ?_
      refine Ops.vg ⟨_, rfl, rfl⟩ (Yv.len (by rw [L22]; rfl) rfl) ?_
      refine Ops.vg ⟨_, rfl, rfl⟩ (Yv.move rfl) ?_
      refine Ops.vg ⟨_, rfl, rfl⟩ (Yv.rem rfl rfl (by omega) (by omega)) ?_
      refine Ops.vg ⟨_, rfl, rfl⟩ (Yv.ne rfl rfl) ?_
      refine Ops.dec (fun h9 => ?_) (fun h9 => ?_)
      · -- yes
        refine Ops.v (Yv.pick0 rfl rfl) ?_
        refine Ops.v (Yv.move rfl) ?_
        refine Ops.skip ⟨_, rfl, rfl⟩ ?_
        refine Ops.skip ⟨_, rfl, rfl⟩ ?_
        refine Ops.skip ⟨_, rfl, rfl⟩ ?_
        refine Ops.skip ⟨_, rfl, rfl⟩ ?_
        refine Ops.skip ⟨_, rfl, rfl⟩ ?_
        refine Ops.skip ⟨_, rfl, rfl⟩ ?_
        refine Ops.v (Yv.pick1 rfl rfl) ?_
        refine Ops.nil ?_
        refine ⟨rfl, Sub.le ⟨rfl, rfl, rfl, rfl, rfl, lookB rfl (by first | (simp only [h8, h9, ne_eq, not_true_eq_false, not_false_eq_true, or_true, true_or, or_false, false_or, and_true, true_and, and_false, false_and, decide_true, decide_false, or_self, and_self, Bool.decide_eq_true]; done) | simp [h8, h9]), trivial⟩⟩
      · -- no
        refine Ops.v (Yv.pick0 rfl rfl) ?_
        refine Ops.v (Yv.move rfl) ?_
        refine Ops.vg ⟨_, rfl, rfl⟩ (Yv.move rfl) ?_
        refine Ops.vg ⟨_, rfl, rfl⟩ (Yv.len (by rw [L22]; rfl) rfl) ?_
        refine Ops.vg ⟨_, rfl, rfl⟩ (Yv.move rfl) ?_
        have hd := div_bd (a := (m : Int)) (b := sw) (by omega) (by omega)
        refine Ops.vg ⟨_, rfl, rfl⟩ (Yv.quo rfl rfl (by omega) (by omega) (by omega)) ?_
        refine Ops.s (Step.call rfl rfl (within_fun) (?_) ⟨_, rfl, rfl⟩ (by rfl))
        rintro _ _ ⟨rfl, rfl⟩
        refine Ops.vg ⟨_, rfl, rfl⟩ (Yv.notp rfl) ?_
        refine Ops.v (Yv.pick0 rfl rfl) ?_
        refine Ops.nil ?_
        refine ⟨rfl, Sub.le ⟨rfl, rfl, rfl, rfl, rfl, lookB rfl (by first | (simp only [h8, h9, ne_eq, not_true_eq_false, not_false_eq_true, or_true, true_or, or_false, false_or, and_true, true_and, and_false, false_and, decide_true, decide_false, or_self, and_self, Bool.decide_eq_true]; done) | simp [h8, h9]), trivial⟩⟩
    · -- no
      refine Ops.v (Yv.not rfl) ?_
      refine Ops.v (Yv.move rfl) ?_
      refine Ops.skip ⟨_, rfl, rfl⟩ ?_
      refine Ops.skip ⟨_, rfl, rfl⟩ ?_
      refine Ops.skip ⟨_, rfl, rfl⟩ ?_
      refine Ops.skip ⟨_, rfl, rfl⟩ ?_
      refine Ops.skip ⟨_, rfl, rfl⟩ ?_
      refine Ops.v (Yv.pick1 rfl rfl) ?_
      refine Ops.v (Yv.move rfl) ?_
      refine Ops.skip ⟨_, rfl, rfl⟩ ?_
      refine Ops.skip ⟨_, rfl, rfl⟩ ?_
      refine Ops.skip ⟨_, rfl, rfl⟩ ?_
      refine Ops.skip ⟨_, rfl, rfl⟩ ?_
      refine Ops.skip ⟨_, rfl, rfl⟩ ?_
      refine Ops.skip ⟨_, rfl, rfl⟩ ?_
      refine Ops.v (Yv.pick1 rfl rfl) ?_
      refine Ops.nil ?_
      refine ⟨rfl, Sub.le ⟨rfl, rfl, rfl, rfl, rfl, lookB rfl (by first | (simp only [h8, ne_eq, not_true_eq_false, not_false_eq_true, or_true, true_or, or_false, false_or, and_true, true_and, and_false, false_and, decide_true, decide_false, or_self, and_self, Bool.decide_eq_true]; done) | simp [h8]), trivial⟩⟩
  rintro e11 _ ⟨rfl, he11⟩
  refine k6 _ _ ?_
  refine Run.le he11 ?_
  refine run_ifp rfl (fun h12 => ?_) (fun h12 => ?_)
  · -- yes ((¬ ((1 : Int) ≤ sw ∧ sw ≤ 64)) ∨ (((m : Int) % sw) ≠ (0 : Int))) ∨ (¬ ((1 : Int) ≤ ((m : Int) / sw) ∧ ((m : Int) / sw) ≤ 64))
    refine run_seq fun K13 k13 => ?_
    refine run_region ?_
    refine Ops.v (Yv.assign rfl) ?_
    refine Ops.nil ?_
    refine k13 _ _ ?_
    refine run_ret ?_
    refine ⟨[.bool false], ⟨_, _, rfl, rfl, rfl⟩, ?_⟩
    exact ⟨congrArg Value.bool (decide_eq_false (by unfold liesP; omega)).symm, hs3.pick [] _ (by decide) rfl⟩
  · -- no
    refine run_skip ?_
    refine k5 _ _ ?_
    refine run_seq fun K14 k14 => ?_
    refine Run.cut (fun e_ w_ => HS w [.blk b2 [.int .i64 X, .int .i64 Y, .int .i64 W, .int .i64 H] 29] w_ ∧ Le [(0, .slice A m c), (1, .int .i64 sw), (2, .agg #[.int .i64 X, .int .i64 Y, .int .i64 W, .int .i64 H]), (5, .pointer (some ⟨b2, 0, none⟩)), (6, .bool (decide (((((1 : Int) ≤ W ∧ W ≤ sw) ∧ ((0 : Int) ≤ X ∧ X ≤ (sw - W))) ∧ ((1 : Int) ≤ H ∧ H ≤ ((m : Int) / sw))) ∧ ((0 : Int) ≤ Y ∧ Y ≤ (((m : Int) / sw) - H))))), (24, .bool (decide (((¬ ((1 : Int) ≤ sw ∧ sw ≤ 64)) ∨ (((m : Int) % sw) ≠ (0 : Int))) ∨ (¬ ((1 : Int) ≤ ((m : Int) / sw) ∧ ((m : Int) / sw) ≤ 64)))))] e_) ?_ ?_
    · -- region 3: its ways meet again
      refine run_drawn [] (fun x => Below (w3.drew).heap.size (w3.drew) x) ?_ Tf.mixed (by kernel_rfl) (fun _ _ _ h => h)
      have hs15 := hs3.drew
      have hS16 := Below.refl (w3.drew).heap.size (w3.drew)
      refine Drw.a 0 rfl (by kernel_rfl) (Yv.fld F29_2 rfl) ?_
      refine Drw.l 1 rfl (by kernel_rfl) hS16 (Yv.load A3 rfl (fun _ hq_ => ((hs15.grow hq_).cell 0 rfl 2 rfl))) ?_
      refine Drw.a 2 rfl (by kernel_rfl) (Yv.move rfl) ?_
      refine Drw.one 3 rfl (by kernel_rfl) (Step.call rfl rfl (within_fun) (?_) True.intro (by rfl))
      rintro _ _ ⟨rfl, rfl⟩
      refine ⟨fun _ h => h, ?_⟩
      refine Drw.dec (fun h18 => ?_) (fun h18 => ?_)
      · -- yes
        refine Drw.a 4 rfl (by kernel_rfl) (Yv.move rfl) ?_
        refine Drw.a 5 rfl (by kernel_rfl) (Yv.fld F29_0 rfl) ?_ ⟨_, rfl, rfl⟩
        refine Drw.l 6 rfl (by kernel_rfl) hS16 (Yv.load A3 rfl (fun _ hq_ => ((hs15.grow hq_).cell 0 rfl 0 rfl))) ?_ ⟨_, rfl, rfl⟩
        refine Drw.a 7 rfl (by kernel_rfl) (Yv.move rfl) ?_ ⟨_, rfl, rfl⟩
        refine Drw.a 8 rfl (by kernel_rfl) (Yv.fld F29_2 rfl) ?_ ⟨_, rfl, rfl⟩
        refine Drw.l 9 rfl (by kernel_rfl) hS16 (Yv.load A3 rfl (fun _ hq_ => ((hs15.grow hq_).cell 0 rfl 2 rfl))) ?_ ⟨_, rfl, rfl⟩
        refine Drw.a 10 rfl (by kernel_rfl) (Yv.sub rfl rfl (by omega)) ?_ ⟨_, rfl, rfl⟩
        refine Drw.one 11 rfl (by kernel_rfl) (Step.call rfl rfl (within_fun) (?_) ⟨_, rfl, rfl⟩ (by rfl))
        rintro _ _ ⟨rfl, rfl⟩
        refine ⟨fun _ h => h, ?_⟩
        refine Drw.dec (fun h20 => ?_) (fun h20 => ?_)
        · -- yes
          refine Drw.a 12 rfl (by kernel_rfl) (Yv.pick1 rfl rfl) ?_
          refine Drw.a 13 rfl (by kernel_rfl) (Yv.move rfl) ?_
          refine Drw.a 14 rfl (by kernel_rfl) (Yv.fld F29_3 rfl) ?_ ⟨_, rfl, rfl⟩
          refine Drw.l 15 rfl (by kernel_rfl) hS16 (Yv.load A3 rfl (fun _ hq_ => ((hs15.grow hq_).cell 0 rfl 3 rfl))) ?_ ⟨_, rfl, rfl⟩
          refine Drw.a 16 rfl (by kernel_rfl) (Yv.move rfl) ?_ ⟨_, rfl, rfl⟩
          refine Drw.a 17 rfl (by kernel_rfl) (Yv.len (by rw [L22]; rfl) rfl) ?_ ⟨_, rfl, rfl⟩
          refine Drw.a 18 rfl (by kernel_rfl) (Yv.move rfl) ?_ ⟨_, rfl, rfl⟩
          have hd := div_bd (a := (m : Int)) (b := sw) (by omega) (by omega)
          refine Drw.a 19 rfl (by kernel_rfl) (Yv.quo rfl rfl (by omega) (by omega) (by omega)) ?_ ⟨_, rfl, rfl⟩
          refine Drw.one 20 rfl (by kernel_rfl) (Step.call rfl rfl (within_fun) (?_) ⟨_, rfl, rfl⟩ (by rfl))
          rintro _ _ ⟨rfl, rfl⟩
          refine ⟨fun _ h => h, ?_⟩
          refine Drw.dec (fun h22 => ?_) (fun h22 => ?_)
          · -- yes
            refine Drw.a 21 rfl (by kernel_rfl) (Yv.pick1 rfl rfl) ?_
            refine Drw.a 22 rfl (by kernel_rfl) (Yv.move rfl) ?_
            refine Drw.a 23 rfl (by kernel_rfl) (Yv.fld F29_1 rfl) ?_ ⟨_, rfl, rfl⟩
            refine Drw.l 24 rfl (by kernel_rfl) hS16 (Yv.load A3 rfl (fun _ hq_ => ((hs15.grow hq_).cell 0 rfl 1 rfl))) ?_ ⟨_, rfl, rfl⟩
            refine Drw.a 25 rfl (by kernel_rfl) (Yv.move rfl) ?_ ⟨_, rfl, rfl⟩
            refine Drw.a 26 rfl (by kernel_rfl) (Yv.len (by rw [L22]; rfl) rfl) ?_ ⟨_, rfl, rfl⟩
            refine Drw.a 27 rfl (by kernel_rfl) (Yv.move rfl) ?_ ⟨_, rfl, rfl⟩
            refine Drw.a 28 rfl (by kernel_rfl) (Yv.quo rfl rfl (by omega) (by omega) (by omega)) ?_ ⟨_, rfl, rfl⟩
            refine Drw.a 29 rfl (by kernel_rfl) (Yv.fld F29_3 rfl) ?_ ⟨_, rfl, rfl⟩
            refine Drw.l 30 rfl (by kernel_rfl) hS16 (Yv.load A3 rfl (fun _ hq_ => ((hs15.grow hq_).cell 0 rfl 3 rfl))) ?_ ⟨_, rfl, rfl⟩
            refine Drw.a 31 rfl (by kernel_rfl) (Yv.sub rfl rfl (by omega)) ?_ ⟨_, rfl, rfl⟩
            refine Drw.one 32 rfl (by kernel_rfl) (Step.call rfl rfl (within_fun) (?_) ⟨_, rfl, rfl⟩ (by rfl))
            rintro _ _ ⟨rfl, rfl⟩
            refine ⟨fun _ h => h, ?_⟩
            refine Drw.a 33 rfl (by kernel_rfl) (Yv.pick1 rfl rfl) ?_
            refine Drw.a 34 rfl (by kernel_rfl) (Yv.assign rfl) ?_
            refine Drw.done ?_ (by kernel_rfl)
            refine ⟨hs15, Sub.le ⟨rfl, rfl, rfl, rfl, lookB rfl (by first | (simp only [h18, h20, h22, ne_eq, not_true_eq_false, not_false_eq_true, or_true, true_or, or_false, false_or, and_true, true_and, and_false, false_and, decide_true, decide_false, or_self, and_self, Bool.decide_eq_true]; done) | simp [h18, h20, h22]), rfl, trivial⟩⟩
          · -- no
            refine Drw.a 21 rfl (by kernel_rfl) (Yv.pick1 rfl rfl) ?_
            refine Drw.a 22 rfl (by kernel_rfl) (Yv.move rfl) ?_
            refine Drw.no 23 rfl (by kernel_rfl) ?_ ⟨_, rfl, rfl⟩
            refine Drw.no 24 rfl (by kernel_rfl) ?_ ⟨_, rfl, rfl⟩
            refine Drw.no 25 rfl (by kernel_rfl) ?_ ⟨_, rfl, rfl⟩
            refine Drw.no 26 rfl (by kernel_rfl) ?_ ⟨_, rfl, rfl⟩
            refine Drw.no 27 rfl (by kernel_rfl) ?_ ⟨_, rfl, rfl⟩
            refine Drw.no 28 rfl (by kernel_rfl) ?_ ⟨_, rfl, rfl⟩
            refine Drw.no 29 rfl (by kernel_rfl) ?_ ⟨_, rfl, rfl⟩
            refine Drw.no 30 rfl (by kernel_rfl) ?_ ⟨_, rfl, rfl⟩
            refine Drw.no 31 rfl (by kernel_rfl) ?_ ⟨_, rfl, rfl⟩
            refine Drw.no 32 rfl (by kernel_rfl) ?_ ⟨_, rfl, rfl⟩
            refine Drw.a 33 rfl (by kernel_rfl) (Yv.pick0 rfl rfl) ?_
            refine Drw.a 34 rfl (by kernel_rfl) (Yv.assign rfl) ?_
            refine Drw.done ?_ (by kernel_rfl)
            refine ⟨hs15, Sub.le ⟨rfl, rfl, rfl, rfl, lookB rfl (by first | (simp only [h18, h20, h22, ne_eq, not_true_eq_false, not_false_eq_true, or_true, true_or, or_false, false_or, and_true, true_and, and_false, false_and, decide_true, decide_false, or_self, and_self, Bool.decide_eq_true]; done) | simp [h18, h20, h22]), rfl, trivial⟩⟩
        · -- no
          refine Drw.a 12 rfl (by kernel_rfl) (Yv.pick1 rfl rfl) ?_
          refine Drw.a 13 rfl (by kernel_rfl) (Yv.move rfl) ?_
          refine Drw.no 14 rfl (by kernel_rfl) ?_ ⟨_, rfl, rfl⟩
          refine Drw.no 15 rfl (by kernel_rfl) ?_ ⟨_, rfl, rfl⟩
          refine Drw.no 16 rfl (by kernel_rfl) ?_ ⟨_, rfl, rfl⟩
          refine Drw.no 17 rfl (by kernel_rfl) ?_ ⟨_, rfl, rfl⟩
          refine Drw.no 18 rfl (by kernel_rfl) ?_ ⟨_, rfl, rfl⟩
          refine Drw.no 19 rfl (by kernel_rfl) ?_ ⟨_, rfl, rfl⟩
          refine Drw.no 20 rfl (by kernel_rfl) ?_ ⟨_, rfl, rfl⟩
          refine Drw.a 21 rfl (by kernel_rfl) (Yv.pick0 rfl rfl) ?_
          refine Drw.a 22 rfl (by kernel_rfl) (Yv.move rfl) ?_
          refine Drw.no 23 rfl (by kernel_rfl) ?_ ⟨_, rfl, rfl⟩
          refine Drw.no 24 rfl (by kernel_rfl) ?_ ⟨_, rfl, rfl⟩
          refine Drw.no 25 rfl (by kernel_rfl) ?_ ⟨_, rfl, rfl⟩
          refine Drw.no 26 rfl (by kernel_rfl) ?_ ⟨_, rfl, rfl⟩
          refine Drw.no 27 rfl (by kernel_rfl) ?_ ⟨_, rfl, rfl⟩
          refine Drw.no 28 rfl (by kernel_rfl) ?_ ⟨_, rfl, rfl⟩
          refine Drw.no 29 rfl (by kernel_rfl) ?_ ⟨_, rfl, rfl⟩
          refine Drw.no 30 rfl (by kernel_rfl) ?_ ⟨_, rfl, rfl⟩
          refine Drw.no 31 rfl (by kernel_rfl) ?_ ⟨_, rfl, rfl⟩
          refine Drw.no 32 rfl (by kernel_rfl) ?_ ⟨_, rfl, rfl⟩
          refine Drw.a 33 rfl (by kernel_rfl) (Yv.pick0 rfl rfl) ?_
          refine Drw.a 34 rfl (by kernel_rfl) (Yv.assign rfl) ?_
          refine Drw.done ?_ (by kernel_rfl)
          refine ⟨hs15, Sub.le ⟨rfl, rfl, rfl, rfl, lookB rfl (by first | (simp only [h18, h20, ne_eq, not_true_eq_false, not_false_eq_true, or_true, true_or, or_false, false_or, and_true, true_and, and_false, false_and, decide_true, decide_false, or_self, and_self, Bool.decide_eq_true]; done) | simp [h18, h20]), rfl, trivial⟩⟩
      · -- no
        refine Drw.a 4 rfl (by kernel_rfl) (Yv.move rfl) ?_
        refine Drw.no 5 rfl (by kernel_rfl) ?_ ⟨_, rfl, rfl⟩
        refine Drw.no 6 rfl (by kernel_rfl) ?_ ⟨_, rfl, rfl⟩
        refine Drw.no 7 rfl (by kernel_rfl) ?_ ⟨_, rfl, rfl⟩
        refine Drw.no 8 rfl (by kernel_rfl) ?_ ⟨_, rfl, rfl⟩
        refine Drw.no 9 rfl (by kernel_rfl) ?_ ⟨_, rfl, rfl⟩
        refine Drw.no 10 rfl (by kernel_rfl) ?_ ⟨_, rfl, rfl⟩
        refine Drw.no 11 rfl (by kernel_rfl) ?_ ⟨_, rfl, rfl⟩
        refine Drw.a 12 rfl (by kernel_rfl) (Yv.pick0 rfl rfl) ?_
        refine Drw.a 13 rfl (by kernel_rfl) (Yv.move rfl) ?_
        refine Drw.no 14 rfl (by kernel_rfl) ?_ ⟨_, rfl, rfl⟩
        refine Drw.no 15 rfl (by kernel_rfl) ?_ ⟨_, rfl, rfl⟩
        refine Drw.no 16 rfl (by kernel_rfl) ?_ ⟨_, rfl, rfl⟩
        refine Drw.no 17 rfl (by kernel_rfl) ?_ ⟨_, rfl, rfl⟩
        refine Drw.no 18 rfl (by kernel_rfl) ?_ ⟨_, rfl, rfl⟩
        refine Drw.no 19 rfl (by kernel_rfl) ?_ ⟨_, rfl, rfl⟩
        refine Drw.no 20 rfl (by kernel_rfl) ?_ ⟨_, rfl, rfl⟩
        refine Drw.a 21 rfl (by kernel_rfl) (Yv.pick0 rfl rfl) ?_
        refine Drw.a 22 rfl (by kernel_rfl) (Yv.move rfl) ?_
        refine Drw.no 23 rfl (by kernel_rfl) ?_ ⟨_, rfl, rfl⟩
        refine Drw.no 24 rfl (by kernel_rfl) ?_ ⟨_, rfl, rfl⟩
        refine Drw.no 25 rfl (by kernel_rfl) ?_ ⟨_, rfl, rfl⟩
        refine Drw.no 26 rfl (by kernel_rfl) ?_ ⟨_, rfl, rfl⟩
        refine Drw.no 27 rfl (by kernel_rfl) ?_ ⟨_, rfl, rfl⟩
        refine Drw.no 28 rfl (by kernel_rfl) ?_ ⟨_, rfl, rfl⟩
        refine Drw.no 29 rfl (by kernel_rfl) ?_ ⟨_, rfl, rfl⟩
        refine Drw.no 30 rfl (by kernel_rfl) ?_ ⟨_, rfl, rfl⟩
        refine Drw.no 31 rfl (by kernel_rfl) ?_ ⟨_, rfl, rfl⟩
        refine Drw.no 32 rfl (by kernel_rfl) ?_ ⟨_, rfl, rfl⟩
        refine Drw.a 33 rfl (by kernel_rfl) (Yv.pick0 rfl rfl) ?_
        refine Drw.a 34 rfl (by kernel_rfl) (Yv.assign rfl) ?_
        refine Drw.done ?_ (by kernel_rfl)
        refine ⟨hs15, Sub.le ⟨rfl, rfl, rfl, rfl, lookB rfl (by first | (simp only [h18, ne_eq, not_true_eq_false, not_false_eq_true, or_true, true_or, or_false, false_or, and_true, true_and, and_false, false_and, decide_true, decide_false, or_self, and_self, Bool.decide_eq_true]; done) | simp [h18]), rfl, trivial⟩⟩
    rintro e24 w24 ⟨hs24, he24⟩
    refine k14 _ _ ?_
    refine Run.le he24 ?_
    refine run_ret ?_
    refine ⟨[.bool (decide (((((1 : Int) ≤ W ∧ W ≤ sw) ∧ ((0 : Int) ≤ X ∧ X ≤ (sw - W))) ∧ ((1 : Int) ≤ H ∧ H ≤ ((m : Int) / sw))) ∧ ((0 : Int) ≤ Y ∧ Y ≤ (((m : Int) / sw) - H))))], ⟨_, _, rfl, rfl, rfl⟩, ?_⟩
    exact ⟨congrArg Value.bool (decide_eq_decide.2 (by unfold liesP; omega)), hs24.pick [] _ (by decide) rfl⟩

theorem rwithin5_fun {w : World} {pW pH : Int} {A : Option Addr} {m c : Nat} {X Y W H : Int} (hpw : pW ≤ 1000000) (hph : pH ≤ 1000000) : Fun Try.prog 61 [.agg #[.int .i64 pW, .int .i64 pH, .slice A m c], .agg #[.int .i64 X, .int .i64 Y, .int .i64 W, .int .i64 H]] w fun v w' => v = .bool (decide ((1 ≤ W ∧ 1 ≤ H ∧ 0 ≤ X ∧ 0 ≤ Y) ∧ W ≤ pW ∧ H ≤ pH ∧ X ≤ pW - W ∧ Y ≤ pH - H)) ∧ HS w [] w' := by
  refine fun_run (m := 57) (rs := [.tmp 4]) Try.func61 rfl rfl rfl rfl rfl ?_
  have hs0 := HS.start w
  refine run_seq fun K1 k1 => ?_
  refine run_region ?_
  refine Ops.s (Step.box (cs := [.int .i64 pW, .int .i64 pH, .slice A m c]) hs0 rfl rfl (fun b2 w3 hs3 hb3 => ?_) True.intro (by rfl))
  refine Ops.s (Step.box (cs := [.int .i64 X, .int .i64 Y, .int .i64 W, .int .i64 H]) hs3 rfl rfl (fun b5 w6 hs6 hb6 => ?_) True.intro (by rfl))
  refine Ops.v (Yv.assign rfl) ?_
  refine Ops.nil ?_
  refine k1 _ _ ?_
  refine run_seq fun K8 k8 => ?_
  refine Run.cut (fun e_ w_ => w6 = w_ ∧ Le [(0, .agg #[.int .i64 pW, .int .i64 pH, .slice A m c]), (1, .agg #[.int .i64 X, .int .i64 Y, .int .i64 W, .int .i64 H]), (2, .pointer (some ⟨b2, 0, none⟩)), (3, .pointer (some ⟨b5, 0, none⟩)), (4, .bool (decide (((((((((1 : Int) ≤ W) ∧ ((1 : Int) ≤ H)) ∧ ((0 : Int) ≤ X)) ∧ ((0 : Int) ≤ Y)) ∧ (W ≤ pW)) ∧ (H ≤ pH)) ∧ (X ≤ (pW - W))) ∧ (Y ≤ (pH - H)))))] e_) ?_ ?_
  · -- region 1: its ways meet again
    refine run_region' _ rfl ?_
    refine Ops.v (Yv.fld F29_2 rfl) ?_
    refine Ops.v (Yv.load A3 rfl (now (hs6.cell 0 rfl 2 rfl))) ?_
    refine Ops.v (Yv.ge rfl rfl) ?_
    refine Ops.dec (fun h9 => ?_) (fun h9 => ?_)
    · -- yes
      refine Ops.v (Yv.move rfl) ?_
      refine Ops.vg ⟨_, rfl, rfl⟩ (Yv.fld F29_3 rfl) ?_
      refine Ops.vg ⟨_, rfl, rfl⟩ (Yv.load A3 rfl (now (hs6.cell 0 rfl 3 rfl))) ?_
      refine Ops.vg ⟨_, rfl, rfl⟩ (Yv.ge rfl rfl) ?_
      refine Ops.dec (fun h10 => ?_) (fun h10 => ?_)
      · -- yes
        refine Ops.v (Yv.pick1 rfl rfl) ?_
        refine Ops.v (Yv.move rfl) ?_
        refine Ops.vg ⟨_, rfl, rfl⟩ (Yv.fld F29_0 rfl) ?_
        refine Ops.vg ⟨_, rfl, rfl⟩ (Yv.load A3 rfl (now (hs6.cell 0 rfl 0 rfl))) ?_
        refine Ops.vg ⟨_, rfl, rfl⟩ (Yv.ge rfl rfl) ?_
        refine Ops.dec (fun h11 => ?_) (fun h11 => ?_)
        · -- yes
          refine Ops.v (Yv.pick1 rfl rfl) ?_
          refine Ops.v (Yv.move rfl) ?_
          refine Ops.vg ⟨_, rfl, rfl⟩ (Yv.fld F29_1 rfl) ?_
          refine Ops.vg ⟨_, rfl, rfl⟩ (Yv.load A3 rfl (now (hs6.cell 0 rfl 1 rfl))) ?_
          refine Ops.vg ⟨_, rfl, rfl⟩ (Yv.ge rfl rfl) ?_
          refine Ops.dec (fun h12 => ?_) (fun h12 => ?_)
          · -- yes
            refine Ops.v (Yv.pick1 rfl rfl) ?_
            refine Ops.v (Yv.move rfl) ?_
            refine Ops.vg ⟨_, rfl, rfl⟩ (Yv.fld F29_2 rfl) ?_
            refine Ops.vg ⟨_, rfl, rfl⟩ (Yv.load A3 rfl (now (hs6.cell 0 rfl 2 rfl))) ?_
            refine Ops.vg ⟨_, rfl, rfl⟩ (Yv.fld F24_0 rfl) ?_
            refine Ops.vg ⟨_, rfl, rfl⟩ (Yv.load A3 rfl (now (hs6.cell 1 rfl 0 rfl))) ?_
            refine Ops.vg ⟨_, rfl, rfl⟩ (Yv.le rfl rfl) ?_
            refine Ops.dec (fun h13 => ?_) (fun h13 => ?_)
            · -- yes
              refine Ops.v (Yv.pick1 rfl rfl) ?_
              refine Ops.v (Yv.move rfl) ?_
              refine Ops.vg ⟨_, rfl, rfl⟩ (Yv.fld F29_3 rfl) ?_
              refine Ops.vg ⟨_, rfl, rfl⟩ (Yv.load A3 rfl (now (hs6.cell 0 rfl 3 rfl))) ?_
              refine Ops.vg ⟨_, rfl, rfl⟩ (Yv.fld F24_1 rfl) ?_
              refine Ops.vg ⟨_, rfl, rfl⟩ (Yv.load A3 rfl (now (hs6.cell 1 rfl 1 rfl))) ?_
              refine Ops.vg ⟨_, rfl, rfl⟩ (Yv.le rfl rfl) ?_
              refine Ops.dec (fun h14 => ?_) (fun h14 => ?_)
              · -- yes
                refine Ops.v (Yv.pick1 rfl rfl) ?_
                refine Ops.v (Yv.move rfl) ?_
                refine Ops.vg ⟨_, rfl, rfl⟩ (Yv.fld F29_0 rfl) ?_
                refine Ops.vg ⟨_, rfl, rfl⟩ (Yv.load A3 rfl (now (hs6.cell 0 rfl 0 rfl))) ?_
                refine Ops.vg ⟨_, rfl, rfl⟩ (Yv.fld F24_0 rfl) ?_
                refine Ops.vg ⟨_, rfl, rfl⟩ (Yv.load A3 rfl (now (hs6.cell 1 rfl 0 rfl))) ?_
                refine Ops.vg ⟨_, rfl, rfl⟩ (Yv.fld F29_2 rfl) ?_
                refine Ops.vg ⟨_, rfl, rfl⟩ (Yv.load A3 rfl (now (hs6.cell 0 rfl 2 rfl))) ?_
                refine Ops.vg ⟨_, rfl, rfl⟩ (Yv.sub rfl rfl (by omega)) ?_
                refine Ops.vg ⟨_, rfl, rfl⟩ (Yv.le rfl rfl) ?_
                refine Ops.dec (fun h15 => ?_) (fun h15 => ?_)
                · -- yes
                  refine Ops.v (Yv.pick1 rfl rfl) ?_
                  refine Ops.v (Yv.move rfl) ?_
                  refine Ops.vg ⟨_, rfl, rfl⟩ (Yv.fld F29_1 rfl) ?_
                  refine Ops.vg ⟨_, rfl, rfl⟩ (Yv.load A3 rfl (now (hs6.cell 0 rfl 1 rfl))) ?_
                  refine Ops.vg ⟨_, rfl, rfl⟩ (Yv.fld F24_1 rfl) ?_
                  refine Ops.vg ⟨_, rfl, rfl⟩ (Yv.load A3 rfl (now (hs6.cell 1 rfl 1 rfl))) ?_
                  refine Ops.vg ⟨_, rfl, rfl⟩ (Yv.fld F29_3 rfl) ?_
                  refine Ops.vg ⟨_, rfl, rfl⟩ (Yv.load A3 rfl (now (hs6.cell 0 rfl 3 rfl))) ?_
                  refine Ops.vg ⟨_, rfl, rfl⟩ (Yv.sub rfl rfl (by omega)) ?_
                  refine Ops.vg ⟨_, rfl, rfl⟩ (Yv.le rfl rfl) ?_
                  refine Ops.v (Yv.pick1 rfl rfl) ?_
                  refine Ops.v (Yv.assign rfl) ?_
                  refine Ops.nil ?_
                  refine ⟨rfl, Sub.le ⟨rfl, rfl, rfl, rfl, lookB rfl (by first | (simp only [h9, h10, h11, h12, h13, h14, h15, ne_eq, not_true_eq_false, not_false_eq_true, or_true, true_or, or_false, false_or, and_true, true_and, and_false, false_and, decide_true, decide_false, or_self, and_self, Bool.decide_eq_true]; done) | simp [h9, h10, h11, h12, h13, h14, h15]), trivial⟩⟩
                · -- no
                  refine Ops.v (Yv.pick1 rfl rfl) ?_
                  refine Ops.v (Yv.move rfl) ?_
                  refine Ops.skip ⟨_, rfl, rfl⟩ ?_
                  refine Ops.skip ⟨_, rfl, rfl⟩ ?_
                  refine Ops.skip ⟨_, rfl, rfl⟩ ?_
                  refine Ops.skip ⟨_, rfl, rfl⟩ ?_
                  refine Ops.skip ⟨_, rfl, rfl⟩ ?_
                  refine Ops.skip ⟨_, rfl, rfl⟩ ?_
                  refine Ops.skip ⟨_, rfl, rfl⟩ ?_
                  refine Ops.skip ⟨_, rfl, rfl⟩ ?_
                  refine Ops.v (Yv.pick0 rfl rfl) ?_
                  refine Ops.v (Yv.assign rfl) ?_
                  refine Ops.nil ?_
                  refine ⟨rfl, Sub.le ⟨rfl, rfl, rfl, rfl, lookB rfl (by first | (simp only [h9, h10, h11, h12, h13, h14, h15, ne_eq, not_true_eq_false, not_false_eq_true, or_true, true_or, or_false, false_or, and_true, true_and, and_false, false_and, decide_true, decide_false, or_self, and_self, Bool.decide_eq_true]; done) | simp [h9, h10, h11, h12, h13, h14, h15]), trivial⟩⟩
              · -- no
                refine Ops.v (Yv.pick1 rfl rfl) ?_
                refine Ops.v (Yv.move rfl) ?_
                refine Ops.skip ⟨_, rfl, rfl⟩ ?_
                refine Ops.skip ⟨_, rfl, rfl⟩ ?_
                refine Ops.skip ⟨_, rfl, rfl⟩ ?_
                refine Ops.skip ⟨_, rfl, rfl⟩ ?_
                refine Ops.skip ⟨_, rfl, rfl⟩ ?_
                refine Ops.skip ⟨_, rfl, rfl⟩ ?_
                refine Ops.skip ⟨_, rfl, rfl⟩ ?_
                refine Ops.skip ⟨_, rfl, rfl⟩ ?_
                refine Ops.v (Yv.pick0 rfl rfl) ?_
                refine Ops.v (Yv.move rfl) ?_
                refine Ops.skip ⟨_, rfl, rfl⟩ ?_
                refine Ops.skip ⟨_, rfl, rfl⟩ ?_
                refine Ops.skip ⟨_, rfl, rfl⟩ ?_
                refine Ops.skip ⟨_, rfl, rfl⟩ ?_
                refine Ops.skip ⟨_, rfl, rfl⟩ ?_
                refine Ops.skip ⟨_, rfl, rfl⟩ ?_
                refine Ops.skip ⟨_, rfl, rfl⟩ ?_
                refine Ops.skip ⟨_, rfl, rfl⟩ ?_
                refine Ops.v (Yv.pick0 rfl rfl) ?_
                refine Ops.v (Yv.assign rfl) ?_
                refine Ops.nil ?_
                refine ⟨rfl, Sub.le ⟨rfl, rfl, rfl, rfl, lookB rfl (by first | (simp only [h9, h10, h11, h12, h13, h14, ne_eq, not_true_eq_false, not_false_eq_true, or_true, true_or, or_false, false_or, and_true, true_and, and_false, false_and, decide_true, decide_false, or_self, and_self, Bool.decide_eq_true]; done) | simp [h9, h10, h11, h12, h13, h14]), trivial⟩⟩
            · -- no
              refine Ops.v (Yv.pick1 rfl rfl) ?_
              refine Ops.v (Yv.move rfl) ?_
              refine Ops.skip ⟨_, rfl, rfl⟩ ?_
              refine Ops.skip ⟨_, rfl, rfl⟩ ?_
              refine Ops.skip ⟨_, rfl, rfl⟩ ?_
              refine Ops.skip ⟨_, rfl, rfl⟩ ?_
              refine Ops.skip ⟨_, rfl, rfl⟩ ?_
              refine Ops.v (Yv.pick0 rfl rfl) ?_
              refine Ops.v (Yv.move rfl) ?_
              refine Ops.skip ⟨_, rfl, rfl⟩ ?_
              refine Ops.skip ⟨_, rfl, rfl⟩ ?_
              refine Ops.skip ⟨_, rfl, rfl⟩ ?_
              refine Ops.skip ⟨_, rfl, rfl⟩ ?_
              refine Ops.skip ⟨_, rfl, rfl⟩ ?_
              refine Ops.skip ⟨_, rfl, rfl⟩ ?_
              refine Ops.skip ⟨_, rfl, rfl⟩ ?_
              refine Ops.skip ⟨_, rfl, rfl⟩ ?_
              refine Ops.v (Yv.pick0 rfl rfl) ?_
              refine Ops.v (Yv.move rfl) ?_
              refine Ops.skip ⟨_, rfl, rfl⟩ ?_
              refine Ops.skip ⟨_, rfl, rfl⟩ ?_
              refine Ops.skip ⟨_, rfl, rfl⟩ ?_
              refine Ops.skip ⟨_, rfl, rfl⟩ ?_
              refine Ops.skip ⟨_, rfl, rfl⟩ ?_
              refine Ops.skip ⟨_, rfl, rfl⟩ ?_
              refine Ops.skip ⟨_, rfl, rfl⟩ ?_
              refine Ops.skip ⟨_, rfl, rfl⟩ ?_
              refine Ops.v (Yv.pick0 rfl rfl) ?_
              refine Ops.v (Yv.assign rfl) ?_
              refine Ops.nil ?_
              refine ⟨rfl, Sub.le ⟨rfl, rfl, rfl, rfl, lookB rfl (by first | (simp only [h9, h10, h11, h12, h13, ne_eq, not_true_eq_false, not_false_eq_true, or_true, true_or, or_false, false_or, and_true, true_and, and_false, false_and, decide_true, decide_false, or_self, and_self, Bool.decide_eq_true]; done) | simp [h9, h10, h11, h12, h13]), trivial⟩⟩
          · -- no
            refine Ops.v (Yv.pick1 rfl rfl) ?_
            refine Ops.v (Yv.move rfl) ?_
            refine Ops.skip ⟨_, rfl, rfl⟩ ?_
            refine Ops.skip ⟨_, rfl, rfl⟩ ?_
            refine Ops.skip ⟨_, rfl, rfl⟩ ?_
            refine Ops.skip ⟨_, rfl, rfl⟩ ?_
            refine Ops.skip ⟨_, rfl, rfl⟩ ?_
            refine Ops.v (Yv.pick0 rfl rfl) ?_
            refine Ops.v (Yv.move rfl) ?_
            refine Ops.skip ⟨_, rfl, rfl⟩ ?_
            refine Ops.skip ⟨_, rfl, rfl⟩ ?_
            refine Ops.skip ⟨_, rfl, rfl⟩ ?_
            refine Ops.skip ⟨_, rfl, rfl⟩ ?_
            refine Ops.skip ⟨_, rfl, rfl⟩ ?_
            refine Ops.v (Yv.pick0 rfl rfl) ?_
            refine Ops.v (Yv.move rfl) ?_
            refine Ops.skip ⟨_, rfl, rfl⟩ ?_
            refine Ops.skip ⟨_, rfl, rfl⟩ ?_
            refine Ops.skip ⟨_, rfl, rfl⟩ ?_
            refine Ops.skip ⟨_, rfl, rfl⟩ ?_
            refine Ops.skip ⟨_, rfl, rfl⟩ ?_
            refine Ops.skip ⟨_, rfl, rfl⟩ ?_
            refine Ops.skip ⟨_, rfl, rfl⟩ ?_
            refine Ops.skip ⟨_, rfl, rfl⟩ ?_
            refine Ops.v (Yv.pick0 rfl rfl) ?_
            refine Ops.v (Yv.move rfl) ?_
            refine Ops.skip ⟨_, rfl, rfl⟩ ?_
            refine Ops.skip ⟨_, rfl, rfl⟩ ?_
            refine Ops.skip ⟨_, rfl, rfl⟩ ?_
            refine Ops.skip ⟨_, rfl, rfl⟩ ?_
            refine Ops.skip ⟨_, rfl, rfl⟩ ?_
            refine Ops.skip ⟨_, rfl, rfl⟩ ?_
            refine Ops.skip ⟨_, rfl, rfl⟩ ?_
            refine Ops.skip ⟨_, rfl, rfl⟩ ?_
            refine Ops.v (Yv.pick0 rfl rfl) ?_
            refine Ops.v (Yv.assign rfl) ?_
            refine Ops.nil ?_
            refine ⟨rfl, Sub.le ⟨rfl, rfl, rfl, rfl, lookB rfl (by first | (simp only [h9, h10, h11, h12, ne_eq, not_true_eq_false, not_false_eq_true, or_true, true_or, or_false, false_or, and_true, true_and, and_false, false_and, decide_true, decide_false, or_self, and_self, Bool.decide_eq_true]; done) | simp [h9, h10, h11, h12]), trivial⟩⟩
        · -- no
          refine Ops.v (Yv.pick1 rfl rfl) ?_
          refine Ops.v (Yv.move rfl) ?_
          refine Ops.skip ⟨_, rfl, rfl⟩ ?_
          refine Ops.skip ⟨_, rfl, rfl⟩ ?_
          refine Ops.skip ⟨_, rfl, rfl⟩ ?_
          refine Ops.v (Yv.pick0 rfl rfl) ?_
          refine Ops.v (Yv.move rfl) ?_
          refine Ops.skip ⟨_, rfl, rfl⟩ ?_
          refine Ops.skip ⟨_, rfl, rfl⟩ ?_
          refine Ops.skip ⟨_, rfl, rfl⟩ ?_
          refine Ops.skip ⟨_, rfl, rfl⟩ ?_
          refine Ops.skip ⟨_, rfl, rfl⟩ ?_
          refine Ops.v (Yv.pick0 rfl rfl) ?_
          refine Ops.v (Yv.move rfl) ?_
          refine Ops.skip ⟨_, rfl, rfl⟩ ?_
          refine Ops.skip ⟨_, rfl, rfl⟩ ?_
          refine Ops.skip ⟨_, rfl, rfl⟩ ?_
          refine Ops.skip ⟨_, rfl, rfl⟩ ?_
          refine Ops.skip ⟨_, rfl, rfl⟩ ?_
          refine Ops.v (Yv.pick0 rfl rfl) ?_
          refine Ops.v (Yv.move rfl) ?_
          refine Ops.skip ⟨_, rfl, rfl⟩ ?_
          refine Ops.skip ⟨_, rfl, rfl⟩ ?_
          refine Ops.skip ⟨_, rfl, rfl⟩ ?_
          refine Ops.skip ⟨_, rfl, rfl⟩ ?_
          refine Ops.skip ⟨_, rfl, rfl⟩ ?_
          refine Ops.skip ⟨_, rfl, rfl⟩ ?_
          refine Ops.skip ⟨_, rfl, rfl⟩ ?_
          refine Ops.skip ⟨_, rfl, rfl⟩ ?_
          refine Ops.v (Yv.pick0 rfl rfl) ?_
          refine Ops.v (Yv.move rfl) ?_
          refine Ops.skip ⟨_, rfl, rfl⟩ ?_
          refine Ops.skip ⟨_, rfl, rfl⟩ ?_
          refine Ops.skip ⟨_, rfl, rfl⟩ ?_
          refine Ops.skip ⟨_, rfl, rfl⟩ ?_
          refine Ops.skip ⟨_, rfl, rfl⟩ ?_
          refine Ops.skip ⟨_, rfl, rfl⟩ ?_
          refine Ops.skip ⟨_, rfl, rfl⟩ ?_
          refine Ops.skip ⟨_, rfl, rfl⟩ ?_
          refine Ops.v (Yv.pick0 rfl rfl) ?_
          refine Ops.v (Yv.assign rfl) ?_
          refine Ops.nil ?_
          refine ⟨rfl, Sub.le ⟨rfl, rfl, rfl, rfl, lookB rfl (by first | (simp only [h9, h10, h11, ne_eq, not_true_eq_false, not_false_eq_true, or_true, true_or, or_false, false_or, and_true, true_and, and_false, false_and, decide_true, decide_false, or_self, and_self, Bool.decide_eq_true]; done) | simp [h9, h10, h11]), trivial⟩⟩
      · -- no
        refine Ops.v (Yv.pick1 rfl rfl) ?_
        refine Ops.v (Yv.move rfl) ?_
        refine Ops.skip ⟨_, rfl, rfl⟩ ?_
        refine Ops.skip ⟨_, rfl, rfl⟩ ?_
        refine Ops.skip ⟨_, rfl, rfl⟩ ?_
        refine Ops.v (Yv.pick0 rfl rfl) ?_
        refine Ops.v (Yv.move rfl) ?_
        refine Ops.skip ⟨_, rfl, rfl⟩ ?_
        refine Ops.skip ⟨_, rfl, rfl⟩ ?_
        refine Ops.skip ⟨_, rfl, rfl⟩ ?_
        refine Ops.v (Yv.pick0 rfl rfl) ?_
        refine Ops.v (Yv.move rfl) ?_
        refine Ops.skip ⟨_, rfl, rfl⟩ ?_
        refine Ops.skip ⟨_, rfl, rfl⟩ ?_
        refine Ops.skip ⟨_, rfl, rfl⟩ ?_
        refine Ops.skip ⟨_, rfl, rfl⟩ ?_
        refine Ops.skip ⟨_, rfl, rfl⟩ ?_
        refine Ops.v (Yv.pick0 rfl rfl) ?_
        refine Ops.v (Yv.move rfl) ?_
        refine Ops.skip ⟨_, rfl, rfl⟩ ?_
        refine Ops.skip ⟨_, rfl, rfl⟩ ?_
        refine Ops.skip ⟨_, rfl, rfl⟩ ?_
        refine Ops.skip ⟨_, rfl, rfl⟩ ?_
        refine Ops.skip ⟨_, rfl, rfl⟩ ?_
        refine Ops.v (Yv.pick0 rfl rfl) ?_
        refine Ops.v (Yv.move rfl) ?_
        refine Ops.skip ⟨_, rfl, rfl⟩ ?_
        refine Ops.skip ⟨_, rfl, rfl⟩ ?_
        refine Ops.skip ⟨_, rfl, rfl⟩ ?_
        refine Ops.skip ⟨_, rfl, rfl⟩ ?_
        refine Ops.skip ⟨_, rfl, rfl⟩ ?_
        refine Ops.skip ⟨_, rfl, rfl⟩ ?_
        refine Ops.skip ⟨_, rfl, rfl⟩ ?_
        refine Ops.skip ⟨_, rfl, rfl⟩ ?_
        refine Ops.v (Yv.pick0 rfl rfl) ?_
        refine Ops.v (Yv.move rfl) ?_
        refine Ops.skip ⟨_, rfl, rfl⟩ ?_
        refine Ops.skip ⟨_, rfl, rfl⟩ ?_
        refine Ops.skip ⟨_, rfl, rfl⟩ ?_
        refine Ops.skip ⟨_, rfl, rfl⟩ ?_
        refine Ops.skip ⟨_, rfl, rfl⟩ ?_
        refine Ops.skip ⟨_, rfl, rfl⟩ ?_
        refine Ops.skip ⟨_, rfl, rfl⟩ ?_
        refine Ops.skip ⟨_, rfl, rfl⟩ ?_
        refine Ops.v (Yv.pick0 rfl rfl) ?_
        refine Ops.v (Yv.assign rfl) ?_
        refine Ops.nil ?_
        refine ⟨rfl, Sub.le ⟨rfl, rfl, rfl, rfl, lookB rfl (by first | (simp only [h9, h10, ne_eq, not_true_eq_false, not_false_eq_true, or_true, true_or, or_false, false_or, and_true, true_and, and_false, false_and, decide_true, decide_false, or_self, and_self, Bool.decide_eq_true]; done) | simp [h9, h10]), trivial⟩⟩
    · -- no
      refine Ops.v (Yv.move rfl) ?_
      refine Ops.skip ⟨_, rfl, rfl⟩ ?_
      refine Ops.skip ⟨_, rfl, rfl⟩ ?_
      refine Ops.skip ⟨_, rfl, rfl⟩ ?_
      refine Ops.v (Yv.pick0 rfl rfl) ?_
      refine Ops.v (Yv.move rfl) ?_
      refine Ops.skip ⟨_, rfl, rfl⟩ ?_
      refine Ops.skip ⟨_, rfl, rfl⟩ ?_
      refine Ops.skip ⟨_, rfl, rfl⟩ ?_
      refine Ops.v (Yv.pick0 rfl rfl) ?_
      refine Ops.v (Yv.move rfl) ?_
      refine Ops.skip ⟨_, rfl, rfl⟩ ?_
      refine Ops.skip ⟨_, rfl, rfl⟩ ?_
      refine Ops.skip ⟨_, rfl, rfl⟩ ?_
      refine Ops.v (Yv.pick0 rfl rfl) ?_
      refine Ops.v (Yv.move rfl) ?_
      refine Ops.skip ⟨_, rfl, rfl⟩ ?_
      refine Ops.skip ⟨_, rfl, rfl⟩ ?_
      refine Ops.skip ⟨_, rfl, rfl⟩ ?_
      refine Ops.skip ⟨_, rfl, rfl⟩ ?_
      refine Ops.skip ⟨_, rfl, rfl⟩ ?_
      refine Ops.v (Yv.pick0 rfl rfl) ?_
      refine Ops.v (Yv.move rfl) ?_
      refine Ops.skip ⟨_, rfl, rfl⟩ ?_
      refine Ops.skip ⟨_, rfl, rfl⟩ ?_
      refine Ops.skip ⟨_, rfl, rfl⟩ ?_
      refine Ops.skip ⟨_, rfl, rfl⟩ ?_
      refine Ops.skip ⟨_, rfl, rfl⟩ ?_
      refine Ops.v (Yv.pick0 rfl rfl) ?_
      refine Ops.v (Yv.move rfl) ?_
      refine Ops.skip ⟨_, rfl, rfl⟩ ?_
      refine Ops.skip ⟨_, rfl, rfl⟩ ?_
      refine Ops.skip ⟨_, rfl, rfl⟩ ?_
      refine Ops.skip ⟨_, rfl, rfl⟩ ?_
      refine Ops.skip ⟨_, rfl, rfl⟩ ?_
      refine Ops.skip ⟨_, rfl, rfl⟩ ?_
      refine Ops.skip ⟨_, rfl, rfl⟩ ?_
      refine Ops.skip ⟨_, rfl, rfl⟩ ?_
      refine Ops.v (Yv.pick0 rfl rfl) ?_
      refine Ops.v (Yv.move rfl) ?_
      refine Ops.skip ⟨_, rfl, rfl⟩ ?_
      refine Ops.skip ⟨_, rfl, rfl⟩ ?_
      refine Ops.skip ⟨_, rfl, rfl⟩ ?_
      refine Ops.skip ⟨_, rfl, rfl⟩ ?_
      refine Ops.skip ⟨_, rfl, rfl⟩ ?_
      refine Ops.skip ⟨_, rfl, rfl⟩ ?_
      refine Ops.skip ⟨_, rfl, rfl⟩ ?_
      refine Ops.skip ⟨_, rfl, rfl⟩ ?_
      refine Ops.v (Yv.pick0 rfl rfl) ?_
      refine Ops.v (Yv.assign rfl) ?_
      refine Ops.nil ?_
      refine ⟨rfl, Sub.le ⟨rfl, rfl, rfl, rfl, lookB rfl (by first | (simp only [h9, ne_eq, not_true_eq_false, not_false_eq_true, or_true, true_or, or_false, false_or, and_true, true_and, and_false, false_and, decide_true, decide_false, or_self, and_self, Bool.decide_eq_true]; done) | simp [h9]), trivial⟩⟩
  rintro e16 _ ⟨rfl, he16⟩
  refine k8 _ _ ?_
  refine Run.le he16 ?_
  refine run_ret ?_
  refine ⟨[.bool (decide (((((((((1 : Int) ≤ W) ∧ ((1 : Int) ≤ H)) ∧ ((0 : Int) ≤ X)) ∧ ((0 : Int) ≤ Y)) ∧ (W ≤ pW)) ∧ (H ≤ pH)) ∧ (X ≤ (pW - W))) ∧ (Y ≤ (pH - H))))], ⟨_, _, rfl, rfl, rfl⟩, ?_⟩
  exact ⟨congrArg Value.bool (decide_eq_decide.2 (by omega)), hs6.pick [] _ (by decide) rfl⟩

theorem rwithin_fun {w : World} {A : Option Addr} {m c : Nat} {sw X Y W H : Int} (hm : m ≤ 9223372036854775807) : Fun Try.prog 46 [.slice A m c, .int .i64 sw, .agg #[.int .i64 X, .int .i64 Y, .int .i64 W, .int .i64 H]] w fun v w' => v = .bool (decide (liesP (m : Int) sw X Y W H)) ∧ HS w [] w' := by
  refine fun_run (m := 40) (rs := [.tmp 6]) Try.func46 rfl rfl rfl rfl rfl ?_
  have hs0 := HS.start w
  refine run_seq fun K1 k1 => ?_
  refine run_region ?_
  refine Ops.s (Step.box (cs := [.int .i64 X, .int .i64 Y, .int .i64 W, .int .i64 H]) hs0 rfl rfl (fun b2 w3 hs3 hb3 => ?_) True.intro (by rfl))
  refine Ops.v (Yv.assign rfl) ?_
  refine Ops.nil ?_
  refine k1 _ _ ?_
  refine run_seq fun K5 k5 => ?_
  refine run_seq fun K6 k6 => ?_
  refine Run.cut (fun e_ w_ => w3 = w_ ∧ Le [(0, .slice A m c), (1, .int .i64 sw), (2, .agg #[.int .i64 X, .int .i64 Y, .int .i64 W, .int .i64 H]), (5, .pointer (some ⟨b2, 0, none⟩)), (6, .bool false), (31, .bool (decide (((((sw < (1 : Int)) ∨ ((64 : Int) < sw)) ∨ ((m : Int) = (0 : Int))) ∨ (((m : Int) % sw) ≠ (0 : Int))) ∨ ((64 : Int) < ((m : Int) / sw)))))] e_) ?_ ?_
  · -- region 1: its ways meet again
    refine run_region ?_
    refine Ops.v (Yv.move rfl) ?_
    refine Ops.v (Yv.lt rfl rfl) ?_
    refine Ops.dec (fun h7 => ?_) (fun h7 => ?_)
    · -- yes
      refine Ops.v (Yv.move rfl) ?_
      refine Ops.skip ⟨_, rfl, rfl⟩ ?_
      refine Ops.skip ⟨_, rfl, rfl⟩ ?_
      refine Ops.v (Yv.pick1 rfl rfl) ?_
      refine Ops.v (Yv.move rfl) ?_
      refine Ops.skip ⟨_, rfl, rfl⟩ ?_
      refine Ops.skip ⟨_, rfl, rfl⟩ ?_
      refine Ops.skip ⟨_, rfl, rfl⟩ ?_
      refine Ops.v (Yv.pick1 rfl rfl) ?_
      refine Ops.v (Yv.move rfl) ?_
      refine Ops.skip ⟨_, rfl, rfl⟩ ?_
      refine Ops.skip ⟨_, rfl, rfl⟩ ?_
      refine Ops.skip ⟨_, rfl, rfl⟩ ?_
      refine Ops.skip ⟨_, rfl, rfl⟩ ?_
      refine Ops.skip ⟨_, rfl, rfl⟩ ?_
      refine Ops.v (Yv.pick1 rfl rfl) ?_
      refine Ops.v (Yv.move rfl) ?_
      refine Ops.skip ⟨_, rfl, rfl⟩ ?_
      refine Ops.skip ⟨_, rfl, rfl⟩ ?_
      refine Ops.skip ⟨_, rfl, rfl⟩ ?_
      refine Ops.skip ⟨_, rfl, rfl⟩ ?_
      refine Ops.skip ⟨_, rfl, rfl⟩ ?_
      refine Ops.v (Yv.pick1 rfl rfl) ?_
      refine Ops.nil ?_
      refine ⟨rfl, Sub.le ⟨rfl, rfl, rfl, rfl, rfl, lookB rfl (by first | (simp only [h7, ne_eq, not_true_eq_false, not_false_eq_true, or_true, true_or, or_false, false_or, and_true, true_and, and_false, false_and, decide_true, decide_false, or_self, and_self, Bool.decide_eq_true]; done) | simp [h7]), trivial⟩⟩
    · -- no
      refine Ops.v (Yv.move rfl) ?_
      refine Ops.vg ⟨_, rfl, rfl⟩ (Yv.move rfl) ?_
      refine Ops.vg ⟨_, rfl, rfl⟩ (Yv.gt rfl rfl) ?_
      refine Ops.dec (fun h8 => ?_) (fun h8 => ?_)
      · -- yes
        refine Ops.v (Yv.pick0 rfl rfl) ?_
        refine Ops.v (Yv.move rfl) ?_
        refine Ops.skip ⟨_, rfl, rfl⟩ ?_
        refine Ops.skip ⟨_, rfl, rfl⟩ ?_
        refine Ops.skip ⟨_, rfl, rfl⟩ ?_
        refine Ops.v (Yv.pick1 rfl rfl) ?_
        refine Ops.v (Yv.move rfl) ?_
        refine Ops.skip ⟨_, rfl, rfl⟩ ?_
        refine Ops.skip ⟨_, rfl, rfl⟩ ?_
        refine Ops.skip ⟨_, rfl, rfl⟩ ?_
        refine Ops.skip ⟨_, rfl, rfl⟩ ?_
        refine Ops.skip ⟨_, rfl, rfl⟩ ?_
        refine Ops.v (Yv.pick1 rfl rfl) ?_
        refine Ops.v (Yv.move rfl) ?_
        refine Ops.skip ⟨_, rfl, rfl⟩ ?_
        refine Ops.skip ⟨_, rfl, rfl⟩ ?_
        refine Ops.skip ⟨_, rfl, rfl⟩ ?_
        refine Ops.skip ⟨_, rfl, rfl⟩ ?_
        refine Ops.skip ⟨_, rfl, rfl⟩ ?_
        refine Ops.v (Yv.pick1 rfl rfl) ?_
        refine Ops.nil ?_
        refine ⟨rfl, Sub.le ⟨rfl, rfl, rfl, rfl, rfl, lookB rfl (by first | (simp only [h7, h8, ne_eq, not_true_eq_false, not_false_eq_true, or_true, true_or, or_false, false_or, and_true, true_and, and_false, false_and, decide_true, decide_false, or_self, and_self, Bool.decide_eq_true]; done) | simp [h7, h8]), trivial⟩⟩
      · -- no
        refine Ops.v (Yv.pick0 rfl rfl) ?_
        refine Ops.v (Yv.move rfl) ?_
        refine Ops.vg ⟨_, rfl, rfl⟩ (Yv.move rfl) ?_
        refine Ops.vg ⟨_, rfl, rfl⟩ (Yv.len (by rw [L22]; rfl) rfl) ?_
        refine Ops.vg ⟨_, rfl, rfl⟩ (Yv.eq rfl rfl) ?_
        refine Ops.dec (fun h9 => ?_) (fun h9 => ?_)
        · -- yes
          refine Ops.v (Yv.pick0 rfl rfl) ?_
          refine Ops.v (Yv.move rfl) ?_
          refine Ops.skip ⟨_, rfl, rfl⟩ ?_
          refine Ops.skip ⟨_, rfl, rfl⟩ ?_
          refine Ops.skip ⟨_, rfl, rfl⟩ ?_
          refine Ops.skip ⟨_, rfl, rfl⟩ ?_
          refine Ops.skip ⟨_, rfl, rfl⟩ ?_
          refine Ops.v (Yv.pick1 rfl rfl) ?_
          refine Ops.v (Yv.move rfl) ?_
          refine Ops.skip ⟨_, rfl, rfl⟩ ?_
          refine Ops.skip ⟨_, rfl, rfl⟩ ?_
          refine Ops.skip ⟨_, rfl, rfl⟩ ?_
          refine Ops.skip ⟨_, rfl, rfl⟩ ?_
          refine Ops.skip ⟨_, rfl, rfl⟩ ?_
          refine Ops.v (Yv.pick1 rfl rfl) ?_
          refine Ops.nil ?_
          refine ⟨rfl, Sub.le ⟨rfl, rfl, rfl, rfl, rfl, lookB rfl (by first | (simp only [h7, h8, h9, ne_eq, not_true_eq_false, not_false_eq_true, or_true, true_or, or_false, false_or, and_true, true_and, and_false, false_and, decide_true, decide_false, or_self, and_self, Bool.decide_eq_true]; done) | simp [h7, h8, h9]), trivial⟩⟩
        · -- no
          refine Ops.v (Yv.pick0 rfl rfl) ?_
          refine Ops.v (Yv.move rfl) ?_
          refine Ops.vg ⟨_, rfl, rfl⟩ (Yv.move rfl) ?_
          refine Ops.vg ⟨_, rfl, rfl⟩ (Yv.len (by rw [L22]; rfl) rfl) ?_
          refine Ops.vg ⟨_, rfl, rfl⟩ (Yv.move rfl) ?_
          refine Ops.vg ⟨_, rfl, rfl⟩ (Yv.rem rfl rfl (by omega) (by omega)) ?_
          refine Ops.vg ⟨_, rfl, rfl⟩ (Yv.ne rfl rfl) ?_
          refine Ops.dec (fun h10 => ?_) (fun h10 => ?_)
          · -- yes
            refine Ops.v (Yv.pick0 rfl rfl) ?_
            refine Ops.v (Yv.move rfl) ?_
            refine Ops.skip ⟨_, rfl, rfl⟩ ?_
            refine Ops.skip ⟨_, rfl, rfl⟩ ?_
            refine Ops.skip ⟨_, rfl, rfl⟩ ?_
            refine Ops.skip ⟨_, rfl, rfl⟩ ?_
            refine Ops.skip ⟨_, rfl, rfl⟩ ?_
            refine Ops.v (Yv.pick1 rfl rfl) ?_
            refine Ops.nil ?_
            refine ⟨rfl, Sub.le ⟨rfl, rfl, rfl, rfl, rfl, lookB rfl (by first | (simp only [h7, h8, h9, h10, ne_eq, not_true_eq_false, not_false_eq_true, or_true, true_or, or_false, false_or, and_true, true_and, and_false, false_and, decide_true, decide_false, or_self, and_self, Bool.decide_eq_true]; done) | simp [h7, h8, h9, h10]), trivial⟩⟩
          · -- no
            refine Ops.v (Yv.pick0 rfl rfl) ?_
            refine Ops.v (Yv.move rfl) ?_
            refine Ops.vg ⟨_, rfl, rfl⟩ (Yv.move rfl) ?_
            refine Ops.vg ⟨_, rfl, rfl⟩ (Yv.len (by rw [L22]; rfl) rfl) ?_
            refine Ops.vg ⟨_, rfl, rfl⟩ (Yv.move rfl) ?_
            refine Ops.vg ⟨_, rfl, rfl⟩ (Yv.quo rfl rfl (by omega) (by omega) (by omega)) ?_
            refine Ops.vg ⟨_, rfl, rfl⟩ (Yv.gt rfl rfl) ?_
            refine Ops.v (Yv.pick0 rfl rfl) ?_
            refine Ops.nil ?_
            refine ⟨rfl, Sub.le ⟨rfl, rfl, rfl, rfl, rfl, lookB rfl (by first | (simp only [h7, h8, h9, h10, ne_eq, not_true_eq_false, not_false_eq_true, or_true, true_or, or_false, false_or, and_true, true_and, and_false, false_and, decide_true, decide_false, or_self, and_self, Bool.decide_eq_true]; done) | simp [h7, h8, h9, h10]), trivial⟩⟩
  rintro e11 _ ⟨rfl, he11⟩
  refine k6 _ _ ?_
  refine Run.le he11 ?_
  refine run_ifp rfl (fun h12 => ?_) (fun h12 => ?_)
  · -- yes ((((sw < (1 : Int)) ∨ ((64 : Int) < sw)) ∨ ((m : Int) = (0 : Int))) ∨ (((m : Int) % sw) ≠ (0 : Int))) ∨ ((64 : Int) < ((m : Int) / sw))
    refine run_seq fun K13 k13 => ?_
    refine run_region ?_
    refine Ops.v (Yv.assign rfl) ?_
    refine Ops.nil ?_
    refine k13 _ _ ?_
    refine run_ret ?_
    refine ⟨[.bool false], ⟨_, _, rfl, rfl, rfl⟩, ?_⟩
    have hdz := fun h1 h2 => div_pos_iff (m := (m : Int)) (w := sw) h1 (by omega) h2
    exact ⟨congrArg Value.bool (decide_eq_false (by unfold liesP; intro hl_; have := hdz (by omega) (by omega); omega)).symm, hs3.pick [] _ (by decide) rfl⟩
  · -- no
    refine run_skip ?_
    refine k5 _ _ ?_
    refine run_seq fun K14 k14 => ?_
    refine run_drawn [] (fun x => Below (w3.drew).heap.size (w3.drew) x) ?_ Tf.mixed (by kernel_rfl) (fun _ _ _ h => h)
    have hs15 := hs3.drew
    have hS16 := Below.refl (w3.drew).heap.size (w3.drew)
    refine Drw.a 0 rfl (by kernel_rfl) (Yv.move rfl) ?_
    refine Drw.a 1 rfl (by kernel_rfl) (Yv.move rfl) ?_
    refine Drw.a 2 rfl (by kernel_rfl) (Yv.len (by rw [L22]; rfl) rfl) ?_
    refine Drw.a 3 rfl (by kernel_rfl) (Yv.move rfl) ?_
    refine Drw.a 4 rfl (by kernel_rfl) (Yv.quo rfl rfl (by omega) (by omega) (by omega)) ?_
    refine Drw.a 5 rfl (by kernel_rfl) (Yv.buildS (cs := #[.int .i64 sw, .int .i64 ((m : Int) / sw), .slice none 0 0]) T24 rfl rfl) ?_
    refine Drw.l 6 rfl (by kernel_rfl) hS16 (Yv.loadn (cs := [.int .i64 X, .int .i64 Y, .int .i64 W, .int .i64 H]) A29 S29 rfl (fun _ hq_ => ((hs15.grow hq_).cells 0 rfl 0 4))) ?_
    refine Drw.one 7 rfl (by kernel_rfl) (Step.call rfl rfl (rwithin5_fun (by omega) (by omega)) (?_) True.intro (by rfl))
    rintro _ w17 ⟨rfl, hs17⟩
    have hS18 := HS.keepS hS16 (Nat.le_refl _) hs17
    refine ⟨fun _ _ => hS18, ?_⟩
    replace hs17 := hs15.call hs17
    refine Drw.a 8 rfl (by kernel_rfl) (Yv.assign rfl) ?_
    refine Drw.done ?_ (by kernel_rfl)
    refine k14 _ _ ?_
    refine run_ret ?_
    refine ⟨[.bool (decide ((1 ≤ W ∧ 1 ≤ H ∧ 0 ≤ X ∧ 0 ≤ Y) ∧ W ≤ sw ∧ H ≤ ((m : Int) / sw) ∧ X ≤ sw - W ∧ Y ≤ ((m : Int) / sw) - H))], ⟨_, _, rfl, rfl, rfl⟩, ?_⟩
    have hdz := div_pos_iff (m := (m : Int)) (w := sw) (by omega) (by omega) (by omega)
    exact ⟨congrArg Value.bool (decide_eq_decide.2 (by unfold liesP; omega)), hs17.pick [] _ (by decide) rfl⟩

theorem along1_fun {w : World} {a b : Int} : Fun Try.prog 45 [.int .i64 a, .int .i64 b] w fun v w' => v = .int .i64 b ∧ w = w' := by
  refine fun_run (m := 6) (rs := [.tmp 4]) Try.func45 rfl rfl rfl rfl rfl ?_
  have hs0 := HS.start w
  refine run_seq fun K1 k1 => ?_
  refine run_region ?_
  refine Ops.v (Yv.assign rfl) ?_
  refine Ops.nil ?_
  refine k1 _ _ ?_
  refine run_seq fun K2 k2 => ?_
  refine run_region ?_
  refine Ops.v (Yv.move rfl) ?_
  refine Ops.v (Yv.assign rfl) ?_
  refine Ops.nil ?_
  refine k2 _ _ ?_
  refine run_ret ?_
  refine ⟨[.int .i64 b], ⟨_, _, rfl, rfl, rfl⟩, ?_⟩
  exact ⟨rfl, rfl⟩

theorem along0_fun {w : World} {a b : Int} : Fun Try.prog 48 [.int .i64 a, .int .i64 b] w fun v w' => v = .int .i64 a ∧ w = w' := by
  refine fun_run (m := 6) (rs := [.tmp 4]) Try.func48 rfl rfl rfl rfl rfl ?_
  have hs0 := HS.start w
  refine run_seq fun K1 k1 => ?_
  refine run_region ?_
  refine Ops.v (Yv.assign rfl) ?_
  refine Ops.nil ?_
  refine k1 _ _ ?_
  refine run_seq fun K2 k2 => ?_
  refine run_region ?_
  refine Ops.v (Yv.move rfl) ?_
  refine Ops.v (Yv.assign rfl) ?_
  refine Ops.nil ?_
  refine k2 _ _ ?_
  refine run_ret ?_
  refine ⟨[.int .i64 a], ⟨_, _, rfl, rfl, rfl⟩, ?_⟩
  exact ⟨rfl, rfl⟩

theorem blend_up {w : World} {A : Option Addr} {m c : Nat} {xs : List Int} (hr : Rd w A m 1 (u8s xs)) (hx : Bytes xs) {B : Option Addr} {m2 c2 : Nat} {ys : List Int} (hr2 : Rd w B m2 1 (u8s ys)) (hy : Bytes ys) {sw X Y W H : Int} (hcap : m ≤ 140737488355328) : Fun Try.prog 44 [.slice A m c, .int .i64 sw, .agg #[.int .i64 X, .int .i64 Y, .int .i64 W, .int .i64 H], .slice B m2 c2, .int .i64 H, .func (.func 45) #[] #[]] w fun v w' => ∃ A' c', v = .tuple #[.slice A' (blendOut true xs ys sw X Y W H H).length c', .int .i64 (blendE xs ys sw X Y W H H)] ∧ HS w [.row A' (blendOut true xs ys sw X Y W H H).length c' (u8s (blendOut true xs ys sw X Y W H H)) 5 1] w' := by
  refine fun_run (m := 103) (rs := [.tmp 12, .tmp 13]) Try.func44 rfl rfl rfl rfl rfl ?_
  have hs0 := HS.start w
  have hbig := hr.big
  have hlen_xs : xs.length = m := by have := hr.len; rw [u8s_length] at this; omega
  have hlen_ys : ys.length = m2 := by have := hr2.len; rw [u8s_length] at this; omega
  refine run_seq fun K1 k1 => ?_
  refine run_region ?_
  refine Ops.s (Step.box (cs := [.int .i64 X, .int .i64 Y, .int .i64 W, .int .i64 H]) hs0 rfl rfl (fun b2 w3 hs3 hb3 => ?_) True.intro (by rfl))
  refine Ops.v (Yv.assign rfl) ?_
  refine Ops.v (Yv.assign rfl) ?_
  refine Ops.nil ?_
  refine k1 _ _ ?_
  refine run_seq fun K5 k5 => ?_
  refine run_region ?_
  refine Ops.v (Yv.move rfl) ?_
  refine Ops.s (Step.call rfl rfl (weights_fun) (?_) True.intro (by rfl))
  rintro _ w9 ⟨Ad6, c7, rfl, hs9⟩
  replace hs9 := hs3.call hs9
  refine Ops.v (Yv.move rfl) ?_
  refine Ops.v (Yv.extract rfl rfl) ?_
  refine Ops.v (Yv.extract rfl rfl) ?_
  refine Ops.v (Yv.assign rfl) ?_
  refine Ops.v (Yv.assign rfl) ?_
  refine Ops.nil ?_
  refine k5 _ _ ?_
  refine run_seq fun K10 k10 => ?_
  refine run_seq fun K11 k11 => ?_
  refine Run.cut (fun e_ w_ => HS w [.row Ad6 ((wtOut H).length) c7 (i64s (wtOut H)) 3 1, .blk b2 [.int .i64 X, .int .i64 Y, .int .i64 W, .int .i64 H] 29] w_ ∧ Le [(0, .slice A m c), (1, .int .i64 sw), (2, .agg #[.int .i64 X, .int .i64 Y, .int .i64 W, .int .i64 H]), (3, .slice B m2 c2), (4, .int .i64 H), (5, .func (.func 45) #[] #[]), (8, .pointer (some ⟨b2, 0, none⟩)), (12, .slice none 0 0), (13, .int .i64 0), (14, .slice Ad6 ((wtOut H).length) c7), (15, .int .i64 (wtE H)), (46, .bool (decide ((((wtE H) ≠ (0 : Int)) ∨ (¬ (liesP (m : Int) sw X Y W H))) ∨ ((m2 : Int) ≠ (W * H)))))] e_) ?_ ?_
  · -- region 2: its ways meet again
    refine run_region ?_
    refine Ops.v (Yv.move rfl) ?_
    refine Ops.v (Yv.ne rfl rfl) ?_
    refine Ops.dec (fun h12 => ?_) (fun h12 => ?_)
    · -- yes
      refine Ops.v (Yv.move rfl) ?_
      refine Ops.skip ⟨_, rfl, rfl⟩ ?_
      refine Ops.skip ⟨_, rfl, rfl⟩ ?_
      refine Ops.skip ⟨_, rfl, rfl⟩ ?_
      refine Ops.skip ⟨_, rfl, rfl⟩ ?_
      refine Ops.skip ⟨_, rfl, rfl⟩ ?_
      refine Ops.v (Yv.pick1 rfl rfl) ?_
      refine Ops.v (Yv.move rfl) ?_
      refine Ops.skip ⟨_, rfl, rfl⟩ ?_
      refine Ops.skip ⟨_, rfl, rfl⟩ ?_
      refine Ops.skip ⟨_, rfl, rfl⟩ ?_
      refine Ops.skip ⟨_, rfl, rfl⟩ ?_
      refine Ops.skip ⟨_, rfl, rfl⟩ ?_
      refine Ops.skip ⟨_, rfl, rfl⟩ ?_
      refine Ops.skip ⟨_, rfl, rfl⟩ ?_
      refine Ops.skip ⟨_, rfl, rfl⟩ ?_
      refine Ops.v (Yv.pick1 rfl rfl) ?_
      refine Ops.nil ?_
      refine ⟨hs9, Sub.le ⟨rfl, rfl, rfl, rfl, rfl, rfl, rfl, rfl, rfl, rfl, rfl, lookB rfl (by first | (simp only [h12, ne_eq, not_true_eq_false, not_false_eq_true, or_true, true_or, or_false, false_or, and_true, true_and, and_false, false_and, decide_true, decide_false, or_self, and_self, Bool.decide_eq_true]; done) | simp [h12]), trivial⟩⟩
    · -- no
      refine Ops.v (Yv.move rfl) ?_
      refine Ops.vg ⟨_, rfl, rfl⟩ (Yv.move rfl) ?_
      refine Ops.vg ⟨_, rfl, rfl⟩ (Yv.move rfl) ?_
      refine Ops.vg ⟨_, rfl, rfl⟩ (Yv.loadn (cs := [.int .i64 X, .int .i64 Y, .int .i64 W, .int .i64 H]) A29 S29 rfl (now (hs9.cells 1 rfl 0 4))) ?_
      refine Ops.s (Step.call rfl rfl (lies_fun (by omega)) (?_) ⟨_, rfl, rfl⟩ (by rfl))
      rintro _ w13 ⟨rfl, hs13⟩
      replace hs13 := hs9.call hs13
      refine Ops.dec (fun h14 => ?_) (fun h14 => ?_)
      · -- yes
        refine Ops.vg ⟨_, rfl, rfl⟩ (Yv.not rfl) ?_
        refine Ops.v (Yv.pick0 rfl rfl) ?_
        refine Ops.v (Yv.move rfl) ?_
        refine Ops.vg ⟨_, rfl, rfl⟩ (Yv.move rfl) ?_
        refine Ops.vg ⟨_, rfl, rfl⟩ (Yv.len (by rw [L22]; rfl) rfl) ?_
        refine Ops.vg ⟨_, rfl, rfl⟩ (Yv.fld F29_2 rfl) ?_
        refine Ops.vg ⟨_, rfl, rfl⟩ (Yv.load A3 rfl (now (hs13.cell 1 rfl 2 rfl))) ?_
        refine Ops.vg ⟨_, rfl, rfl⟩ (Yv.fld F29_3 rfl) ?_
        have hl9 := lies_facts h14
        have hWH9 := mul_bd (a := W) (b := H) (x := 64) (y := 64) (by omega) (by omega) (by omega) (by omega)
        refine Ops.vg ⟨_, rfl, rfl⟩ (Yv.load A3 rfl (now (hs13.cell 1 rfl 3 rfl))) ?_
        refine Ops.vg ⟨_, rfl, rfl⟩ (Yv.mul rfl rfl (by omega)) ?_
        refine Ops.vg ⟨_, rfl, rfl⟩ (Yv.ne rfl rfl) ?_
        refine Ops.v (Yv.pick0 rfl rfl) ?_
        refine Ops.nil ?_
        refine ⟨hs13, Sub.le ⟨rfl, rfl, rfl, rfl, rfl, rfl, rfl, rfl, rfl, rfl, rfl, lookB rfl (by first | (simp only [h12, h14, ne_eq, not_true_eq_false, not_false_eq_true, or_true, true_or, or_false, false_or, and_true, true_and, and_false, false_and, decide_true, decide_false, or_self, and_self, Bool.decide_eq_true]; done) | simp [h12, h14]), trivial⟩⟩
      · -- no
        refine Ops.vg ⟨_, rfl, rfl⟩ (Yv.not rfl) ?_
        refine Ops.v (Yv.pick0 rfl rfl) ?_
        refine Ops.v (Yv.move rfl) ?_
        refine Ops.skip ⟨_, rfl, rfl⟩ ?_
        refine Ops.skip ⟨_, rfl, rfl⟩ ?_
        refine Ops.skip ⟨_, rfl, rfl⟩ ?_
        refine Ops.skip ⟨_, rfl, rfl⟩ ?_
        refine Ops.skip ⟨_, rfl, rfl⟩ ?_
        refine Ops.skip ⟨_, rfl, rfl⟩ ?_
        refine Ops.skip ⟨_, rfl, rfl⟩ ?_
        refine Ops.skip ⟨_, rfl, rfl⟩ ?_
        refine Ops.v (Yv.pick1 rfl rfl) ?_
        refine Ops.nil ?_
        refine ⟨hs13, Sub.le ⟨rfl, rfl, rfl, rfl, rfl, rfl, rfl, rfl, rfl, rfl, rfl, lookB rfl (by first | (simp only [h12, h14, ne_eq, not_true_eq_false, not_false_eq_true, or_true, true_or, or_false, false_or, and_true, true_and, and_false, false_and, decide_true, decide_false, or_self, and_self, Bool.decide_eq_true]; done) | simp [h12, h14]), trivial⟩⟩
  rintro e15 w15 ⟨hs15, he15⟩
  refine k11 _ _ ?_
  refine Run.le he15 ?_
  refine run_ifp rfl (fun h16 => ?_) (fun h16 => ?_)
  · -- yes (((wtE H) ≠ (0 : Int)) ∨ (¬ (liesP (m : Int) sw X Y W H))) ∨ ((m2 : Int) ≠ (W * H))
    refine run_seq fun K17 k17 => ?_
    refine run_region ?_
    refine Ops.v (Yv.assign rfl) ?_
    refine Ops.v (Yv.assign rfl) ?_
    refine Ops.nil ?_
    refine k17 _ _ ?_
    refine run_ret ?_
    refine ⟨[.slice none 0 0, .int .i64 2], ⟨_, _, rfl, rfl, ⟨_, _, rfl, rfl, rfl⟩⟩, ?_⟩
    obtain ⟨e1, e2⟩ := blend_nay (up := true) (own := xs) (oth := ys) (by rw [hlen_xs, hlen_ys]; exact blend_no h16)
    rw [e1, e2]
    exact ⟨none, 0, rfl, (hs15.pick [] [] (by decide) rfl).nilRow 5 1⟩
  · -- no
    have hok := blend_go h16
    have hwe := (wt_ok hok.1).2
    have hwl : ((wtOut H).length : Int) = H := by rw [hwe, wtTo_length]; omega
    have hlf := lies_facts hok.2.1
    have hWH := mul_bd (a := W) (b := H) (x := 64) (y := 64) (by omega) (by omega) (by omega) (by omega)
    have hq : (m2 : Int) = W * H := hok.2.2
    have hix := blend_idx (up := true) (n := H) rfl hlf.2.1.1 hq
    refine run_skip ?_
    refine k10 _ _ ?_
    refine run_seq fun K18 k18 => ?_
    refine run_region ?_
    refine Ops.v (Yv.move rfl) ?_
    refine Ops.s (Step.call rfl rfl (clone_fun (hs15.rd hr) (by omega)) (?_) True.intro (by rfl))
    rintro _ w22 ⟨Ad19, c20, rfl, hs22⟩
    replace hs22 := hs15.call hs22
    refine Ops.v (Yv.assign rfl) ?_
    refine Ops.nil ?_
    refine k18 _ _ ?_
    refine run_seq fun K23 k23 => ?_
    refine run_seq fun K24 k24 => ?_
    refine run_region ?_
    refine Ops.v (Yv.move rfl) ?_
    refine Ops.v (Yv.len (by rw [L22]; rfl) rfl) ?_
    refine Ops.v (Yv.move rfl) ?_
    refine Ops.nil ?_
    refine k24 _ _ ?_
    refine run_block ?_
    refine Run.sub [(0, _), (1, _), (2, _), (3, _), (4, _), (5, _), (8, _), (12, _), (13, _), (14, _), (15, _), (16, _), (46, _), (49, _), (50, _), (51, _)] ⟨rfl, rfl, rfl, rfl, rfl, rfl, rfl, rfl, rfl, rfl, rfl, rfl, rfl, rfl, rfl, rfl, trivial⟩ ?_
    refine run_loop (σ := Nat) (fun k e_ w_ => HS w [.row Ad19 m c20 (u8s (blendTo true sw X Y W H xs ys k)) 5 1, .row Ad6 ((wtOut H).length) c7 (i64s (wtOut H)) 3 1, .blk b2 [.int .i64 X, .int .i64 Y, .int .i64 W, .int .i64 H] 29] w_ ∧ e_ = [(0, .slice A m c), (1, .int .i64 sw), (2, .agg #[.int .i64 X, .int .i64 Y, .int .i64 W, .int .i64 H]), (3, .slice B m2 c2), (4, .int .i64 H), (5, .func (.func 45) #[] #[]), (8, .pointer (some ⟨b2, 0, none⟩)), (12, .slice none 0 0), (13, .int .i64 0), (14, .slice Ad6 ((wtOut H).length) c7), (15, .int .i64 (wtE H)), (16, .slice Ad19 m c20), (46, .bool (decide ((((wtE H) ≠ (0 : Int)) ∨ (¬ (liesP (m : Int) sw X Y W H))) ∨ ((m2 : Int) ≠ (W * H))))), (49, .slice B m2 c2), (50, .int .i64 (m2 : Int)), (51, .int .i64 (k : Int))] ∧ k ≤ m2)
      (fun k => m2 - k) 0 ?_ ?_
    · -- at the start
      refine ⟨hs22, rfl, by omega⟩
    · -- a round
      rintro k _ w25 ⟨hs25, rfl, f1⟩
      refine run_seq fun K26 k26 => ?_
      refine run_region ?_
      refine Ops.v (Yv.lt rfl rfl) ?_
      refine Ops.nil ?_
      refine k26 _ _ ?_
      refine run_seq fun K27 k27 => ?_
      refine run_ifp rfl (fun h28 => ?_) (fun h28 => ?_)
      · -- yes (k : Int) < (m2 : Int)
        have hk1 : (k : Int) < W * H := by omega
        have hxy := rect_xy hlf.2.1.1 hk1
        have hin := blend_in (m := m) hok.2.1 hk1
        unfold bAt at hin
        have hlb := blendTo_length true sw X Y W H xs ys k
        have hmy := mul_bd (a := Y + (k : Int) / W) (b := sw) (x := 64) (y := 64) (by omega) (by omega) (by omega) (by omega)
        have hwb : 32 ≤ gi (wtOut H) ((k : Int) / W) ∧ gi (wtOut H) ((k : Int) / W) ≤ 63 := by rw [hwe]; exact wt_bd (by omega) (by omega) (by omega)
        refine run_skip ?_
        refine k27 _ _ ?_
        refine run_seq fun K29 k29 => ?_
        refine run_block ?_
        refine run_seq fun K30 k30 => ?_
        refine run_region ?_
        refine Ops.v (Yv.move rfl) ?_
        refine Ops.v (Yv.idx L22 rfl rfl ((hs25.rd hr2).isSome (i := (k : Int)) (by omega) (by omega)) (by omega) (by omega)) ?_
        refine Ops.v (Yv.load A5 rfl (now ((hs25.rd hr2).u8 (by omega) (by omega)))) ?_
        have g31 := gi_bytes (xs := ys) hy (k : Int)
        refine Ops.v (Yv.assign rfl) ?_
        refine Ops.v (Yv.assign rfl) ?_
        have g31 := gi_bytes (xs := ys) hy (k : Int)
        refine Ops.nil ?_
        refine k30 _ _ ?_
        refine run_seq fun K32 k32 => ?_
        refine run_drawn [] (fun x => Below (w25.drew).heap.size (w25.drew) x) ?_ Tf.mixed (by kernel_rfl) (fun _ _ _ h => h)
        have hs33 := hs25.drew
        have hS34 := Below.refl (w25.drew).heap.size (w25.drew)
        refine Drw.a 0 rfl (by kernel_rfl) (Yv.move rfl) ?_
        refine Drw.a 1 rfl (by kernel_rfl) (Yv.fld F29_2 rfl) ?_
        refine Drw.l 2 rfl (by kernel_rfl) hS34 (Yv.load A3 rfl (fun _ hq_ => ((hs33.grow hq_).cell 2 rfl 2 rfl))) ?_
        refine Drw.a 3 rfl (by kernel_rfl) (Yv.rem rfl rfl (by omega) (by omega)) ?_
        refine Drw.a 4 rfl (by kernel_rfl) (Yv.move rfl) ?_
        refine Drw.a 5 rfl (by kernel_rfl) (Yv.fld F29_2 rfl) ?_
        refine Drw.l 6 rfl (by kernel_rfl) hS34 (Yv.load A3 rfl (fun _ hq_ => ((hs33.grow hq_).cell 2 rfl 2 rfl))) ?_
        refine Drw.a 7 rfl (by kernel_rfl) (Yv.quo rfl rfl (by omega) (by omega) (by omega)) ?_
        refine Drw.a 8 rfl (by kernel_rfl) (Yv.assign rfl) ?_
        refine Drw.a 9 rfl (by kernel_rfl) (Yv.assign rfl) ?_
        refine Drw.done ?_ (by kernel_rfl)
        refine k32 _ _ ?_
        refine run_seq fun K35 k35 => ?_
        refine run_region ?_
        refine Ops.v (Yv.move rfl) ?_
        refine Ops.v (Yv.move rfl) ?_
        refine Ops.v (Yv.move rfl) ?_
        refine Ops.v (Yv.move rfl) ?_
        refine Ops.s (Step.call rfl rfl (along1_fun) (?_) True.intro (by rfl))
        rintro _ _ ⟨rfl, rfl⟩
        refine Ops.v (Yv.idx L45 rfl rfl ((hs33.rdRow 1 rfl).isSome (i := (k : Int) / W) (by omega) (by omega)) (by omega) (by omega)) ?_
        refine Ops.v (Yv.load A3 rfl (now ((hs33.rdRow 1 rfl).i64 (by omega) (by omega)))) ?_
        refine Ops.v (Yv.assign rfl) ?_
        refine Ops.nil ?_
        refine k35 _ _ ?_
        refine run_seq fun K37 k37 => ?_
        refine run_region ?_
        refine Ops.v (Yv.fld F29_1 rfl) ?_
        refine Ops.v (Yv.load A3 rfl (now (hs33.cell 2 rfl 1 rfl))) ?_
        refine Ops.v (Yv.move rfl) ?_
        refine Ops.v (Yv.add rfl rfl (by omega)) ?_
        refine Ops.v (Yv.move rfl) ?_
        refine Ops.v (Yv.mul rfl rfl (by omega)) ?_
        refine Ops.v (Yv.fld F29_0 rfl) ?_
        refine Ops.v (Yv.load A3 rfl (now (hs33.cell 2 rfl 0 rfl))) ?_
        refine Ops.v (Yv.add rfl rfl (by omega)) ?_
        refine Ops.v (Yv.move rfl) ?_
        refine Ops.v (Yv.add rfl rfl (by omega)) ?_
        refine Ops.v (Yv.assign rfl) ?_
        refine Ops.nil ?_
        refine k37 _ _ ?_
        refine run_region ?_
        refine Ops.v (Yv.move rfl) ?_
        refine Ops.v (Yv.move rfl) ?_
        refine Ops.v (Yv.move rfl) ?_
        refine Ops.v (Yv.move rfl) ?_
        refine Ops.v (Yv.move rfl) ?_
        refine Ops.v (Yv.idx L22 rfl rfl ((hs33.rdRow 0 rfl).isSome (i := (((Y + ((k : Int) / W)) * sw) + X) + ((k : Int) % W)) (by omega) (by omega)) (by omega) (by omega)) ?_
        refine Ops.v (Yv.load A5 rfl (now ((hs33.rdRow 0 rfl).u8 (by omega) (by omega)))) ?_
        have g38 := gi_bytes (xs := blendTo true sw X Y W H xs ys k) (blendTo_bytes (by omega) (by omega) hix hx hy k f1) ((((Y + ((k : Int) / W)) * sw) + X) + ((k : Int) % W))
        refine Ops.v (Yv.toInt U3 V5 rfl (by omega)) ?_
        have hp1 := mul_bd (a := (gi (wtOut H) ((k : Int) / W))) (b := (gi (blendTo true sw X Y W H xs ys k) ((((Y + ((k : Int) / W)) * sw) + X) + ((k : Int) % W)))) (x := 64) (y := 255) (by omega) (by omega) (by omega) (by omega)
        refine Ops.v (Yv.mul rfl rfl (by omega)) ?_
        refine Ops.v (Yv.move rfl) ?_
        refine Ops.v (Yv.sub rfl rfl (by omega)) ?_
        refine Ops.v (Yv.move rfl) ?_
        have g31 := gi_bytes (xs := ys) hy (k : Int)
        refine Ops.v (Yv.toInt U3 V5 rfl (by omega)) ?_
        have hp2 := mul_bd (a := ((64 : Int) - (gi (wtOut H) ((k : Int) / W)))) (b := (gi ys (k : Int))) (x := 64) (y := 255) (by omega) (by omega) (by omega) (by omega)
        refine Ops.v (Yv.mul rfl rfl (by omega)) ?_
        have hmx := mix_bd (k := (gi (wtOut H) ((k : Int) / W))) (a := (gi (blendTo true sw X Y W H xs ys k) ((((Y + ((k : Int) / W)) * sw) + X) + ((k : Int) % W)))) (b := (gi ys (k : Int))) (by omega) (by omega) (by omega)
        refine Ops.v (Yv.add rfl rfl (by omega)) ?_
        refine Ops.v (Yv.add rfl rfl (by omega)) ?_
        refine Ops.v (Yv.shr rfl rfl 6 (by first | rfl | omega) (by omega)) ?_
        refine Ops.v (Yv.toByte U5 V3 rfl (by omega)) ?_
        refine Ops.v (Yv.idx L22 rfl rfl ((hs33.rdRow 0 rfl).isSome (i := (((Y + ((k : Int) / W)) * sw) + X) + ((k : Int) % W)) (by omega) (by omega)) (by omega) (by omega)) ?_
        refine Ops.s (Step.storeRow (vs := [.int .u8 (((((gi (wtOut H) ((k : Int) / W)) * (gi (blendTo true sw X Y W H xs ys k) ((((Y + ((k : Int) / W)) * sw) + X) + ((k : Int) % W)))) + (((64 : Int) - (gi (wtOut H) ((k : Int) / W))) * (gi ys (k : Int)))) + 32) / 2 ^ 6)]) 0 hs33 rfl rfl rfl rfl S5 (by have hl_ := (hs33.rdRow 0 rfl).len; show ((((Y + ((k : Int) / W)) * sw) + X) + ((k : Int) % W)).toNat * 1 + 1 ≤ _; omega) (Nat.succ_pos _) rfl (fun w39 hs39 => ?_) True.intro)
        have hs39_ := u8s_put (xs := blendTo true sw X Y W H xs ys k) (i := ((((Y + ((k : Int) / W)) * sw) + X) + ((k : Int) % W)).toNat * 1) (v := ((((gi (wtOut H) ((k : Int) / W)) * (gi (blendTo true sw X Y W H xs ys k) ((((Y + ((k : Int) / W)) * sw) + X) + ((k : Int) % W)))) + (((64 : Int) - (gi (wtOut H) ((k : Int) / W))) * (gi ys (k : Int)))) + 32) / 2 ^ 6) (by have hl_ := (hs33.rdRow 0 rfl).len; rw [u8s_length] at hl_; omega)
        simp only [Nat.mul_one] at hs39_
        replace hs39 : HS w [.row Ad19 m c20 (u8s ((blendTo true sw X Y W H xs ys k).set (((((Y + ((k : Int) / W)) * sw) + X) + ((k : Int) % W)).toNat) (((((gi (wtOut H) ((k : Int) / W)) * (gi (blendTo true sw X Y W H xs ys k) ((((Y + ((k : Int) / W)) * sw) + X) + ((k : Int) % W)))) + (((64 : Int) - (gi (wtOut H) ((k : Int) / W))) * (gi ys (k : Int)))) + 32) / 2 ^ 6))) 5 1, .row Ad6 ((wtOut H).length) c7 (i64s (wtOut H)) 3 1, .blk b2 [.int .i64 X, .int .i64 Y, .int .i64 W, .int .i64 H] 29] w39 := by simpa only [List.set, Nat.mul_one, hs39_] using hs39
        refine Ops.nil ?_
        refine k29 _ _ ?_
        refine run_region ?_
        refine Ops.v (Yv.add rfl rfl (by omega)) ?_
        refine Ops.v (Yv.move rfl) ?_
        refine Ops.nil ?_
        refine ⟨k + 1, _, ⟨(hs39.to (by rw [hwe]; rfl)), rfl, by omega⟩, Sub.le ⟨rfl, rfl, rfl, rfl, rfl, rfl, rfl, rfl, rfl, rfl, rfl, rfl, rfl, rfl, rfl, lookI rfl (by omega), trivial⟩, by omega⟩
      · -- no
        refine run_exit ?_
        refine k23 _ _ ?_
        refine run_seq fun K40 k40 => ?_
        refine run_region ?_
        refine Ops.v (Yv.move rfl) ?_
        refine Ops.v (Yv.assign rfl) ?_
        refine Ops.v (Yv.assign rfl) ?_
        refine Ops.nil ?_
        refine k40 _ _ ?_
        refine run_ret ?_
        refine ⟨[.slice Ad19 m c20, .int .i64 0], ⟨_, _, rfl, rfl, ⟨_, _, rfl, rfl, rfl⟩⟩, ?_⟩
        obtain ⟨e1, e2⟩ := blend_yes (up := true) (own := xs) (oth := ys) (by rw [hlen_xs, hlen_ys]; exact hok)
        rw [e1, e2, blendTo_length, hlen_xs, hlen_ys, show m2 = k from by omega]
        have hz := hs25.pick [0] [.row Ad19 m c20 (u8s (blendTo true sw X Y W H xs ys k)) 5 1] (by decide) rfl
        exact ⟨_, _, rfl, hz⟩

theorem blend_lie {w : World} {A : Option Addr} {m c : Nat} {xs : List Int} (hr : Rd w A m 1 (u8s xs)) (hx : Bytes xs) {B : Option Addr} {m2 c2 : Nat} {ys : List Int} (hr2 : Rd w B m2 1 (u8s ys)) (hy : Bytes ys) {sw X Y W H : Int} (hcap : m ≤ 140737488355328) : Fun Try.prog 44 [.slice A m c, .int .i64 sw, .agg #[.int .i64 X, .int .i64 Y, .int .i64 W, .int .i64 H], .slice B m2 c2, .int .i64 W, .func (.func 48) #[] #[]] w fun v w' => ∃ A' c', v = .tuple #[.slice A' (blendOut false xs ys sw X Y W H W).length c', .int .i64 (blendE xs ys sw X Y W H W)] ∧ HS w [.row A' (blendOut false xs ys sw X Y W H W).length c' (u8s (blendOut false xs ys sw X Y W H W)) 5 1] w' := by
  refine fun_run (m := 103) (rs := [.tmp 12, .tmp 13]) Try.func44 rfl rfl rfl rfl rfl ?_
  have hs0 := HS.start w
  have hbig := hr.big
  have hlen_xs : xs.length = m := by have := hr.len; rw [u8s_length] at this; omega
  have hlen_ys : ys.length = m2 := by have := hr2.len; rw [u8s_length] at this; omega
  refine run_seq fun K1 k1 => ?_
  refine run_region ?_
  refine Ops.s (Step.box (cs := [.int .i64 X, .int .i64 Y, .int .i64 W, .int .i64 H]) hs0 rfl rfl (fun b2 w3 hs3 hb3 => ?_) True.intro (by rfl))
  refine Ops.v (Yv.assign rfl) ?_
  refine Ops.v (Yv.assign rfl) ?_
  refine Ops.nil ?_
  refine k1 _ _ ?_
  refine run_seq fun K5 k5 => ?_
  refine run_region ?_
  refine Ops.v (Yv.move rfl) ?_
  refine Ops.s (Step.call rfl rfl (weights_fun) (?_) True.intro (by rfl))
  rintro _ w9 ⟨Ad6, c7, rfl, hs9⟩
  replace hs9 := hs3.call hs9
  refine Ops.v (Yv.move rfl) ?_
  refine Ops.v (Yv.extract rfl rfl) ?_
  refine Ops.v (Yv.extract rfl rfl) ?_
  refine Ops.v (Yv.assign rfl) ?_
  refine Ops.v (Yv.assign rfl) ?_
  refine Ops.nil ?_
  refine k5 _ _ ?_
  refine run_seq fun K10 k10 => ?_
  refine run_seq fun K11 k11 => ?_
  refine Run.cut (fun e_ w_ => HS w [.row Ad6 ((wtOut W).length) c7 (i64s (wtOut W)) 3 1, .blk b2 [.int .i64 X, .int .i64 Y, .int .i64 W, .int .i64 H] 29] w_ ∧ Le [(0, .slice A m c), (1, .int .i64 sw), (2, .agg #[.int .i64 X, .int .i64 Y, .int .i64 W, .int .i64 H]), (3, .slice B m2 c2), (4, .int .i64 W), (5, .func (.func 48) #[] #[]), (8, .pointer (some ⟨b2, 0, none⟩)), (12, .slice none 0 0), (13, .int .i64 0), (14, .slice Ad6 ((wtOut W).length) c7), (15, .int .i64 (wtE W)), (46, .bool (decide ((((wtE W) ≠ (0 : Int)) ∨ (¬ (liesP (m : Int) sw X Y W H))) ∨ ((m2 : Int) ≠ (W * H)))))] e_) ?_ ?_
  · -- region 2: its ways meet again
    refine run_region ?_
    refine Ops.v (Yv.move rfl) ?_
    refine Ops.v (Yv.ne rfl rfl) ?_
    refine Ops.dec (fun h12 => ?_) (fun h12 => ?_)
    · -- yes
      refine Ops.v (Yv.move rfl) ?_
      refine Ops.skip ⟨_, rfl, rfl⟩ ?_
      refine Ops.skip ⟨_, rfl, rfl⟩ ?_
      refine Ops.skip ⟨_, rfl, rfl⟩ ?_
      refine Ops.skip ⟨_, rfl, rfl⟩ ?_
      refine Ops.skip ⟨_, rfl, rfl⟩ ?_
      refine Ops.v (Yv.pick1 rfl rfl) ?_
      refine Ops.v (Yv.move rfl) ?_
      refine Ops.skip ⟨_, rfl, rfl⟩ ?_
      refine Ops.skip ⟨_, rfl, rfl⟩ ?_
      refine Ops.skip ⟨_, rfl, rfl⟩ ?_
      refine Ops.skip ⟨_, rfl, rfl⟩ ?_
      refine Ops.skip ⟨_, rfl, rfl⟩ ?_
      refine Ops.skip ⟨_, rfl, rfl⟩ ?_
      refine Ops.skip ⟨_, rfl, rfl⟩ ?_
      refine Ops.skip ⟨_, rfl, rfl⟩ ?_
      refine Ops.v (Yv.pick1 rfl rfl) ?_
      refine Ops.nil ?_
      refine ⟨hs9, Sub.le ⟨rfl, rfl, rfl, rfl, rfl, rfl, rfl, rfl, rfl, rfl, rfl, lookB rfl (by first | (simp only [h12, ne_eq, not_true_eq_false, not_false_eq_true, or_true, true_or, or_false, false_or, and_true, true_and, and_false, false_and, decide_true, decide_false, or_self, and_self, Bool.decide_eq_true]; done) | simp [h12]), trivial⟩⟩
    · -- no
      refine Ops.v (Yv.move rfl) ?_
      refine Ops.vg ⟨_, rfl, rfl⟩ (Yv.move rfl) ?_
      refine Ops.vg ⟨_, rfl, rfl⟩ (Yv.move rfl) ?_
      refine Ops.vg ⟨_, rfl, rfl⟩ (Yv.loadn (cs := [.int .i64 X, .int .i64 Y, .int .i64 W, .int .i64 H]) A29 S29 rfl (now (hs9.cells 1 rfl 0 4))) ?_
      refine Ops.s (Step.call rfl rfl (lies_fun (by omega)) (?_) ⟨_, rfl, rfl⟩ (by rfl))
      rintro _ w13 ⟨rfl, hs13⟩
      replace hs13 := hs9.call hs13
      refine Ops.dec (fun h14 => ?_) (fun h14 => ?_)
      · -- yes
        refine Ops.vg ⟨_, rfl, rfl⟩ (Yv.not rfl) ?_
        refine Ops.v (Yv.pick0 rfl rfl) ?_
        refine Ops.v (Yv.move rfl) ?_
        refine Ops.vg ⟨_, rfl, rfl⟩ (Yv.move rfl) ?_
        refine Ops.vg ⟨_, rfl, rfl⟩ (Yv.len (by rw [L22]; rfl) rfl) ?_
        refine Ops.vg ⟨_, rfl, rfl⟩ (Yv.fld F29_2 rfl) ?_
        refine Ops.vg ⟨_, rfl, rfl⟩ (Yv.load A3 rfl (now (hs13.cell 1 rfl 2 rfl))) ?_
        refine Ops.vg ⟨_, rfl, rfl⟩ (Yv.fld F29_3 rfl) ?_
        have hl9 := lies_facts h14
        have hWH9 := mul_bd (a := W) (b := H) (x := 64) (y := 64) (by omega) (by omega) (by omega) (by omega)
        refine Ops.vg ⟨_, rfl, rfl⟩ (Yv.load A3 rfl (now (hs13.cell 1 rfl 3 rfl))) ?_
        refine Ops.vg ⟨_, rfl, rfl⟩ (Yv.mul rfl rfl (by omega)) ?_
        refine Ops.vg ⟨_, rfl, rfl⟩ (Yv.ne rfl rfl) ?_
        refine Ops.v (Yv.pick0 rfl rfl) ?_
        refine Ops.nil ?_
        refine ⟨hs13, Sub.le ⟨rfl, rfl, rfl, rfl, rfl, rfl, rfl, rfl, rfl, rfl, rfl, lookB rfl (by first | (simp only [h12, h14, ne_eq, not_true_eq_false, not_false_eq_true, or_true, true_or, or_false, false_or, and_true, true_and, and_false, false_and, decide_true, decide_false, or_self, and_self, Bool.decide_eq_true]; done) | simp [h12, h14]), trivial⟩⟩
      · -- no
        refine Ops.vg ⟨_, rfl, rfl⟩ (Yv.not rfl) ?_
        refine Ops.v (Yv.pick0 rfl rfl) ?_
        refine Ops.v (Yv.move rfl) ?_
        refine Ops.skip ⟨_, rfl, rfl⟩ ?_
        refine Ops.skip ⟨_, rfl, rfl⟩ ?_
        refine Ops.skip ⟨_, rfl, rfl⟩ ?_
        refine Ops.skip ⟨_, rfl, rfl⟩ ?_
        refine Ops.skip ⟨_, rfl, rfl⟩ ?_
        refine Ops.skip ⟨_, rfl, rfl⟩ ?_
        refine Ops.skip ⟨_, rfl, rfl⟩ ?_
        refine Ops.skip ⟨_, rfl, rfl⟩ ?_
        refine Ops.v (Yv.pick1 rfl rfl) ?_
        refine Ops.nil ?_
        refine ⟨hs13, Sub.le ⟨rfl, rfl, rfl, rfl, rfl, rfl, rfl, rfl, rfl, rfl, rfl, lookB rfl (by first | (simp only [h12, h14, ne_eq, not_true_eq_false, not_false_eq_true, or_true, true_or, or_false, false_or, and_true, true_and, and_false, false_and, decide_true, decide_false, or_self, and_self, Bool.decide_eq_true]; done) | simp [h12, h14]), trivial⟩⟩
  rintro e15 w15 ⟨hs15, he15⟩
  refine k11 _ _ ?_
  refine Run.le he15 ?_
  refine run_ifp rfl (fun h16 => ?_) (fun h16 => ?_)
  · -- yes (((wtE W) ≠ (0 : Int)) ∨ (¬ (liesP (m : Int) sw X Y W H))) ∨ ((m2 : Int) ≠ (W * H))
    refine run_seq fun K17 k17 => ?_
    refine run_region ?_
    refine Ops.v (Yv.assign rfl) ?_
    refine Ops.v (Yv.assign rfl) ?_
    refine Ops.nil ?_
    refine k17 _ _ ?_
    refine run_ret ?_
    refine ⟨[.slice none 0 0, .int .i64 2], ⟨_, _, rfl, rfl, ⟨_, _, rfl, rfl, rfl⟩⟩, ?_⟩
    obtain ⟨e1, e2⟩ := blend_nay (up := false) (own := xs) (oth := ys) (by rw [hlen_xs, hlen_ys]; exact blend_no h16)
    rw [e1, e2]
    exact ⟨none, 0, rfl, (hs15.pick [] [] (by decide) rfl).nilRow 5 1⟩
  · -- no
    have hok := blend_go h16
    have hwe := (wt_ok hok.1).2
    have hwl : ((wtOut W).length : Int) = W := by rw [hwe, wtTo_length]; omega
    have hlf := lies_facts hok.2.1
    have hWH := mul_bd (a := W) (b := H) (x := 64) (y := 64) (by omega) (by omega) (by omega) (by omega)
    have hq : (m2 : Int) = W * H := hok.2.2
    have hix := blend_idx (up := false) (n := W) rfl hlf.2.1.1 hq
    refine run_skip ?_
    refine k10 _ _ ?_
    refine run_seq fun K18 k18 => ?_
    refine run_region ?_
    refine Ops.v (Yv.move rfl) ?_
    refine Ops.s (Step.call rfl rfl (clone_fun (hs15.rd hr) (by omega)) (?_) True.intro (by rfl))
    rintro _ w22 ⟨Ad19, c20, rfl, hs22⟩
    replace hs22 := hs15.call hs22
    refine Ops.v (Yv.assign rfl) ?_
    refine Ops.nil ?_
    refine k18 _ _ ?_
    refine run_seq fun K23 k23 => ?_
    refine run_seq fun K24 k24 => ?_
    refine run_region ?_
    refine Ops.v (Yv.move rfl) ?_
    refine Ops.v (Yv.len (by rw [L22]; rfl) rfl) ?_
    refine Ops.v (Yv.move rfl) ?_
    refine Ops.nil ?_
    refine k24 _ _ ?_
    refine run_block ?_
    refine Run.sub [(0, _), (1, _), (2, _), (3, _), (4, _), (5, _), (8, _), (12, _), (13, _), (14, _), (15, _), (16, _), (46, _), (49, _), (50, _), (51, _)] ⟨rfl, rfl, rfl, rfl, rfl, rfl, rfl, rfl, rfl, rfl, rfl, rfl, rfl, rfl, rfl, rfl, trivial⟩ ?_
    refine run_loop (σ := Nat) (fun k e_ w_ => HS w [.row Ad19 m c20 (u8s (blendTo false sw X Y W W xs ys k)) 5 1, .row Ad6 ((wtOut W).length) c7 (i64s (wtOut W)) 3 1, .blk b2 [.int .i64 X, .int .i64 Y, .int .i64 W, .int .i64 H] 29] w_ ∧ e_ = [(0, .slice A m c), (1, .int .i64 sw), (2, .agg #[.int .i64 X, .int .i64 Y, .int .i64 W, .int .i64 H]), (3, .slice B m2 c2), (4, .int .i64 W), (5, .func (.func 48) #[] #[]), (8, .pointer (some ⟨b2, 0, none⟩)), (12, .slice none 0 0), (13, .int .i64 0), (14, .slice Ad6 ((wtOut W).length) c7), (15, .int .i64 (wtE W)), (16, .slice Ad19 m c20), (46, .bool (decide ((((wtE W) ≠ (0 : Int)) ∨ (¬ (liesP (m : Int) sw X Y W H))) ∨ ((m2 : Int) ≠ (W * H))))), (49, .slice B m2 c2), (50, .int .i64 (m2 : Int)), (51, .int .i64 (k : Int))] ∧ k ≤ m2)
      (fun k => m2 - k) 0 ?_ ?_
    · -- at the start
      refine ⟨hs22, rfl, by omega⟩
    · -- a round
      rintro k _ w25 ⟨hs25, rfl, f1⟩
      refine run_seq fun K26 k26 => ?_
      refine run_region ?_
      refine Ops.v (Yv.lt rfl rfl) ?_
      refine Ops.nil ?_
      refine k26 _ _ ?_
      refine run_seq fun K27 k27 => ?_
      refine run_ifp rfl (fun h28 => ?_) (fun h28 => ?_)
      · -- yes (k : Int) < (m2 : Int)
        have hk1 : (k : Int) < W * H := by omega
        have hxy := rect_xy hlf.2.1.1 hk1
        have hin := blend_in (m := m) hok.2.1 hk1
        unfold bAt at hin
        have hlb := blendTo_length false sw X Y W W xs ys k
        have hmy := mul_bd (a := Y + (k : Int) / W) (b := sw) (x := 64) (y := 64) (by omega) (by omega) (by omega) (by omega)
        have hwb : 32 ≤ gi (wtOut W) ((k : Int) % W) ∧ gi (wtOut W) ((k : Int) % W) ≤ 63 := by rw [hwe]; exact wt_bd (by omega) (by omega) (by omega)
        refine run_skip ?_
        refine k27 _ _ ?_
        refine run_seq fun K29 k29 => ?_
        refine run_block ?_
        refine run_seq fun K30 k30 => ?_
        refine run_region ?_
        refine Ops.v (Yv.move rfl) ?_
        refine Ops.v (Yv.idx L22 rfl rfl ((hs25.rd hr2).isSome (i := (k : Int)) (by omega) (by omega)) (by omega) (by omega)) ?_
        refine Ops.v (Yv.load A5 rfl (now ((hs25.rd hr2).u8 (by omega) (by omega)))) ?_
        have g31 := gi_bytes (xs := ys) hy (k : Int)
        refine Ops.v (Yv.assign rfl) ?_
        refine Ops.v (Yv.assign rfl) ?_
        have g31 := gi_bytes (xs := ys) hy (k : Int)
        refine Ops.nil ?_
        refine k30 _ _ ?_
        refine run_seq fun K32 k32 => ?_
        refine run_drawn [] (fun x => Below (w25.drew).heap.size (w25.drew) x) ?_ Tf.mixed (by kernel_rfl) (fun _ _ _ h => h)
        have hs33 := hs25.drew
        have hS34 := Below.refl (w25.drew).heap.size (w25.drew)
        refine Drw.a 0 rfl (by kernel_rfl) (Yv.move rfl) ?_
        refine Drw.a 1 rfl (by kernel_rfl) (Yv.fld F29_2 rfl) ?_
        refine Drw.l 2 rfl (by kernel_rfl) hS34 (Yv.load A3 rfl (fun _ hq_ => ((hs33.grow hq_).cell 2 rfl 2 rfl))) ?_
        refine Drw.a 3 rfl (by kernel_rfl) (Yv.rem rfl rfl (by omega) (by omega)) ?_
        refine Drw.a 4 rfl (by kernel_rfl) (Yv.move rfl) ?_
        refine Drw.a 5 rfl (by kernel_rfl) (Yv.fld F29_2 rfl) ?_
        refine Drw.l 6 rfl (by kernel_rfl) hS34 (Yv.load A3 rfl (fun _ hq_ => ((hs33.grow hq_).cell 2 rfl 2 rfl))) ?_
        refine Drw.a 7 rfl (by kernel_rfl) (Yv.quo rfl rfl (by omega) (by omega) (by omega)) ?_
        refine Drw.a 8 rfl (by kernel_rfl) (Yv.assign rfl) ?_
        refine Drw.a 9 rfl (by kernel_rfl) (Yv.assign rfl) ?_
        refine Drw.done ?_ (by kernel_rfl)
        refine k32 _ _ ?_
        refine run_seq fun K35 k35 => ?_
        refine run_region ?_
        refine Ops.v (Yv.move rfl) ?_
        refine Ops.v (Yv.move rfl) ?_
        refine Ops.v (Yv.move rfl) ?_
        refine Ops.v (Yv.move rfl) ?_
        refine Ops.s (Step.call rfl rfl (along0_fun) (?_) True.intro (by rfl))
        rintro _ _ ⟨rfl, rfl⟩
        refine Ops.v (Yv.idx L45 rfl rfl ((hs33.rdRow 1 rfl).isSome (i := (k : Int) % W) (by omega) (by omega)) (by omega) (by omega)) ?_
        refine Ops.v (Yv.load A3 rfl (now ((hs33.rdRow 1 rfl).i64 (by omega) (by omega)))) ?_
        refine Ops.v (Yv.assign rfl) ?_
        refine Ops.nil ?_
        refine k35 _ _ ?_
        refine run_seq fun K37 k37 => ?_
        refine run_region ?_
        refine Ops.v (Yv.fld F29_1 rfl) ?_
        refine Ops.v (Yv.load A3 rfl (now (hs33.cell 2 rfl 1 rfl))) ?_
        refine Ops.v (Yv.move rfl) ?_
        refine Ops.v (Yv.add rfl rfl (by omega)) ?_
        refine Ops.v (Yv.move rfl) ?_
        refine Ops.v (Yv.mul rfl rfl (by omega)) ?_
        refine Ops.v (Yv.fld F29_0 rfl) ?_
        refine Ops.v (Yv.load A3 rfl (now (hs33.cell 2 rfl 0 rfl))) ?_
        refine Ops.v (Yv.add rfl rfl (by omega)) ?_
        refine Ops.v (Yv.move rfl) ?_
        refine Ops.v (Yv.add rfl rfl (by omega)) ?_
        refine Ops.v (Yv.assign rfl) ?_
        refine Ops.nil ?_
        refine k37 _ _ ?_
        refine run_region ?_
        refine Ops.v (Yv.move rfl) ?_
        refine Ops.v (Yv.move rfl) ?_
        refine Ops.v (Yv.move rfl) ?_
        refine Ops.v (Yv.move rfl) ?_
        refine Ops.v (Yv.move rfl) ?_
        refine Ops.v (Yv.idx L22 rfl rfl ((hs33.rdRow 0 rfl).isSome (i := (((Y + ((k : Int) / W)) * sw) + X) + ((k : Int) % W)) (by omega) (by omega)) (by omega) (by omega)) ?_
        refine Ops.v (Yv.load A5 rfl (now ((hs33.rdRow 0 rfl).u8 (by omega) (by omega)))) ?_
        have g38 := gi_bytes (xs := blendTo false sw X Y W W xs ys k) (blendTo_bytes (by omega) (by omega) hix hx hy k f1) ((((Y + ((k : Int) / W)) * sw) + X) + ((k : Int) % W))
        refine Ops.v (Yv.toInt U3 V5 rfl (by omega)) ?_
        have hp1 := mul_bd (a := (gi (wtOut W) ((k : Int) % W))) (b := (gi (blendTo false sw X Y W W xs ys k) ((((Y + ((k : Int) / W)) * sw) + X) + ((k : Int) % W)))) (x := 64) (y := 255) (by omega) (by omega) (by omega) (by omega)
        refine Ops.v (Yv.mul rfl rfl (by omega)) ?_
        refine Ops.v (Yv.move rfl) ?_
        refine Ops.v (Yv.sub rfl rfl (by omega)) ?_
        refine Ops.v (Yv.move rfl) ?_
        have g31 := gi_bytes (xs := ys) hy (k : Int)
        refine Ops.v (Yv.toInt U3 V5 rfl (by omega)) ?_
        have hp2 := mul_bd (a := ((64 : Int) - (gi (wtOut W) ((k : Int) % W)))) (b := (gi ys (k : Int))) (x := 64) (y := 255) (by omega) (by omega) (by omega) (by omega)
        refine Ops.v (Yv.mul rfl rfl (by omega)) ?_
        have hmx := mix_bd (k := (gi (wtOut W) ((k : Int) % W))) (a := (gi (blendTo false sw X Y W W xs ys k) ((((Y + ((k : Int) / W)) * sw) + X) + ((k : Int) % W)))) (b := (gi ys (k : Int))) (by omega) (by omega) (by omega)
        refine Ops.v (Yv.add rfl rfl (by omega)) ?_
        refine Ops.v (Yv.add rfl rfl (by omega)) ?_
        refine Ops.v (Yv.shr rfl rfl 6 (by first | rfl | omega) (by omega)) ?_
        refine Ops.v (Yv.toByte U5 V3 rfl (by omega)) ?_
        refine Ops.v (Yv.idx L22 rfl rfl ((hs33.rdRow 0 rfl).isSome (i := (((Y + ((k : Int) / W)) * sw) + X) + ((k : Int) % W)) (by omega) (by omega)) (by omega) (by omega)) ?_
        refine Ops.s (Step.storeRow (vs := [.int .u8 (((((gi (wtOut W) ((k : Int) % W)) * (gi (blendTo false sw X Y W W xs ys k) ((((Y + ((k : Int) / W)) * sw) + X) + ((k : Int) % W)))) + (((64 : Int) - (gi (wtOut W) ((k : Int) % W))) * (gi ys (k : Int)))) + 32) / 2 ^ 6)]) 0 hs33 rfl rfl rfl rfl S5 (by have hl_ := (hs33.rdRow 0 rfl).len; show ((((Y + ((k : Int) / W)) * sw) + X) + ((k : Int) % W)).toNat * 1 + 1 ≤ _; omega) (Nat.succ_pos _) rfl (fun w39 hs39 => ?_) True.intro)
        have hs39_ := u8s_put (xs := blendTo false sw X Y W W xs ys k) (i := ((((Y + ((k : Int) / W)) * sw) + X) + ((k : Int) % W)).toNat * 1) (v := ((((gi (wtOut W) ((k : Int) % W)) * (gi (blendTo false sw X Y W W xs ys k) ((((Y + ((k : Int) / W)) * sw) + X) + ((k : Int) % W)))) + (((64 : Int) - (gi (wtOut W) ((k : Int) % W))) * (gi ys (k : Int)))) + 32) / 2 ^ 6) (by have hl_ := (hs33.rdRow 0 rfl).len; rw [u8s_length] at hl_; omega)
        simp only [Nat.mul_one] at hs39_
        replace hs39 : HS w [.row Ad19 m c20 (u8s ((blendTo false sw X Y W W xs ys k).set (((((Y + ((k : Int) / W)) * sw) + X) + ((k : Int) % W)).toNat) (((((gi (wtOut W) ((k : Int) % W)) * (gi (blendTo false sw X Y W W xs ys k) ((((Y + ((k : Int) / W)) * sw) + X) + ((k : Int) % W)))) + (((64 : Int) - (gi (wtOut W) ((k : Int) % W))) * (gi ys (k : Int)))) + 32) / 2 ^ 6))) 5 1, .row Ad6 ((wtOut W).length) c7 (i64s (wtOut W)) 3 1, .blk b2 [.int .i64 X, .int .i64 Y, .int .i64 W, .int .i64 H] 29] w39 := by simpa only [List.set, Nat.mul_one, hs39_] using hs39
        refine Ops.nil ?_
        refine k29 _ _ ?_
        refine run_region ?_
        refine Ops.v (Yv.add rfl rfl (by omega)) ?_
        refine Ops.v (Yv.move rfl) ?_
        refine Ops.nil ?_
        refine ⟨k + 1, _, ⟨(hs39.to (by rw [hwe]; rfl)), rfl, by omega⟩, Sub.le ⟨rfl, rfl, rfl, rfl, rfl, rfl, rfl, rfl, rfl, rfl, rfl, rfl, rfl, rfl, rfl, lookI rfl (by omega), trivial⟩, by omega⟩
      · -- no
        refine run_exit ?_
        refine k23 _ _ ?_
        refine run_seq fun K40 k40 => ?_
        refine run_region ?_
        refine Ops.v (Yv.move rfl) ?_
        refine Ops.v (Yv.assign rfl) ?_
        refine Ops.v (Yv.assign rfl) ?_
        refine Ops.nil ?_
        refine k40 _ _ ?_
        refine run_ret ?_
        refine ⟨[.slice Ad19 m c20, .int .i64 0], ⟨_, _, rfl, rfl, ⟨_, _, rfl, rfl, rfl⟩⟩, ?_⟩
        obtain ⟨e1, e2⟩ := blend_yes (up := false) (own := xs) (oth := ys) (by rw [hlen_xs, hlen_ys]; exact hok)
        rw [e1, e2, blendTo_length, hlen_xs, hlen_ys, show m2 = k from by omega]
        have hz := hs25.pick [0] [.row Ad19 m c20 (u8s (blendTo false sw X Y W W xs ys k)) 5 1] (by decide) rfl
        exact ⟨_, _, rfl, hz⟩

theorem above_fun {w : World} {A : Option Addr} {m c : Nat} {xs : List Int} (hr : Rd w A m 1 (u8s xs)) (hx : Bytes xs) {B : Option Addr} {m2 c2 : Nat} {ys : List Int} (hr2 : Rd w B m2 1 (u8s ys)) (hy : Bytes ys) {sw X Y W H : Int} (hcap : m ≤ 140737488355328) : Fun Try.prog 24 [.slice A m c, .int .i64 sw, .agg #[.int .i64 X, .int .i64 Y, .int .i64 W, .int .i64 H], .slice B m2 c2] w fun v w' => ∃ A' c', v = .tuple #[.slice A' (blendOut true xs ys sw X Y W H H).length c', .int .i64 (blendE xs ys sw X Y W H H)] ∧ HS w [.row A' (blendOut true xs ys sw X Y W H H).length c' (u8s (blendOut true xs ys sw X Y W H H)) 5 1] w' := by
  refine fun_run (m := 19) (rs := [.tmp 8, .tmp 9]) Try.func24 rfl rfl rfl rfl rfl ?_
  have hs0 := HS.start w
  have hbig := hr.big
  have hlen_xs : xs.length = m := by have := hr.len; rw [u8s_length] at this; omega
  have hlen_ys : ys.length = m2 := by have := hr2.len; rw [u8s_length] at this; omega
  refine run_seq fun K1 k1 => ?_
  refine run_region ?_
  refine Ops.s (Step.box (cs := [.int .i64 X, .int .i64 Y, .int .i64 W, .int .i64 H]) hs0 rfl rfl (fun b2 w3 hs3 hb3 => ?_) True.intro (by rfl))
  refine Ops.v (Yv.assign rfl) ?_
  refine Ops.v (Yv.assign rfl) ?_
  refine Ops.nil ?_
  refine k1 _ _ ?_
  refine run_seq fun K5 k5 => ?_
  refine run_region ?_
  refine Ops.v (Yv.move rfl) ?_
  refine Ops.v (Yv.move rfl) ?_
  refine Ops.v (Yv.loadn (cs := [.int .i64 X, .int .i64 Y, .int .i64 W, .int .i64 H]) A29 S29 rfl (now (hs3.cells 0 rfl 0 4))) ?_
  refine Ops.v (Yv.move rfl) ?_
  refine Ops.v (Yv.fld F29_3 rfl) ?_
  refine Ops.v (Yv.load A3 rfl (now (hs3.cell 0 rfl 3 rfl))) ?_
  refine Ops.s (Step.call rfl rfl (blend_up (hs3.rd hr) hx (hs3.rd hr2) hy (by omega)) (?_) True.intro (by rfl))
  rintro _ w9 ⟨Ad6, c7, rfl, hs9⟩
  replace hs9 := hs3.call hs9
  refine Ops.v (Yv.extract rfl rfl) ?_
  refine Ops.v (Yv.extract rfl rfl) ?_
  refine Ops.v (Yv.assign rfl) ?_
  refine Ops.v (Yv.assign rfl) ?_
  refine Ops.nil ?_
  refine k5 _ _ ?_
  refine run_ret ?_
  refine ⟨[.slice Ad6 ((blendOut true xs ys sw X Y W H H).length) c7, .int .i64 (blendE xs ys sw X Y W H H)], ⟨_, _, rfl, rfl, ⟨_, _, rfl, rfl, rfl⟩⟩, ?_⟩
  have hz := hs9.pick [0] [.row Ad6 ((blendOut true xs ys sw X Y W H H).length) c7 (u8s (blendOut true xs ys sw X Y W H H)) 5 1] (by decide) rfl
  exact ⟨_, _, rfl, hz⟩

theorem left_fun {w : World} {A : Option Addr} {m c : Nat} {xs : List Int} (hr : Rd w A m 1 (u8s xs)) (hx : Bytes xs) {B : Option Addr} {m2 c2 : Nat} {ys : List Int} (hr2 : Rd w B m2 1 (u8s ys)) (hy : Bytes ys) {sw X Y W H : Int} (hcap : m ≤ 140737488355328) : Fun Try.prog 26 [.slice A m c, .int .i64 sw, .agg #[.int .i64 X, .int .i64 Y, .int .i64 W, .int .i64 H], .slice B m2 c2] w fun v w' => ∃ A' c', v = .tuple #[.slice A' (blendOut false xs ys sw X Y W H W).length c', .int .i64 (blendE xs ys sw X Y W H W)] ∧ HS w [.row A' (blendOut false xs ys sw X Y W H W).length c' (u8s (blendOut false xs ys sw X Y W H W)) 5 1] w' := by
  refine fun_run (m := 19) (rs := [.tmp 8, .tmp 9]) Try.func26 rfl rfl rfl rfl rfl ?_
  have hs0 := HS.start w
  have hbig := hr.big
  have hlen_xs : xs.length = m := by have := hr.len; rw [u8s_length] at this; omega
  have hlen_ys : ys.length = m2 := by have := hr2.len; rw [u8s_length] at this; omega
  refine run_seq fun K1 k1 => ?_
  refine run_region ?_
  refine Ops.s (Step.box (cs := [.int .i64 X, .int .i64 Y, .int .i64 W, .int .i64 H]) hs0 rfl rfl (fun b2 w3 hs3 hb3 => ?_) True.intro (by rfl))
  refine Ops.v (Yv.assign rfl) ?_
  refine Ops.v (Yv.assign rfl) ?_
  refine Ops.nil ?_
  refine k1 _ _ ?_
  refine run_seq fun K5 k5 => ?_
  refine run_region ?_
  refine Ops.v (Yv.move rfl) ?_
  refine Ops.v (Yv.move rfl) ?_
  refine Ops.v (Yv.loadn (cs := [.int .i64 X, .int .i64 Y, .int .i64 W, .int .i64 H]) A29 S29 rfl (now (hs3.cells 0 rfl 0 4))) ?_
  refine Ops.v (Yv.move rfl) ?_
  refine Ops.v (Yv.fld F29_2 rfl) ?_
  refine Ops.v (Yv.load A3 rfl (now (hs3.cell 0 rfl 2 rfl))) ?_
  refine Ops.s (Step.call rfl rfl (blend_lie (hs3.rd hr) hx (hs3.rd hr2) hy (by omega)) (?_) True.intro (by rfl))
  rintro _ w9 ⟨Ad6, c7, rfl, hs9⟩
  replace hs9 := hs3.call hs9
  refine Ops.v (Yv.extract rfl rfl) ?_
  refine Ops.v (Yv.extract rfl rfl) ?_
  refine Ops.v (Yv.assign rfl) ?_
  refine Ops.v (Yv.assign rfl) ?_
  refine Ops.nil ?_
  refine k5 _ _ ?_
  refine run_ret ?_
  refine ⟨[.slice Ad6 ((blendOut false xs ys sw X Y W H W).length) c7, .int .i64 (blendE xs ys sw X Y W H W)], ⟨_, _, rfl, rfl, ⟨_, _, rfl, rfl, rfl⟩⟩, ?_⟩
  have hz := hs9.pick [0] [.row Ad6 ((blendOut false xs ys sw X Y W H W).length) c7 (u8s (blendOut false xs ys sw X Y W H W)) 5 1] (by decide) rfl
  exact ⟨_, _, rfl, hz⟩

end Go.Proofs.Zed
