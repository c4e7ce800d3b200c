/- The walks of subpel (chapter 14): Fetch of the program. -/
import Derived.Test.YtobfcnfkcmhmaaaMv
set_option linter.unusedVariables false
set_option linter.unusedSimpArgs false
namespace Go.Proofs.Zed
open Go Go.RowKit Tf
attribute [local irreducible] Try.prog

set_option maxHeartbeats 8000000 in
theorem fetch_fun {w : World} {W H : Int} {A : Option Addr} {m c : Nat} {xs : List Int} (hr : Rd w A m 1 (u8s xs)) (hx : Bytes xs) {x y bw bh kd : Int} (hmc : m ≤ c) : Fun Try.prog 38 [.agg #[.int .i64 W, .int .i64 H, .slice A m c], .int .i64 x, .int .i64 y, .int .i64 bw, .int .i64 bh, .int .i64 kd] w fun v w' => ∃ A' c', v = .tuple #[.slice A' (fetchOut xs W H m x y bw bh kd).length c', .int .i64 (fetchE W H m x y bw bh kd)] ∧ HS w [.row A' (fetchOut xs W H m x y bw bh kd).length c' (u8s (fetchOut xs W H m x y bw bh kd)) 5 1] w' := by
  refine fun_run (m := 162) (rs := [.tmp 12, .tmp 13]) Try.func38 rfl rfl rfl rfl rfl ?_
  have hs0 := HS.start w
  have hbig := hr.big
  have hlen_xs : xs.length = m := by have := hr.len; rw [u8s_length] at this; omega
  refine run_seq fun K1 k1 => ?_
  refine run_region ?_
  refine Ops.s (Step.box (cs := [.int .i64 W, .int .i64 H, .slice A m c]) hs0 rfl rfl (fun b2 w3 hs3 hb3 => ?_) True.intro (by rfl))
  refine Ops.v (Yv.assign rfl) ?_
  refine Ops.v (Yv.assign rfl) ?_
  refine Ops.nil ?_
  refine k1 _ _ ?_
  refine run_seq fun K5 k5 => ?_
  refine run_seq fun K6 k6 => ?_
  refine Run.cut (fun e_ w_ => HS w [.blk b2 [.int .i64 W, .int .i64 H, .slice A m c] 24] w_ ∧ Le [(0, .agg #[.int .i64 W, .int .i64 H, .slice A m c]), (1, .int .i64 x), (2, .int .i64 y), (3, .int .i64 bw), (4, .int .i64 bh), (5, .int .i64 kd), (6, .pointer (some ⟨b2, 0, none⟩)), (12, .slice none 0 0), (13, .int .i64 0), (55, .bool (decide ((((((checkF W H m) ≠ (0 : Int)) ∨ ((min x y) < ((-1048576) : Int))) ∨ ((1048576 : Int) < (max x y))) ∨ ((min bw bh) < (4 : Int))) ∨ ((64 : Int) < (max bw bh)))))] e_) ?_ ?_
  · -- region 1: its ways meet again
    refine run_region ?_
    refine Ops.v (Yv.loadn (cs := [.int .i64 W, .int .i64 H, .slice A m c]) A24 S24 rfl (now (hs3.cells 0 rfl 0 3))) ?_
    refine Ops.s (Step.call rfl rfl (check_fun) (?_) True.intro (by rfl))
    rintro _ w7 ⟨rfl, hs7⟩
    replace hs7 := hs3.call hs7
    refine Ops.v (Yv.ne rfl rfl) ?_
    refine Ops.dec (fun h8 => ?_) (fun h8 => ?_)
    · -- yes
      refine Ops.v (Yv.move rfl) ?_
      refine Ops.skip ⟨_, rfl, rfl⟩ ?_
      refine Ops.skip ⟨_, rfl, rfl⟩ ?_
      refine Ops.skip ⟨_, rfl, rfl⟩ ?_
      refine Ops.skip ⟨_, rfl, rfl⟩ ?_
      refine Ops.v (Yv.pick1 rfl rfl) ?_
      refine Ops.v (Yv.move rfl) ?_
      refine Ops.skip ⟨_, rfl, rfl⟩ ?_
      refine Ops.skip ⟨_, rfl, rfl⟩ ?_
      refine Ops.skip ⟨_, rfl, rfl⟩ ?_
      refine Ops.skip ⟨_, rfl, rfl⟩ ?_
      refine Ops.v (Yv.pick1 rfl rfl) ?_
      refine Ops.v (Yv.move rfl) ?_
      refine Ops.skip ⟨_, rfl, rfl⟩ ?_
      refine Ops.skip ⟨_, rfl, rfl⟩ ?_
      refine Ops.skip ⟨_, rfl, rfl⟩ ?_
      refine Ops.skip ⟨_, rfl, rfl⟩ ?_
      refine Ops.v (Yv.pick1 rfl rfl) ?_
      refine Ops.v (Yv.move rfl) ?_
      refine Ops.skip ⟨_, rfl, rfl⟩ ?_
      refine Ops.skip ⟨_, rfl, rfl⟩ ?_
      refine Ops.skip ⟨_, rfl, rfl⟩ ?_
      refine Ops.skip ⟨_, rfl, rfl⟩ ?_
      refine Ops.v (Yv.pick1 rfl rfl) ?_
      refine Ops.nil ?_
      refine ⟨hs7, Sub.le ⟨rfl, rfl, rfl, rfl, rfl, rfl, rfl, rfl, rfl, lookB rfl (by first | (simp only [h8, ne_eq, not_true_eq_false, not_false_eq_true, or_true, true_or, or_false, false_or, and_true, true_and, and_false, false_and, decide_true, decide_false, or_self, and_self, Bool.decide_eq_true]; done) | simp [h8]), trivial⟩⟩
    · -- no
      refine Ops.v (Yv.move rfl) ?_
      refine Ops.vg ⟨_, rfl, rfl⟩ (Yv.move rfl) ?_
      refine Ops.vg ⟨_, rfl, rfl⟩ (Yv.move rfl) ?_
      refine Ops.vg ⟨_, rfl, rfl⟩ (Yv.min rfl rfl) ?_
      refine Ops.vg ⟨_, rfl, rfl⟩ (Yv.lt rfl rfl) ?_
      refine Ops.dec (fun h9 => ?_) (fun h9 => ?_)
      · -- yes
        refine Ops.v (Yv.pick0 rfl rfl) ?_
        refine Ops.v (Yv.move rfl) ?_
        refine Ops.skip ⟨_, rfl, rfl⟩ ?_
        refine Ops.skip ⟨_, rfl, rfl⟩ ?_
        refine Ops.skip ⟨_, rfl, rfl⟩ ?_
        refine Ops.skip ⟨_, rfl, rfl⟩ ?_
        refine Ops.v (Yv.pick1 rfl rfl) ?_
        refine Ops.v (Yv.move rfl) ?_
        refine Ops.skip ⟨_, rfl, rfl⟩ ?_
        refine Ops.skip ⟨_, rfl, rfl⟩ ?_
        refine Ops.skip ⟨_, rfl, rfl⟩ ?_
        refine Ops.skip ⟨_, rfl, rfl⟩ ?_
        refine Ops.v (Yv.pick1 rfl rfl) ?_
        refine Ops.v (Yv.move rfl) ?_
        refine Ops.skip ⟨_, rfl, rfl⟩ ?_
        refine Ops.skip ⟨_, rfl, rfl⟩ ?_
        refine Ops.skip ⟨_, rfl, rfl⟩ ?_
        refine Ops.skip ⟨_, rfl, rfl⟩ ?_
        refine Ops.v (Yv.pick1 rfl rfl) ?_
        refine Ops.nil ?_
        refine ⟨hs7, Sub.le ⟨rfl, rfl, rfl, rfl, rfl, rfl, rfl, rfl, rfl, lookB rfl (by first | (simp only [h8, h9, ne_eq, not_true_eq_false, not_false_eq_true, or_true, true_or, or_false, false_or, and_true, true_and, and_false, false_and, decide_true, decide_false, or_self, and_self, Bool.decide_eq_true]; done) | simp [h8, h9]), trivial⟩⟩
      · -- no
        refine Ops.v (Yv.pick0 rfl rfl) ?_
        refine Ops.v (Yv.move rfl) ?_
        refine Ops.vg ⟨_, rfl, rfl⟩ (Yv.move rfl) ?_
        refine Ops.vg ⟨_, rfl, rfl⟩ (Yv.move rfl) ?_
        refine Ops.vg ⟨_, rfl, rfl⟩ (Yv.max rfl rfl) ?_
        refine Ops.vg ⟨_, rfl, rfl⟩ (Yv.gt rfl rfl) ?_
        refine Ops.dec (fun h10 => ?_) (fun h10 => ?_)
        · -- yes
          refine Ops.v (Yv.pick0 rfl rfl) ?_
          refine Ops.v (Yv.move rfl) ?_
          refine Ops.skip ⟨_, rfl, rfl⟩ ?_
          refine Ops.skip ⟨_, rfl, rfl⟩ ?_
          refine Ops.skip ⟨_, rfl, rfl⟩ ?_
          refine Ops.skip ⟨_, rfl, rfl⟩ ?_
          refine Ops.v (Yv.pick1 rfl rfl) ?_
          refine Ops.v (Yv.move rfl) ?_
          refine Ops.skip ⟨_, rfl, rfl⟩ ?_
          refine Ops.skip ⟨_, rfl, rfl⟩ ?_
          refine Ops.skip ⟨_, rfl, rfl⟩ ?_
          refine Ops.skip ⟨_, rfl, rfl⟩ ?_
          refine Ops.v (Yv.pick1 rfl rfl) ?_
          refine Ops.nil ?_
          refine ⟨hs7, Sub.le ⟨rfl, rfl, rfl, rfl, rfl, rfl, rfl, rfl, rfl, lookB rfl (by first | (simp only [h8, h9, h10, ne_eq, not_true_eq_false, not_false_eq_true, or_true, true_or, or_false, false_or, and_true, true_and, and_false, false_and, decide_true, decide_false, or_self, and_self, Bool.decide_eq_true]; done) | simp [h8, h9, h10]), trivial⟩⟩
        · -- no
          refine Ops.v (Yv.pick0 rfl rfl) ?_
          refine Ops.v (Yv.move rfl) ?_
          refine Ops.vg ⟨_, rfl, rfl⟩ (Yv.move rfl) ?_
          refine Ops.vg ⟨_, rfl, rfl⟩ (Yv.move rfl) ?_
          refine Ops.vg ⟨_, rfl, rfl⟩ (Yv.min rfl rfl) ?_
          refine Ops.vg ⟨_, rfl, rfl⟩ (Yv.lt rfl rfl) ?_
          refine Ops.dec (fun h11 => ?_) (fun h11 => ?_)
          · -- yes
            refine Ops.v (Yv.pick0 rfl rfl) ?_
            refine Ops.v (Yv.move rfl) ?_
            refine Ops.skip ⟨_, rfl, rfl⟩ ?_
            refine Ops.skip ⟨_, rfl, rfl⟩ ?_
            refine Ops.skip ⟨_, rfl, rfl⟩ ?_
            refine Ops.skip ⟨_, rfl, rfl⟩ ?_
            refine Ops.v (Yv.pick1 rfl rfl) ?_
            refine Ops.nil ?_
            refine ⟨hs7, Sub.le ⟨rfl, rfl, rfl, rfl, rfl, rfl, rfl, rfl, rfl, lookB rfl (by first | (simp only [h8, h9, h10, h11, ne_eq, not_true_eq_false, not_false_eq_true, or_true, true_or, or_false, false_or, and_true, true_and, and_false, false_and, decide_true, decide_false, or_self, and_self, Bool.decide_eq_true]; done) | simp [h8, h9, h10, h11]), trivial⟩⟩
          · -- no
            refine Ops.v (Yv.pick0 rfl rfl) ?_
            refine Ops.v (Yv.move rfl) ?_
            refine Ops.vg ⟨_, rfl, rfl⟩ (Yv.move rfl) ?_
            refine Ops.vg ⟨_, rfl, rfl⟩ (Yv.move rfl) ?_
            refine Ops.vg ⟨_, rfl, rfl⟩ (Yv.max rfl rfl) ?_
            refine Ops.vg ⟨_, rfl, rfl⟩ (Yv.gt rfl rfl) ?_
            refine Ops.v (Yv.pick0 rfl rfl) ?_
            refine Ops.nil ?_
            refine ⟨hs7, Sub.le ⟨rfl, rfl, rfl, rfl, rfl, rfl, rfl, rfl, rfl, lookB rfl (by first | (simp only [h8, h9, h10, h11, ne_eq, not_true_eq_false, not_false_eq_true, or_true, true_or, or_false, false_or, and_true, true_and, and_false, false_and, decide_true, decide_false, or_self, and_self, Bool.decide_eq_true]; done) | simp [h8, h9, h10, h11]), trivial⟩⟩
  rintro e12 w12 ⟨hs12, he12⟩
  refine k6 _ _ ?_
  refine Run.le he12 ?_
  refine run_ifp rfl (fun h13 => ?_) (fun h13 => ?_)
  · -- yes (((((checkF W H m) ≠ (0 : Int)) ∨ ((min x y) < ((-1048576) : Int))) ∨ ((1048576 : Int) < (max x y))) ∨ ((min bw bh) < (4 : Int))) ∨ ((64 : Int) < (max bw bh))
    refine run_seq fun K14 k14 => ?_
    refine run_region ?_
    refine Ops.v (Yv.assign rfl) ?_
    refine Ops.v (Yv.assign rfl) ?_
    refine Ops.nil ?_
    refine k14 _ _ ?_
    refine run_ret ?_
    refine ⟨[.slice none 0 0, .int .i64 2], ⟨_, _, rfl, rfl, ⟨_, _, rfl, rfl, rfl⟩⟩, ?_⟩
    obtain ⟨e1, e2⟩ := fetch_bad (xs := xs) (W := W) (H := H) (m := m) (x := x) (y := y) (bw := bw) (bh := bh) (kd := kd) (by unfold fetchOk; omega)
    rw [e1, e2]
    exact ⟨none, 0, rfl, (hs12.pick [] [] (by decide) rfl).nilRow 5 1⟩
  · -- no
    have hck : checkF W H m = 0 := by omega
    have hcf := check_ok hck
    have hWH := mul_bd (a := W) (b := H) (x := 512) (y := 512) (by omega) (by omega) (by omega) (by omega)
    refine run_skip ?_
    refine k5 _ _ ?_
    refine run_seq fun K15 k15 => ?_
    refine run_region ?_
    refine Ops.v (Yv.move rfl) ?_
    refine Ops.v (Yv.move rfl) ?_
    refine Ops.v (Yv.andm rfl rfl 4 (by decide) (by rfl)) ?_
    refine Ops.s (Step.call rfl rfl (taps_fun) (?_) True.intro (by rfl))
    rintro _ w16 ⟨rfl, hs16⟩
    replace hs16 := hs12.call hs16
    refine Ops.v (Yv.move rfl) ?_
    refine Ops.v (Yv.extract rfl rfl) ?_
    refine Ops.v (Yv.extract rfl rfl) ?_
    refine Ops.s (Step.alloc (cs := [.int .i64 0, .int .i64 0, .int .i64 0, .int .i64 0, .int .i64 0, .int .i64 0, .int .i64 0, .int .i64 0]) hs16 Z81 rfl (fun b17 w18 hs18 hb18 => ?_) True.intro (by rfl))
    refine Ops.s (Step.store (vs := [.int .i64 (gi (tapsOut kd (x % 2 ^ 4)) 0), .int .i64 (gi (tapsOut kd (x % 2 ^ 4)) 1), .int .i64 (gi (tapsOut kd (x % 2 ^ 4)) 2), .int .i64 (gi (tapsOut kd (x % 2 ^ 4)) 3), .int .i64 (gi (tapsOut kd (x % 2 ^ 4)) 4), .int .i64 (gi (tapsOut kd (x % 2 ^ 4)) 5), .int .i64 (gi (tapsOut kd (x % 2 ^ 4)) 6), .int .i64 (gi (tapsOut kd (x % 2 ^ 4)) 7)]) 0 hs18 rfl rfl rfl rfl S81 (Nat.le_of_ble_eq_true rfl) rfl (fun w20 hs20 => ?_) True.intro)
    replace hs20 : HS _ [.blk _ [_, _, _, _, _, _, _, _] _, .blk _ [_, _, _] _] _ := hs20
    refine Ops.v (Yv.assign rfl) ?_
    refine Ops.nil ?_
    refine k15 _ _ ?_
    refine run_seq fun K21 k21 => ?_
    refine run_region ?_
    refine Ops.v (Yv.move rfl) ?_
    refine Ops.v (Yv.move rfl) ?_
    refine Ops.v (Yv.andm rfl rfl 4 (by decide) (by rfl)) ?_
    refine Ops.s (Step.call rfl rfl (taps_fun) (?_) True.intro (by rfl))
    rintro _ w22 ⟨rfl, hs22⟩
    replace hs22 := hs20.call hs22
    refine Ops.v (Yv.move rfl) ?_
    refine Ops.v (Yv.extract rfl rfl) ?_
    refine Ops.v (Yv.extract rfl rfl) ?_
    refine Ops.s (Step.alloc (cs := [.int .i64 0, .int .i64 0, .int .i64 0, .int .i64 0, .int .i64 0, .int .i64 0, .int .i64 0, .int .i64 0]) hs22 Z81 rfl (fun b23 w24 hs24 hb24 => ?_) True.intro (by rfl))
    refine Ops.s (Step.store (vs := [.int .i64 (gi (tapsOut kd (y % 2 ^ 4)) 0), .int .i64 (gi (tapsOut kd (y % 2 ^ 4)) 1), .int .i64 (gi (tapsOut kd (y % 2 ^ 4)) 2), .int .i64 (gi (tapsOut kd (y % 2 ^ 4)) 3), .int .i64 (gi (tapsOut kd (y % 2 ^ 4)) 4), .int .i64 (gi (tapsOut kd (y % 2 ^ 4)) 5), .int .i64 (gi (tapsOut kd (y % 2 ^ 4)) 6), .int .i64 (gi (tapsOut kd (y % 2 ^ 4)) 7)]) 0 hs24 rfl rfl rfl rfl S81 (Nat.le_of_ble_eq_true rfl) rfl (fun w26 hs26 => ?_) True.intro)
    replace hs26 : HS _ [.blk _ [_, _, _, _, _, _, _, _] _, .blk _ [_, _, _, _, _, _, _, _] _, .blk _ [_, _, _] _] _ := hs26
    refine Ops.v (Yv.assign rfl) ?_
    refine Ops.nil ?_
    refine k21 _ _ ?_
    refine run_seq fun K27 k27 => ?_
    refine run_seq fun K28 k28 => ?_
    refine Run.cut (fun e_ w_ => w26 = w_ ∧ Le [(0, .agg #[.int .i64 W, .int .i64 H, .slice A m c]), (1, .int .i64 x), (2, .int .i64 y), (3, .int .i64 bw), (4, .int .i64 bh), (5, .int .i64 kd), (6, .pointer (some ⟨b2, 0, none⟩)), (12, .slice none 0 0), (13, .int .i64 0), (14, .pointer (some ⟨b17, 0, none⟩)), (15, .int .i64 (tapsE kd (x % 2 ^ 4))), (16, .pointer (some ⟨b23, 0, none⟩)), (17, .int .i64 (tapsE kd (y % 2 ^ 4))), (55, .bool (decide ((((((checkF W H m) ≠ (0 : Int)) ∨ ((min x y) < ((-1048576) : Int))) ∨ ((1048576 : Int) < (max x y))) ∨ ((min bw bh) < (4 : Int))) ∨ ((64 : Int) < (max bw bh))))), (75, .bool (decide (((tapsE kd (x % 2 ^ 4)) ≠ (0 : Int)) ∨ ((tapsE kd (y % 2 ^ 4)) ≠ (0 : Int)))))] e_) ?_ ?_
    · -- region 5: its ways meet again
      refine run_region ?_
      refine Ops.v (Yv.move rfl) ?_
      refine Ops.v (Yv.ne rfl rfl) ?_
      refine Ops.dec (fun h29 => ?_) (fun h29 => ?_)
      · -- yes
        refine Ops.v (Yv.move rfl) ?_
        refine Ops.skip ⟨_, rfl, rfl⟩ ?_
        refine Ops.skip ⟨_, rfl, rfl⟩ ?_
        refine Ops.v (Yv.pick1 rfl rfl) ?_
        refine Ops.nil ?_
        refine ⟨rfl, Sub.le ⟨rfl, rfl, rfl, rfl, rfl, rfl, rfl, rfl, rfl, rfl, rfl, rfl, rfl, rfl, lookB rfl (by first | (simp only [h29, ne_eq, not_true_eq_false, not_false_eq_true, or_true, true_or, or_false, false_or, and_true, true_and, and_false, false_and, decide_true, decide_false, or_self, and_self, Bool.decide_eq_true]; done) | simp [h29]), trivial⟩⟩
      · -- no
        refine Ops.v (Yv.move rfl) ?_
        refine Ops.vg ⟨_, rfl, rfl⟩ (Yv.move rfl) ?_
        refine Ops.vg ⟨_, rfl, rfl⟩ (Yv.ne rfl rfl) ?_
        refine Ops.v (Yv.pick0 rfl rfl) ?_
        refine Ops.nil ?_
        refine ⟨rfl, Sub.le ⟨rfl, rfl, rfl, rfl, rfl, rfl, rfl, rfl, rfl, rfl, rfl, rfl, rfl, rfl, lookB rfl (by first | (simp only [h29, ne_eq, not_true_eq_false, not_false_eq_true, or_true, true_or, or_false, false_or, and_true, true_and, and_false, false_and, decide_true, decide_false, or_self, and_self, Bool.decide_eq_true]; done) | simp [h29]), trivial⟩⟩
    rintro e30 _ ⟨rfl, he30⟩
    refine k28 _ _ ?_
    refine Run.le he30 ?_
    refine run_ifp rfl (fun h31 => ?_) (fun h31 => ?_)
    · -- yes ((tapsE kd (x % 2 ^ 4)) ≠ (0 : Int)) ∨ ((tapsE kd (y % 2 ^ 4)) ≠ (0 : Int))
      refine run_seq fun K32 k32 => ?_
      refine run_region ?_
      refine Ops.v (Yv.assign rfl) ?_
      refine Ops.v (Yv.assign rfl) ?_
      refine Ops.nil ?_
      refine k32 _ _ ?_
      refine run_ret ?_
      refine ⟨[.slice none 0 0, .int .i64 2], ⟨_, _, rfl, rfl, ⟨_, _, rfl, rfl, rfl⟩⟩, ?_⟩
      obtain ⟨e1, e2⟩ := fetch_bad (xs := xs) (W := W) (H := H) (m := m) (x := x) (y := y) (bw := bw) (bh := bh) (kd := kd) (by unfold fetchOk; have := taps_err h31; omega)
      rw [e1, e2]
      exact ⟨none, 0, rfl, (hs26.pick [] [] (by decide) rfl).nilRow 5 1⟩
    · -- no
      have hkd := taps_fine h31
      have hok : fetchOk W H m x y bw bh kd := by unfold fetchOk; omega
      obtain ⟨hck, hx_, hy_, hw_, hh_, hk0, hk1⟩ := hok
      have hcf := check_ok hck
      have hWH := mul_bd (a := W) (b := H) (x := 512) (y := 512) (by omega) (by omega) (by omega) (by omega)
      have etx := (taps_ok (kd := kd) (q := x % 2 ^ 4) ⟨⟨hk0, hk1⟩, by omega, by omega⟩)
      have ety := (taps_ok (kd := kd) (q := y % 2 ^ 4) ⟨⟨hk0, hk1⟩, by omega, by omega⟩)
      have hTx : ∀ k, -128 ≤ gi (tapsOut kd (x % 2 ^ 4)) k ∧ gi (tapsOut kd (x % 2 ^ 4)) k ≤ 128 := fun k => by rw [etx.2]; exact taps_bd hk0 hk1 (by omega) (by omega) k
      have hTy : ∀ k, -128 ≤ gi (tapsOut kd (y % 2 ^ 4)) k ∧ gi (tapsOut kd (y % 2 ^ 4)) k ≤ 128 := fun k => by rw [ety.2]; exact taps_bd hk0 hk1 (by omega) (by omega) k
      have hwh := mul_bd (a := bw) (b := bh) (x := 64) (y := 64) (by omega) (by omega) (by omega) (by omega)
      have hwh7 := mul_bd (a := bw) (b := bh + 7) (x := 64) (y := 71) (by omega) (by omega) (by omega) (by omega)
      have hw7 : bw * (bh + 7) = bw * bh + 7 * bw := by rw [Int.mul_add]; omega
      refine run_skip ?_
      refine k27 _ _ ?_
      refine run_seq fun K33 k33 => ?_
      refine run_drawn [] (fun x => Below (w26.drew).heap.size (w26.drew) x) ?_ Tf.mixed (by kernel_rfl) (fun _ _ _ h => h)
      have hs34 := hs26.drew
      have hS35 := Below.refl (w26.drew).heap.size (w26.drew)
      refine Drw.l 0 rfl (by kernel_rfl) hS35 (Yv.loadn (cs := [.int .i64 (gi (tapsOut kd (x % 2 ^ 4)) 0), .int .i64 (gi (tapsOut kd (x % 2 ^ 4)) 1), .int .i64 (gi (tapsOut kd (x % 2 ^ 4)) 2), .int .i64 (gi (tapsOut kd (x % 2 ^ 4)) 3), .int .i64 (gi (tapsOut kd (x % 2 ^ 4)) 4), .int .i64 (gi (tapsOut kd (x % 2 ^ 4)) 5), .int .i64 (gi (tapsOut kd (x % 2 ^ 4)) 6), .int .i64 (gi (tapsOut kd (x % 2 ^ 4)) 7)]) A81 S81 rfl (fun _ hq_ => ((hs34.grow hq_).cells 1 rfl 0 8))) ?_
      refine Drw.l 2 rfl (by kernel_rfl) hS35 (Yv.loadn (cs := [.int .i64 (gi (tapsOut kd (y % 2 ^ 4)) 0), .int .i64 (gi (tapsOut kd (y % 2 ^ 4)) 1), .int .i64 (gi (tapsOut kd (y % 2 ^ 4)) 2), .int .i64 (gi (tapsOut kd (y % 2 ^ 4)) 3), .int .i64 (gi (tapsOut kd (y % 2 ^ 4)) 4), .int .i64 (gi (tapsOut kd (y % 2 ^ 4)) 5), .int .i64 (gi (tapsOut kd (y % 2 ^ 4)) 6), .int .i64 (gi (tapsOut kd (y % 2 ^ 4)) 7)]) A81 S81 rfl (fun _ hq_ => ((hs34.grow hq_).cells 0 rfl 0 8))) ?_
      refine Drw.one 1 rfl (by kernel_rfl) (Step.call rfl rfl (sum_fun) (?_) True.intro (by rfl))
      rintro _ w40 ⟨b37, b36, rfl, hs40⟩
      have hS41 := HS.keepS hS35 (Nat.le_refl _) hs40
      refine ⟨fun _ _ => hS41, ?_⟩
      replace hs40 := hs34.call hs40
      refine Drw.one 3 rfl (by kernel_rfl) (Step.call rfl rfl (sum_fun) (?_) True.intro (by rfl))
      rintro _ w46 ⟨b43, b42, rfl, hs46⟩
      have hS47 := HS.keepS hS41 (Nat.le_refl _) hs46
      refine ⟨fun _ _ => hS47, ?_⟩
      replace hs46 := hs40.call hs46
      refine Drw.a 4 rfl (by kernel_rfl) (Yv.assign rfl) ?_
      refine Drw.a 5 rfl (by kernel_rfl) (Yv.assign rfl) ?_
      refine Drw.done ?_ (by kernel_rfl)
      refine k33 _ _ ?_
      refine run_seq fun K48 k48 => ?_
      refine run_region ?_
      refine Ops.v (Yv.move rfl) ?_
      refine Ops.v (Yv.add rfl rfl (by omega)) ?_
      refine Ops.v (Yv.sub rfl rfl (by omega)) ?_
      refine Ops.s (Step.make hs46 L86 Z45 rfl rfl (by omega) (by omega) (by omega) (fun b50 w49 hs49 hb49 => ?_) True.intro (by rfl))
      replace hs49 : HS w [.row (some ⟨b50, 0, none⟩) (((bh + 8) - 1 : Int).toNat) (((bh + 8) - 1 : Int).toNat) (List.replicate (((bh + 8) - 1 : Int).toNat) (Value.slice none 0 0)) 45 1, .blk b43 [.int .i64 11] 3, .blk b42 [.int .i64 (gi (tapsOut kd (y % 2 ^ 4)) 0), .int .i64 (gi (tapsOut kd (y % 2 ^ 4)) 1), .int .i64 (gi (tapsOut kd (y % 2 ^ 4)) 2), .int .i64 (gi (tapsOut kd (y % 2 ^ 4)) 3), .int .i64 (gi (tapsOut kd (y % 2 ^ 4)) 4), .int .i64 (gi (tapsOut kd (y % 2 ^ 4)) 5), .int .i64 (gi (tapsOut kd (y % 2 ^ 4)) 6), .int .i64 (gi (tapsOut kd (y % 2 ^ 4)) 7)] 81, .blk b37 [.int .i64 3] 3, .blk b36 [.int .i64 (gi (tapsOut kd (x % 2 ^ 4)) 0), .int .i64 (gi (tapsOut kd (x % 2 ^ 4)) 1), .int .i64 (gi (tapsOut kd (x % 2 ^ 4)) 2), .int .i64 (gi (tapsOut kd (x % 2 ^ 4)) 3), .int .i64 (gi (tapsOut kd (x % 2 ^ 4)) 4), .int .i64 (gi (tapsOut kd (x % 2 ^ 4)) 5), .int .i64 (gi (tapsOut kd (x % 2 ^ 4)) 6), .int .i64 (gi (tapsOut kd (x % 2 ^ 4)) 7)] 81, .blk b23 [.int .i64 (gi (tapsOut kd (y % 2 ^ 4)) 0), .int .i64 (gi (tapsOut kd (y % 2 ^ 4)) 1), .int .i64 (gi (tapsOut kd (y % 2 ^ 4)) 2), .int .i64 (gi (tapsOut kd (y % 2 ^ 4)) 3), .int .i64 (gi (tapsOut kd (y % 2 ^ 4)) 4), .int .i64 (gi (tapsOut kd (y % 2 ^ 4)) 5), .int .i64 (gi (tapsOut kd (y % 2 ^ 4)) 6), .int .i64 (gi (tapsOut kd (y % 2 ^ 4)) 7)] 81, .blk b17 [.int .i64 (gi (tapsOut kd (x % 2 ^ 4)) 0), .int .i64 (gi (tapsOut kd (x % 2 ^ 4)) 1), .int .i64 (gi (tapsOut kd (x % 2 ^ 4)) 2), .int .i64 (gi (tapsOut kd (x % 2 ^ 4)) 3), .int .i64 (gi (tapsOut kd (x % 2 ^ 4)) 4), .int .i64 (gi (tapsOut kd (x % 2 ^ 4)) 5), .int .i64 (gi (tapsOut kd (x % 2 ^ 4)) 6), .int .i64 (gi (tapsOut kd (x % 2 ^ 4)) 7)] 81, .blk b2 [.int .i64 W, .int .i64 H, .slice A m c] 24] w49 := hs49
      refine Ops.s (Step.alloc (cs := [.slice none 0 0]) hs49 Z86 rfl (fun b52 w53 hs53 hb53 => ?_) True.intro (by rfl))
      refine Ops.s (Step.store (vs := [.slice (some ⟨b50, 0, none⟩) (((bh + 8) - 1 : Int).toNat) (((bh + 8) - 1 : Int).toNat)]) 0 hs53 rfl rfl rfl rfl S86 (Nat.le_of_ble_eq_true rfl) rfl (fun w55 hs55 => ?_) True.intro)
      replace hs55 : HS _ [.blk _ [_] _, .row _ _ _ _ _ _, .blk _ [_] _, .blk _ [_, _, _, _, _, _, _, _] _, .blk _ [_] _, .blk _ [_, _, _, _, _, _, _, _] _, .blk _ [_, _, _, _, _, _, _, _] _, .blk _ [_, _, _, _, _, _, _, _] _, .blk _ [_, _, _] _] _ := hs55
      refine Ops.nil ?_
      refine k48 _ _ ?_
      refine run_seq fun K56 k56 => ?_
      refine run_seq fun K57 k57 => ?_
      refine run_region ?_
      refine Ops.v (Yv.load A86 rfl (now (hs55.cell 0 rfl 0 rfl))) ?_
      refine Ops.v (Yv.len (by rw [L86]; rfl) rfl) ?_
      refine Ops.v (Yv.move rfl) ?_
      refine Ops.nil ?_
      refine k57 _ _ ?_
      refine run_block ?_
      refine Run.sub [(0, _), (1, _), (2, _), (3, _), (4, _), (5, _), (6, _), (12, _), (13, _), (14, _), (15, _), (16, _), (17, _), (18, _), (19, _), (20, _), (55, _), (75, _), (85, _), (86, _)] ⟨rfl, rfl, rfl, rfl, rfl, rfl, rfl, rfl, rfl, rfl, rfl, rfl, rfl, rfl, rfl, rfl, rfl, rfl, rfl, rfl, trivial⟩ ?_
      refine run_loop (σ := List Nat) (fun bs e_ w_ => HS w (.blk b52 [.slice (some ⟨b50, 0, none⟩) (((bh + 8) - 1 : Int).toNat) (((bh + 8) - 1 : Int).toNat)] 86 :: .row (some ⟨b50, 0, none⟩) (((bh + 8) - 1 : Int).toNat) (((bh + 8) - 1 : Int).toNat) (rowsC bw.toNat bs ++ List.replicate (((bh + 8) - 1 : Int).toNat - bs.length) (Value.slice none 0 0)) 45 1 :: .blk b43 [.int .i64 11] 3 :: .blk b42 [.int .i64 (gi (tapsOut kd (y % 2 ^ 4)) 0), .int .i64 (gi (tapsOut kd (y % 2 ^ 4)) 1), .int .i64 (gi (tapsOut kd (y % 2 ^ 4)) 2), .int .i64 (gi (tapsOut kd (y % 2 ^ 4)) 3), .int .i64 (gi (tapsOut kd (y % 2 ^ 4)) 4), .int .i64 (gi (tapsOut kd (y % 2 ^ 4)) 5), .int .i64 (gi (tapsOut kd (y % 2 ^ 4)) 6), .int .i64 (gi (tapsOut kd (y % 2 ^ 4)) 7)] 81 :: .blk b37 [.int .i64 3] 3 :: .blk b36 [.int .i64 (gi (tapsOut kd (x % 2 ^ 4)) 0), .int .i64 (gi (tapsOut kd (x % 2 ^ 4)) 1), .int .i64 (gi (tapsOut kd (x % 2 ^ 4)) 2), .int .i64 (gi (tapsOut kd (x % 2 ^ 4)) 3), .int .i64 (gi (tapsOut kd (x % 2 ^ 4)) 4), .int .i64 (gi (tapsOut kd (x % 2 ^ 4)) 5), .int .i64 (gi (tapsOut kd (x % 2 ^ 4)) 6), .int .i64 (gi (tapsOut kd (x % 2 ^ 4)) 7)] 81 :: .blk b23 [.int .i64 (gi (tapsOut kd (y % 2 ^ 4)) 0), .int .i64 (gi (tapsOut kd (y % 2 ^ 4)) 1), .int .i64 (gi (tapsOut kd (y % 2 ^ 4)) 2), .int .i64 (gi (tapsOut kd (y % 2 ^ 4)) 3), .int .i64 (gi (tapsOut kd (y % 2 ^ 4)) 4), .int .i64 (gi (tapsOut kd (y % 2 ^ 4)) 5), .int .i64 (gi (tapsOut kd (y % 2 ^ 4)) 6), .int .i64 (gi (tapsOut kd (y % 2 ^ 4)) 7)] 81 :: .blk b17 [.int .i64 (gi (tapsOut kd (x % 2 ^ 4)) 0), .int .i64 (gi (tapsOut kd (x % 2 ^ 4)) 1), .int .i64 (gi (tapsOut kd (x % 2 ^ 4)) 2), .int .i64 (gi (tapsOut kd (x % 2 ^ 4)) 3), .int .i64 (gi (tapsOut kd (x % 2 ^ 4)) 4), .int .i64 (gi (tapsOut kd (x % 2 ^ 4)) 5), .int .i64 (gi (tapsOut kd (x % 2 ^ 4)) 6), .int .i64 (gi (tapsOut kd (x % 2 ^ 4)) 7)] 81 :: .blk b2 [.int .i64 W, .int .i64 H, .slice A m c] 24 :: rowsT 3 bw.toNat (fun q : Nat => lnTo xs W H (tapsOut kd (x % 2 ^ 4)) x y (q : Int) bw.toNat) bs) w_ ∧ e_ = [(0, .agg #[.int .i64 W, .int .i64 H, .slice A m c]), (1, .int .i64 x), (2, .int .i64 y), (3, .int .i64 bw), (4, .int .i64 bh), (5, .int .i64 kd), (6, .pointer (some ⟨b2, 0, none⟩)), (12, .slice none 0 0), (13, .int .i64 0), (14, .pointer (some ⟨b17, 0, none⟩)), (15, .int .i64 (tapsE kd (x % 2 ^ 4))), (16, .pointer (some ⟨b23, 0, none⟩)), (17, .int .i64 (tapsE kd (y % 2 ^ 4))), (18, .func (.func 67) #[] #[.pointer (some ⟨b37, 0, none⟩), .pointer (some ⟨b36, 0, none⟩)]), (19, .func (.func 67) #[] #[.pointer (some ⟨b43, 0, none⟩), .pointer (some ⟨b42, 0, none⟩)]), (20, .pointer (some ⟨b52, 0, none⟩)), (55, .bool (decide ((((((checkF W H m) ≠ (0 : Int)) ∨ ((min x y) < ((-1048576) : Int))) ∨ ((1048576 : Int) < (max x y))) ∨ ((min bw bh) < (4 : Int))) ∨ ((64 : Int) < (max bw bh))))), (75, .bool (decide (((tapsE kd (x % 2 ^ 4)) ≠ (0 : Int)) ∨ ((tapsE kd (y % 2 ^ 4)) ≠ (0 : Int))))), (85, .int .i64 (((bh + 8) - 1 : Int).toNat : Int)), (86, .int .i64 (bs.length : Int))] ∧ bs.length ≤ ((bh + 8) - 1 : Int).toNat)
        (fun bs => ((bh + 8) - 1 : Int).toNat - bs.length) [] ?_ ?_
      · -- at the start
        refine ⟨hs55, rfl, Nat.zero_le _⟩
      · -- a round
        rintro bs _ w58 ⟨hs58, rfl, f1⟩
        refine run_seq fun K59 k59 => ?_
        refine run_region ?_
        refine Ops.v (Yv.lt rfl rfl) ?_
        refine Ops.nil ?_
        refine k59 _ _ ?_
        refine run_seq fun K60 k60 => ?_
        refine run_ifp rfl (fun h61 => ?_) (fun h61 => ?_)
        · -- yes (bs.length : Int) < (((bh + 8) - 1 : Int).toNat : Int)
          refine run_skip ?_
          refine k60 _ _ ?_
          refine run_seq fun K62 k62 => ?_
          refine run_block ?_
          refine run_seq fun K63 k63 => ?_
          refine run_region ?_
          refine Ops.v (Yv.move rfl) ?_
          refine Ops.v (Yv.assign rfl) ?_
          refine Ops.nil ?_
          refine k63 _ _ ?_
          refine run_seq fun K64 k64 => ?_
          refine run_drawn [20] (fun x => Below (w58.drew).heap.size (w58.drew) x) ?_ Tf.mixed (by kernel_rfl) (fun _ _ _ h => h)
          have hs65 := hs58.drew
          have hS66 := Below.refl (w58.drew).heap.size (w58.drew)
          refine Drw.a 0 rfl (by kernel_rfl) (Yv.fld F24_2 rfl) ?_
          refine Drw.l 1 rfl (by kernel_rfl) hS66 (Yv.load A22 rfl (fun _ hq_ => ((hs65.grow hq_).cell 8 rfl 2 rfl))) ?_
          refine Drw.a 2 rfl (by kernel_rfl) (Yv.move rfl) ?_
          refine Drw.a 3 rfl (by kernel_rfl) (Yv.shr rfl rfl 4 (by first | rfl | omega) (by omega)) ?_
          refine Drw.a 4 rfl (by kernel_rfl) (Yv.move rfl) ?_
          refine Drw.a 5 rfl (by kernel_rfl) (Yv.add rfl rfl (by omega)) ?_
          refine Drw.a 6 rfl (by kernel_rfl) (Yv.sub rfl rfl (by omega)) ?_
          refine Drw.a 7 rfl (by kernel_rfl) (Yv.max rfl rfl) ?_
          refine Drw.a 8 rfl (by kernel_rfl) (Yv.fld F24_1 rfl) ?_
          refine Drw.l 9 rfl (by kernel_rfl) hS66 (Yv.load A3 rfl (fun _ hq_ => ((hs65.grow hq_).cell 8 rfl 1 rfl))) ?_
          refine Drw.a 10 rfl (by kernel_rfl) (Yv.sub rfl rfl (by omega)) ?_
          refine Drw.a 11 rfl (by kernel_rfl) (Yv.min rfl rfl) ?_
          refine Drw.a 12 rfl (by kernel_rfl) (Yv.fld F24_0 rfl) ?_
          refine Drw.l 13 rfl (by kernel_rfl) hS66 (Yv.load A3 rfl (fun _ hq_ => ((hs65.grow hq_).cell 8 rfl 0 rfl))) ?_
          have hmy := mul_bd (a := (min (max (((y / 2 ^ 4) + (bs.length : Int)) - 3) 0) (H - 1))) (b := W) (x := 511) (y := 512) (by omega) (by omega) (by omega) (by omega)
          have hmy2 : ((min (max (((y / 2 ^ 4) + (bs.length : Int)) - 3) 0) (H - 1)) + 1) * W ≤ H * W := Int.mul_le_mul_of_nonneg_right (by omega) (by omega)
          rw [Int.add_mul, Int.one_mul, Int.mul_comm H W] at hmy2
          refine Drw.a 14 rfl (by kernel_rfl) (Yv.mul rfl rfl (by omega)) ?_
          refine Drw.a 15 rfl (by kernel_rfl) (Yv.part (((min (max (((y / 2 ^ 4) + (bs.length : Int)) - 3) 0) (H - 1)) * W : Int).toNat) m L22 rfl ⟨_, _, rfl, by omega⟩ rfl (by omega) (by omega)) ?_
          refine Drw.a 16 rfl (by kernel_rfl) (Yv.fld F24_0 rfl) ?_
          refine Drw.l 17 rfl (by kernel_rfl) hS66 (Yv.load A3 rfl (fun _ hq_ => ((hs65.grow hq_).cell 8 rfl 0 rfl))) ?_
          refine Drw.a 18 rfl (by kernel_rfl) (Yv.partTo W.toNat L22 rfl rfl (by omega) (by omega)) ?_
          refine Drw.one 19 rfl (by kernel_rfl) (Step.alloc (cs := [.slice none 0 0]) hs65 Z22 rfl (fun b67 w68 hs68 hb68 => ?_) True.intro (by rfl))
          have hS70 := hS66.trans (hb68.mono (Nat.le_trans (Nat.le_refl _) hS66.size))
          refine ⟨fun _ _ => hS70, ?_⟩
          refine Drw.one 20 rfl (by kernel_rfl) (Step.store (vs := [.slice (slA A (((min (max (((y / 2 ^ 4) + (bs.length : Int)) - 3) 0) (H - 1)) * W : Int).toNat) c 1) W.toNat (c - ((min (max (((y / 2 ^ 4) + (bs.length : Int)) - 3) 0) (H - 1)) * W : Int).toNat)]) 0 hs68 rfl rfl rfl rfl S22 (Nat.le_of_ble_eq_true rfl) rfl (fun w71 hs71 => ?_) True.intro)
          refine ⟨fun h => absurd h (by decide), ?_⟩
          replace hs71 : HS _ (.blk _ [_] _ :: .blk _ [_] _ :: .row _ _ _ _ _ _ :: .blk _ [_] _ :: .blk _ [_, _, _, _, _, _, _, _] _ :: .blk _ [_] _ :: .blk _ [_, _, _, _, _, _, _, _] _ :: .blk _ [_, _, _, _, _, _, _, _] _ :: .blk _ [_, _, _, _, _, _, _, _] _ :: .blk _ [_, _, _] _ :: rowsT 3 bw.toNat (fun q : Nat => lnTo xs W H (tapsOut kd (x % 2 ^ 4)) x y (q : Int) bw.toNat) bs) _ := hs71
          refine Drw.done ?_ (by kernel_rfl)
          refine k64 _ _ ?_
          refine run_seq fun K72 k72 => ?_
          refine run_drawn [5] (fun x => Below (w71.drew).heap.size (w71.drew) x) ?_ Tf.mixed (by kernel_rfl) (fun _ _ _ h => h)
          have hs73 := hs71.drew
          have hS74 := Below.refl (w71.drew).heap.size (w71.drew)
          refine Drw.l 0 rfl (by kernel_rfl) hS74 (Yv.load A86 rfl (fun _ hq_ => ((hs73.grow hq_).cell 1 rfl 0 rfl))) ?_
          refine Drw.a 1 rfl (by kernel_rfl) (Yv.move rfl) ?_
          refine Drw.a 2 rfl (by kernel_rfl) (Yv.move rfl) ?_
          refine Drw.one 3 rfl (by kernel_rfl) (Step.make hs73 L45 Z3 rfl rfl (by omega) (by omega) (by omega) (fun b76 w75 hs75 hb75 => ?_) True.intro (by rfl))
          have hS78 := hS74.trans (hb75.mono (Nat.le_trans (Nat.le_refl _) hS74.size))
          refine ⟨fun _ _ => hS78, ?_⟩
          rw [i64s_rep] at hs75
          refine Drw.a 4 rfl (by kernel_rfl) (Yv.idx L86 rfl rfl ((hs75.rdRow 3 rfl).isSome (i := (bs.length : Int)) (by omega) (by omega)) (by omega) (by omega)) ?_
          refine Drw.one 5 rfl (by kernel_rfl) (Step.storeRow (vs := [.slice (some ⟨b76, 0, none⟩) bw.toNat bw.toNat]) 3 hs75 rfl rfl rfl rfl S45 (by have hl_ := (hs75.rdRow 3 rfl).len; show ((bs.length : Int)).toNat * 1 + 1 ≤ _; omega) (Nat.succ_pos _) rfl (fun w79 hs79 => ?_) True.intro)
          refine ⟨fun h => absurd h (by decide), ?_⟩
          have hs79_ := put_one (cs := rowsC bw.toNat bs ++ List.replicate (((bh + 8) - 1 : Int).toNat - bs.length) (Value.slice none 0 0)) (o := ((bs.length : Int)).toNat * 1) (v := .slice (some ⟨b76, 0, none⟩) bw.toNat bw.toNat) (by have hl_ := (hs75.rdRow 3 rfl).len; omega)
          simp only [Nat.mul_one] at hs79_
          replace hs79 : HS w (.row (some ⟨b76, 0, none⟩) bw.toNat bw.toNat (i64s (List.replicate bw.toNat 0)) 3 1 :: .blk b67 [.slice (slA A (((min (max (((y / 2 ^ 4) + (bs.length : Int)) - 3) 0) (H - 1)) * W : Int).toNat) c 1) W.toNat (c - ((min (max (((y / 2 ^ 4) + (bs.length : Int)) - 3) 0) (H - 1)) * W : Int).toNat)] 22 :: .blk b52 [.slice (some ⟨b50, 0, none⟩) (((bh + 8) - 1 : Int).toNat) (((bh + 8) - 1 : Int).toNat)] 86 :: .row (some ⟨b50, 0, none⟩) (((bh + 8) - 1 : Int).toNat) (((bh + 8) - 1 : Int).toNat) ((rowsC bw.toNat bs ++ List.replicate (((bh + 8) - 1 : Int).toNat - bs.length) (Value.slice none 0 0)).set ((bs.length : Int)).toNat (Value.slice (some ⟨b76, 0, none⟩) bw.toNat bw.toNat)) 45 1 :: .blk b43 [.int .i64 11] 3 :: .blk b42 [.int .i64 (gi (tapsOut kd (y % 2 ^ 4)) 0), .int .i64 (gi (tapsOut kd (y % 2 ^ 4)) 1), .int .i64 (gi (tapsOut kd (y % 2 ^ 4)) 2), .int .i64 (gi (tapsOut kd (y % 2 ^ 4)) 3), .int .i64 (gi (tapsOut kd (y % 2 ^ 4)) 4), .int .i64 (gi (tapsOut kd (y % 2 ^ 4)) 5), .int .i64 (gi (tapsOut kd (y % 2 ^ 4)) 6), .int .i64 (gi (tapsOut kd (y % 2 ^ 4)) 7)] 81 :: .blk b37 [.int .i64 3] 3 :: .blk b36 [.int .i64 (gi (tapsOut kd (x % 2 ^ 4)) 0), .int .i64 (gi (tapsOut kd (x % 2 ^ 4)) 1), .int .i64 (gi (tapsOut kd (x % 2 ^ 4)) 2), .int .i64 (gi (tapsOut kd (x % 2 ^ 4)) 3), .int .i64 (gi (tapsOut kd (x % 2 ^ 4)) 4), .int .i64 (gi (tapsOut kd (x % 2 ^ 4)) 5), .int .i64 (gi (tapsOut kd (x % 2 ^ 4)) 6), .int .i64 (gi (tapsOut kd (x % 2 ^ 4)) 7)] 81 :: .blk b23 [.int .i64 (gi (tapsOut kd (y % 2 ^ 4)) 0), .int .i64 (gi (tapsOut kd (y % 2 ^ 4)) 1), .int .i64 (gi (tapsOut kd (y % 2 ^ 4)) 2), .int .i64 (gi (tapsOut kd (y % 2 ^ 4)) 3), .int .i64 (gi (tapsOut kd (y % 2 ^ 4)) 4), .int .i64 (gi (tapsOut kd (y % 2 ^ 4)) 5), .int .i64 (gi (tapsOut kd (y % 2 ^ 4)) 6), .int .i64 (gi (tapsOut kd (y % 2 ^ 4)) 7)] 81 :: .blk b17 [.int .i64 (gi (tapsOut kd (x % 2 ^ 4)) 0), .int .i64 (gi (tapsOut kd (x % 2 ^ 4)) 1), .int .i64 (gi (tapsOut kd (x % 2 ^ 4)) 2), .int .i64 (gi (tapsOut kd (x % 2 ^ 4)) 3), .int .i64 (gi (tapsOut kd (x % 2 ^ 4)) 4), .int .i64 (gi (tapsOut kd (x % 2 ^ 4)) 5), .int .i64 (gi (tapsOut kd (x % 2 ^ 4)) 6), .int .i64 (gi (tapsOut kd (x % 2 ^ 4)) 7)] 81 :: .blk b2 [.int .i64 W, .int .i64 H, .slice A m c] 24 :: rowsT 3 bw.toNat (fun q : Nat => lnTo xs W H (tapsOut kd (x % 2 ^ 4)) x y (q : Int) bw.toNat) bs) w79 := by simpa only [List.set, Nat.mul_one, hs79_] using hs79
          refine Drw.done ?_ (by kernel_rfl)
          refine k72 _ _ ?_
          refine run_seq fun K80 k80 => ?_
          refine run_region ?_
          refine Ops.v (Yv.load A86 rfl (now (hs79.cell 2 rfl 0 rfl))) ?_
          refine Ops.v (Yv.move rfl) ?_
          refine Ops.v (Yv.idx L86 rfl rfl ((hs79.rdRow 3 rfl).isSome (i := (bs.length : Int)) (by omega) (by omega)) (by omega) (by omega)) ?_
          refine Ops.v (Yv.load A45 rfl (now ((hs79.rdRow 3 rfl).cell (((bs.length : Int)).toNat * 1) _ (by rw [Nat.mul_one]; exact List.getElem?_set_self (by rw [List.length_append, rowsC_length, List.length_replicate]; omega))))) ?_
          refine Ops.v (Yv.len (by rw [L45]; rfl) rfl) ?_
          refine Ops.v (Yv.move rfl) ?_
          refine Ops.nil ?_
          refine k80 _ _ ?_
          refine run_block ?_
          refine Run.sub [(0, _), (1, _), (2, _), (3, _), (4, _), (5, _), (6, _), (12, _), (13, _), (14, _), (15, _), (16, _), (17, _), (18, _), (19, _), (20, _), (21, _), (22, _), (55, _), (75, _), (85, _), (86, _), (87, _), (117, _), (118, _)] ⟨rfl, rfl, rfl, rfl, rfl, rfl, rfl, rfl, rfl, rfl, rfl, rfl, rfl, rfl, rfl, rfl, rfl, rfl, rfl, rfl, rfl, rfl, rfl, rfl, rfl, trivial⟩ ?_
          refine run_loop (σ := Nat) (fun i e_ w_ => HS w (.row (some ⟨b76, 0, none⟩) bw.toNat bw.toNat (i64s (lnIn xs W H (tapsOut kd (x % 2 ^ 4)) x y (bs.length : Int) bw.toNat i)) 3 1 :: .blk b67 [.slice (slA A (((min (max (((y / 2 ^ 4) + (bs.length : Int)) - 3) 0) (H - 1)) * W : Int).toNat) c 1) W.toNat (c - ((min (max (((y / 2 ^ 4) + (bs.length : Int)) - 3) 0) (H - 1)) * W : Int).toNat)] 22 :: .blk b52 [.slice (some ⟨b50, 0, none⟩) (((bh + 8) - 1 : Int).toNat) (((bh + 8) - 1 : Int).toNat)] 86 :: .row (some ⟨b50, 0, none⟩) (((bh + 8) - 1 : Int).toNat) (((bh + 8) - 1 : Int).toNat) ((rowsC bw.toNat bs ++ List.replicate (((bh + 8) - 1 : Int).toNat - bs.length) (Value.slice none 0 0)).set ((bs.length : Int)).toNat (Value.slice (some ⟨b76, 0, none⟩) bw.toNat bw.toNat)) 45 1 :: .blk b43 [.int .i64 11] 3 :: .blk b42 [.int .i64 (gi (tapsOut kd (y % 2 ^ 4)) 0), .int .i64 (gi (tapsOut kd (y % 2 ^ 4)) 1), .int .i64 (gi (tapsOut kd (y % 2 ^ 4)) 2), .int .i64 (gi (tapsOut kd (y % 2 ^ 4)) 3), .int .i64 (gi (tapsOut kd (y % 2 ^ 4)) 4), .int .i64 (gi (tapsOut kd (y % 2 ^ 4)) 5), .int .i64 (gi (tapsOut kd (y % 2 ^ 4)) 6), .int .i64 (gi (tapsOut kd (y % 2 ^ 4)) 7)] 81 :: .blk b37 [.int .i64 3] 3 :: .blk b36 [.int .i64 (gi (tapsOut kd (x % 2 ^ 4)) 0), .int .i64 (gi (tapsOut kd (x % 2 ^ 4)) 1), .int .i64 (gi (tapsOut kd (x % 2 ^ 4)) 2), .int .i64 (gi (tapsOut kd (x % 2 ^ 4)) 3), .int .i64 (gi (tapsOut kd (x % 2 ^ 4)) 4), .int .i64 (gi (tapsOut kd (x % 2 ^ 4)) 5), .int .i64 (gi (tapsOut kd (x % 2 ^ 4)) 6), .int .i64 (gi (tapsOut kd (x % 2 ^ 4)) 7)] 81 :: .blk b23 [.int .i64 (gi (tapsOut kd (y % 2 ^ 4)) 0), .int .i64 (gi (tapsOut kd (y % 2 ^ 4)) 1), .int .i64 (gi (tapsOut kd (y % 2 ^ 4)) 2), .int .i64 (gi (tapsOut kd (y % 2 ^ 4)) 3), .int .i64 (gi (tapsOut kd (y % 2 ^ 4)) 4), .int .i64 (gi (tapsOut kd (y % 2 ^ 4)) 5), .int .i64 (gi (tapsOut kd (y % 2 ^ 4)) 6), .int .i64 (gi (tapsOut kd (y % 2 ^ 4)) 7)] 81 :: .blk b17 [.int .i64 (gi (tapsOut kd (x % 2 ^ 4)) 0), .int .i64 (gi (tapsOut kd (x % 2 ^ 4)) 1), .int .i64 (gi (tapsOut kd (x % 2 ^ 4)) 2), .int .i64 (gi (tapsOut kd (x % 2 ^ 4)) 3), .int .i64 (gi (tapsOut kd (x % 2 ^ 4)) 4), .int .i64 (gi (tapsOut kd (x % 2 ^ 4)) 5), .int .i64 (gi (tapsOut kd (x % 2 ^ 4)) 6), .int .i64 (gi (tapsOut kd (x % 2 ^ 4)) 7)] 81 :: .blk b2 [.int .i64 W, .int .i64 H, .slice A m c] 24 :: rowsT 3 bw.toNat (fun q : Nat => lnTo xs W H (tapsOut kd (x % 2 ^ 4)) x y (q : Int) bw.toNat) bs) w_ ∧ e_ = [(0, .agg #[.int .i64 W, .int .i64 H, .slice A m c]), (1, .int .i64 x), (2, .int .i64 y), (3, .int .i64 bw), (4, .int .i64 bh), (5, .int .i64 kd), (6, .pointer (some ⟨b2, 0, none⟩)), (12, .slice none 0 0), (13, .int .i64 0), (14, .pointer (some ⟨b17, 0, none⟩)), (15, .int .i64 (tapsE kd (x % 2 ^ 4))), (16, .pointer (some ⟨b23, 0, none⟩)), (17, .int .i64 (tapsE kd (y % 2 ^ 4))), (18, .func (.func 67) #[] #[.pointer (some ⟨b37, 0, none⟩), .pointer (some ⟨b36, 0, none⟩)]), (19, .func (.func 67) #[] #[.pointer (some ⟨b43, 0, none⟩), .pointer (some ⟨b42, 0, none⟩)]), (20, .pointer (some ⟨b52, 0, none⟩)), (21, .int .i64 (bs.length : Int)), (22, .pointer (some ⟨b67, 0, none⟩)), (55, .bool (decide ((((((checkF W H m) ≠ (0 : Int)) ∨ ((min x y) < ((-1048576) : Int))) ∨ ((1048576 : Int) < (max x y))) ∨ ((min bw bh) < (4 : Int))) ∨ ((64 : Int) < (max bw bh))))), (75, .bool (decide (((tapsE kd (x % 2 ^ 4)) ≠ (0 : Int)) ∨ ((tapsE kd (y % 2 ^ 4)) ≠ (0 : Int))))), (85, .int .i64 (((bh + 8) - 1 : Int).toNat : Int)), (86, .int .i64 (bs.length : Int)), (87, .bool (decide ((bs.length : Int) < (((bh + 8) - 1 : Int).toNat : Int)))), (117, .int .i64 (bw.toNat : Int)), (118, .int .i64 (i : Int))] ∧ i ≤ bw.toNat)
            (fun i => bw.toNat - i) 0 ?_ ?_
          · -- at the start
            refine ⟨hs79, rfl, by omega⟩
          · -- a round
            rintro i _ w81 ⟨hs81, rfl, f2⟩
            have hll := lnIn_length (xs := xs) (W := W) (H := H) (t := (tapsOut kd (x % 2 ^ 4))) (x := x) (y := y) (j := (bs.length : Int)) f2
            refine run_seq fun K82 k82 => ?_
            refine run_region ?_
            refine Ops.v (Yv.lt rfl rfl) ?_
            refine Ops.nil ?_
            refine k82 _ _ ?_
            refine run_seq fun K83 k83 => ?_
            refine run_ifp rfl (fun h84 => ?_) (fun h84 => ?_)
            · -- yes (i : Int) < (bw.toNat : Int)
              refine run_skip ?_
              refine k83 _ _ ?_
              refine run_seq fun K85 k85 => ?_
              refine run_block ?_
              refine run_seq fun K86 k86 => ?_
              refine run_region ?_
              refine Ops.v (Yv.move rfl) ?_
              refine Ops.v (Yv.assign rfl) ?_
              refine Ops.nil ?_
              refine k86 _ _ ?_
              refine run_seq fun K87 k87 => ?_
              refine run_region ?_
              refine Ops.v (Yv.move rfl) ?_
              refine Ops.v (Yv.shr rfl rfl 4 (by first | rfl | omega) (by omega)) ?_
              refine Ops.v (Yv.move rfl) ?_
              refine Ops.v (Yv.add rfl rfl (by omega)) ?_
              refine Ops.v (Yv.sub rfl rfl (by omega)) ?_
              refine Ops.s (Step.alloc (cs := [.int .i64 0]) hs81 Z3 rfl (fun b88 w89 hs89 hb89 => ?_) True.intro (by rfl))
              refine Ops.s (Step.store (vs := [.int .i64 (((x / 2 ^ 4) + (i : Int)) - 3)]) 0 hs89 rfl rfl rfl rfl S3 (Nat.le_of_ble_eq_true rfl) rfl (fun w91 hs91 => ?_) True.intro)
              replace hs91 : HS _ (.blk _ [_] _ :: .row _ _ _ _ _ _ :: .blk _ [_] _ :: .blk _ [_] _ :: .row _ _ _ _ _ _ :: .blk _ [_] _ :: .blk _ [_, _, _, _, _, _, _, _] _ :: .blk _ [_] _ :: .blk _ [_, _, _, _, _, _, _, _] _ :: .blk _ [_, _, _, _, _, _, _, _] _ :: .blk _ [_, _, _, _, _, _, _, _] _ :: .blk _ [_, _, _] _ :: rowsT 3 bw.toNat (fun q : Nat => lnTo xs W H (tapsOut kd (x % 2 ^ 4)) x y (q : Int) bw.toNat) bs) _ := hs91
              refine Ops.nil ?_
              refine k87 _ _ ?_
              refine run_drawn [9] (fun x => Below (w91.drew).heap.size (w91.drew) x) ?_ Tf.mixed (by kernel_rfl) (fun _ _ _ h => h)
              have hs92 := hs91.drew
              have hS93 := Below.refl (w91.drew).heap.size (w91.drew)
              refine Drw.l 0 rfl (by kernel_rfl) hS93 (Yv.load A86 rfl (fun _ hq_ => ((hs92.grow hq_).cell 3 rfl 0 rfl))) ?_
              refine Drw.a 1 rfl (by kernel_rfl) (Yv.move rfl) ?_
              refine Drw.a 2 rfl (by kernel_rfl) (Yv.idx L86 rfl rfl ((hs92.rdRow 4 rfl).isSome (i := (bs.length : Int)) (by omega) (by omega)) (by omega) (by omega)) ?_
              refine Drw.l 3 rfl (by kernel_rfl) hS93 (Yv.load A45 rfl (fun _ hq_ => (((hs92.grow hq_).rdRow 4 rfl).cell (((bs.length : Int)).toNat * 1) _ (by rw [Nat.mul_one]; exact List.getElem?_set_self (by rw [List.length_append, rowsC_length, List.length_replicate]; omega))))) ?_
              refine Drw.a 4 rfl (by kernel_rfl) (Yv.move rfl) ?_
              refine Drw.a 5 rfl (by kernel_rfl) (Yv.move rfl) ?_
              refine Drw.a 6 rfl (by kernel_rfl) (Yv.func (first := []) (cap := _) rfl rfl) ?_
              refine Drw.one 7 rfl (by kernel_rfl) (Step.call rfl rfl (sum1_fun (F := fun k => gi (subL xs (((min (max (((y / 2 ^ 4) + (bs.length : Int)) - 3) 0) (H - 1)) * W : Int).toNat) (((min (max (((y / 2 ^ 4) + (bs.length : Int)) - 3) 0) (H - 1)) * W : Int).toNat + W.toNat)) (min (max ((((x / 2 ^ 4) + (i : Int)) - 3) + k) 0) (W - 1))) (hs92.rdBlk 7 rfl (Nat.le_of_ble_eq_true rfl)) (hs92.rdBlk 8 rfl (Nat.le_of_ble_eq_true rfl)) (by decide) (hTx) (fun z _ _ => by have := gi_bytes (xs := subL xs (((min (max (((y / 2 ^ 4) + (bs.length : Int)) - 3) 0) (H - 1)) * W : Int).toNat) (((min (max (((y / 2 ^ 4) + (bs.length : Int)) - 3) 0) (H - 1)) * W : Int).toNat + W.toNat)) (sub_bytes hx _ _) (min (max ((((x / 2 ^ 4) + (i : Int)) - 3) + z) 0) (W - 1)); omega) (fun w1 z hz0 hz1 hw1 => fetch1_fun ((hs92.rdBlk 2 rfl (Nat.le_of_ble_eq_true rfl)).below hw1.below) ((((hs92.rd hr).sub8 (((min (max (((y / 2 ^ 4) + (bs.length : Int)) - 3) 0) (H - 1)) * W : Int).toNat) (((min (max (((y / 2 ^ 4) + (bs.length : Int)) - 3) 0) (H - 1)) * W : Int).toNat + W.toNat) (by omega) (by omega) (by omega)).m (by omega)).below hw1.below) (sub_bytes hx _ _) ((hs92.rdBlk 0 rfl (Nat.le_of_ble_eq_true rfl)).below hw1.below) ((hs92.rdBlk 11 rfl (Nat.le_of_ble_eq_true rfl)).below hw1.below) ⟨hz0, hz1⟩ (by omega) (by omega) (by omega))) (?_) True.intro (by rfl))
              rintro _ w94 ⟨rfl, hs94⟩
              have hS95 := HS.keepS hS93 (Nat.le_refl _) hs94
              refine ⟨fun _ _ => hS95, ?_⟩
              replace hs94 : HS w (.blk b88 [.int .i64 (((x / 2 ^ 4) + (i : Int)) - 3)] 3 :: .row (some ⟨b76, 0, none⟩) bw.toNat bw.toNat (i64s (lnIn xs W H (tapsOut kd (x % 2 ^ 4)) x y (bs.length : Int) bw.toNat i)) 3 1 :: .blk b67 [.slice (slA A (((min (max (((y / 2 ^ 4) + (bs.length : Int)) - 3) 0) (H - 1)) * W : Int).toNat) c 1) W.toNat (c - ((min (max (((y / 2 ^ 4) + (bs.length : Int)) - 3) 0) (H - 1)) * W : Int).toNat)] 22 :: .blk b52 [.slice (some ⟨b50, 0, none⟩) (((bh + 8) - 1 : Int).toNat) (((bh + 8) - 1 : Int).toNat)] 86 :: .row (some ⟨b50, 0, none⟩) (((bh + 8) - 1 : Int).toNat) (((bh + 8) - 1 : Int).toNat) ((rowsC bw.toNat bs ++ List.replicate (((bh + 8) - 1 : Int).toNat - bs.length) (Value.slice none 0 0)).set ((bs.length : Int)).toNat (Value.slice (some ⟨b76, 0, none⟩) bw.toNat bw.toNat)) 45 1 :: .blk b43 [.int .i64 11] 3 :: .blk b42 [.int .i64 (gi (tapsOut kd (y % 2 ^ 4)) 0), .int .i64 (gi (tapsOut kd (y % 2 ^ 4)) 1), .int .i64 (gi (tapsOut kd (y % 2 ^ 4)) 2), .int .i64 (gi (tapsOut kd (y % 2 ^ 4)) 3), .int .i64 (gi (tapsOut kd (y % 2 ^ 4)) 4), .int .i64 (gi (tapsOut kd (y % 2 ^ 4)) 5), .int .i64 (gi (tapsOut kd (y % 2 ^ 4)) 6), .int .i64 (gi (tapsOut kd (y % 2 ^ 4)) 7)] 81 :: .blk b37 [.int .i64 3] 3 :: .blk b36 [.int .i64 (gi (tapsOut kd (x % 2 ^ 4)) 0), .int .i64 (gi (tapsOut kd (x % 2 ^ 4)) 1), .int .i64 (gi (tapsOut kd (x % 2 ^ 4)) 2), .int .i64 (gi (tapsOut kd (x % 2 ^ 4)) 3), .int .i64 (gi (tapsOut kd (x % 2 ^ 4)) 4), .int .i64 (gi (tapsOut kd (x % 2 ^ 4)) 5), .int .i64 (gi (tapsOut kd (x % 2 ^ 4)) 6), .int .i64 (gi (tapsOut kd (x % 2 ^ 4)) 7)] 81 :: .blk b23 [.int .i64 (gi (tapsOut kd (y % 2 ^ 4)) 0), .int .i64 (gi (tapsOut kd (y % 2 ^ 4)) 1), .int .i64 (gi (tapsOut kd (y % 2 ^ 4)) 2), .int .i64 (gi (tapsOut kd (y % 2 ^ 4)) 3), .int .i64 (gi (tapsOut kd (y % 2 ^ 4)) 4), .int .i64 (gi (tapsOut kd (y % 2 ^ 4)) 5), .int .i64 (gi (tapsOut kd (y % 2 ^ 4)) 6), .int .i64 (gi (tapsOut kd (y % 2 ^ 4)) 7)] 81 :: .blk b17 [.int .i64 (gi (tapsOut kd (x % 2 ^ 4)) 0), .int .i64 (gi (tapsOut kd (x % 2 ^ 4)) 1), .int .i64 (gi (tapsOut kd (x % 2 ^ 4)) 2), .int .i64 (gi (tapsOut kd (x % 2 ^ 4)) 3), .int .i64 (gi (tapsOut kd (x % 2 ^ 4)) 4), .int .i64 (gi (tapsOut kd (x % 2 ^ 4)) 5), .int .i64 (gi (tapsOut kd (x % 2 ^ 4)) 6), .int .i64 (gi (tapsOut kd (x % 2 ^ 4)) 7)] 81 :: .blk b2 [.int .i64 W, .int .i64 H, .slice A m c] 24 :: rowsT 3 bw.toNat (fun q : Nat => lnTo xs W H (tapsOut kd (x % 2 ^ 4)) x y (q : Int) bw.toNat) bs) w94 := hs92.call hs94
              refine Drw.a 8 rfl (by kernel_rfl) (Yv.idx L45 rfl rfl ((hs94.rdRow 1 rfl).isSome (i := (i : Int)) (by omega) (by omega)) (by omega) (by omega)) ?_
              refine Drw.one 9 rfl (by kernel_rfl) (Step.storeRow (vs := [.int .i64 (tapSum (tapsOut kd (x % 2 ^ 4)) 4 (fun k => gi (subL xs (((min (max (((y / 2 ^ 4) + (bs.length : Int)) - 3) 0) (H - 1)) * W : Int).toNat) (((min (max (((y / 2 ^ 4) + (bs.length : Int)) - 3) 0) (H - 1)) * W : Int).toNat + W.toNat)) (min (max ((((x / 2 ^ 4) + (i : Int)) - 3) + k) 0) (W - 1))) 8 / 2 ^ 3)]) 1 hs94 rfl rfl rfl rfl S3 (by have hl_ := (hs94.rdRow 1 rfl).len; show ((i : Int)).toNat * 1 + 1 ≤ _; omega) (Nat.succ_pos _) rfl (fun w96 hs96 => ?_) True.intro)
              refine ⟨fun h => absurd h (by decide), ?_⟩
              have hs96_ := i64s_put (xs := lnIn xs W H (tapsOut kd (x % 2 ^ 4)) x y (bs.length : Int) bw.toNat i) (i := ((i : Int)).toNat * 1) (v := tapSum (tapsOut kd (x % 2 ^ 4)) 4 (fun k => gi (subL xs (((min (max (((y / 2 ^ 4) + (bs.length : Int)) - 3) 0) (H - 1)) * W : Int).toNat) (((min (max (((y / 2 ^ 4) + (bs.length : Int)) - 3) 0) (H - 1)) * W : Int).toNat + W.toNat)) (min (max ((((x / 2 ^ 4) + (i : Int)) - 3) + k) 0) (W - 1))) 8 / 2 ^ 3) (by have hl_ := (hs94.rdRow 1 rfl).len; rw [i64s_length] at hl_; omega)
              simp only [Nat.mul_one] at hs96_
              replace hs96 : HS w (.blk b88 [.int .i64 (((x / 2 ^ 4) + (i : Int)) - 3)] 3 :: .row (some ⟨b76, 0, none⟩) bw.toNat bw.toNat (i64s ((lnIn xs W H (tapsOut kd (x % 2 ^ 4)) x y (bs.length : Int) bw.toNat i).set (((i : Int)).toNat) (tapSum (tapsOut kd (x % 2 ^ 4)) 4 (fun k => gi (subL xs (((min (max (((y / 2 ^ 4) + (bs.length : Int)) - 3) 0) (H - 1)) * W : Int).toNat) (((min (max (((y / 2 ^ 4) + (bs.length : Int)) - 3) 0) (H - 1)) * W : Int).toNat + W.toNat)) (min (max ((((x / 2 ^ 4) + (i : Int)) - 3) + k) 0) (W - 1))) 8 / 2 ^ 3))) 3 1 :: .blk b67 [.slice (slA A (((min (max (((y / 2 ^ 4) + (bs.length : Int)) - 3) 0) (H - 1)) * W : Int).toNat) c 1) W.toNat (c - ((min (max (((y / 2 ^ 4) + (bs.length : Int)) - 3) 0) (H - 1)) * W : Int).toNat)] 22 :: .blk b52 [.slice (some ⟨b50, 0, none⟩) (((bh + 8) - 1 : Int).toNat) (((bh + 8) - 1 : Int).toNat)] 86 :: .row (some ⟨b50, 0, none⟩) (((bh + 8) - 1 : Int).toNat) (((bh + 8) - 1 : Int).toNat) ((rowsC bw.toNat bs ++ List.replicate (((bh + 8) - 1 : Int).toNat - bs.length) (Value.slice none 0 0)).set ((bs.length : Int)).toNat (Value.slice (some ⟨b76, 0, none⟩) bw.toNat bw.toNat)) 45 1 :: .blk b43 [.int .i64 11] 3 :: .blk b42 [.int .i64 (gi (tapsOut kd (y % 2 ^ 4)) 0), .int .i64 (gi (tapsOut kd (y % 2 ^ 4)) 1), .int .i64 (gi (tapsOut kd (y % 2 ^ 4)) 2), .int .i64 (gi (tapsOut kd (y % 2 ^ 4)) 3), .int .i64 (gi (tapsOut kd (y % 2 ^ 4)) 4), .int .i64 (gi (tapsOut kd (y % 2 ^ 4)) 5), .int .i64 (gi (tapsOut kd (y % 2 ^ 4)) 6), .int .i64 (gi (tapsOut kd (y % 2 ^ 4)) 7)] 81 :: .blk b37 [.int .i64 3] 3 :: .blk b36 [.int .i64 (gi (tapsOut kd (x % 2 ^ 4)) 0), .int .i64 (gi (tapsOut kd (x % 2 ^ 4)) 1), .int .i64 (gi (tapsOut kd (x % 2 ^ 4)) 2), .int .i64 (gi (tapsOut kd (x % 2 ^ 4)) 3), .int .i64 (gi (tapsOut kd (x % 2 ^ 4)) 4), .int .i64 (gi (tapsOut kd (x % 2 ^ 4)) 5), .int .i64 (gi (tapsOut kd (x % 2 ^ 4)) 6), .int .i64 (gi (tapsOut kd (x % 2 ^ 4)) 7)] 81 :: .blk b23 [.int .i64 (gi (tapsOut kd (y % 2 ^ 4)) 0), .int .i64 (gi (tapsOut kd (y % 2 ^ 4)) 1), .int .i64 (gi (tapsOut kd (y % 2 ^ 4)) 2), .int .i64 (gi (tapsOut kd (y % 2 ^ 4)) 3), .int .i64 (gi (tapsOut kd (y % 2 ^ 4)) 4), .int .i64 (gi (tapsOut kd (y % 2 ^ 4)) 5), .int .i64 (gi (tapsOut kd (y % 2 ^ 4)) 6), .int .i64 (gi (tapsOut kd (y % 2 ^ 4)) 7)] 81 :: .blk b17 [.int .i64 (gi (tapsOut kd (x % 2 ^ 4)) 0), .int .i64 (gi (tapsOut kd (x % 2 ^ 4)) 1), .int .i64 (gi (tapsOut kd (x % 2 ^ 4)) 2), .int .i64 (gi (tapsOut kd (x % 2 ^ 4)) 3), .int .i64 (gi (tapsOut kd (x % 2 ^ 4)) 4), .int .i64 (gi (tapsOut kd (x % 2 ^ 4)) 5), .int .i64 (gi (tapsOut kd (x % 2 ^ 4)) 6), .int .i64 (gi (tapsOut kd (x % 2 ^ 4)) 7)] 81 :: .blk b2 [.int .i64 W, .int .i64 H, .slice A m c] 24 :: rowsT 3 bw.toNat (fun q : Nat => lnTo xs W H (tapsOut kd (x % 2 ^ 4)) x y (q : Int) bw.toNat) bs) w96 := by simpa only [List.set, Nat.mul_one, hs96_] using hs96
              refine Drw.done ?_ (by kernel_rfl)
              refine k85 _ _ ?_
              refine run_region ?_
              refine Ops.v (Yv.add rfl rfl (by omega)) ?_
              refine Ops.v (Yv.move rfl) ?_
              refine Ops.nil ?_
              refine ⟨i + 1, _, ⟨((HS.pickT (L := [.blk b88 [.int .i64 (((x / 2 ^ 4) + (i : Int)) - 3)] 3, .row (some ⟨b76, 0, none⟩) bw.toNat bw.toNat (i64s ((lnIn xs W H (tapsOut kd (x % 2 ^ 4)) x y (bs.length : Int) bw.toNat i).set (((i : Int)).toNat) (tapSum (tapsOut kd (x % 2 ^ 4)) 4 (fun k => gi (subL xs (((min (max (((y / 2 ^ 4) + (bs.length : Int)) - 3) 0) (H - 1)) * W : Int).toNat) (((min (max (((y / 2 ^ 4) + (bs.length : Int)) - 3) 0) (H - 1)) * W : Int).toNat + W.toNat)) (min (max ((((x / 2 ^ 4) + (i : Int)) - 3) + k) 0) (W - 1))) 8 / 2 ^ 3))) 3 1, .blk b67 [.slice (slA A (((min (max (((y / 2 ^ 4) + (bs.length : Int)) - 3) 0) (H - 1)) * W : Int).toNat) c 1) W.toNat (c - ((min (max (((y / 2 ^ 4) + (bs.length : Int)) - 3) 0) (H - 1)) * W : Int).toNat)] 22, .blk b52 [.slice (some ⟨b50, 0, none⟩) (((bh + 8) - 1 : Int).toNat) (((bh + 8) - 1 : Int).toNat)] 86, .row (some ⟨b50, 0, none⟩) (((bh + 8) - 1 : Int).toNat) (((bh + 8) - 1 : Int).toNat) ((rowsC bw.toNat bs ++ List.replicate (((bh + 8) - 1 : Int).toNat - bs.length) (Value.slice none 0 0)).set ((bs.length : Int)).toNat (Value.slice (some ⟨b76, 0, none⟩) bw.toNat bw.toNat)) 45 1, .blk b43 [.int .i64 11] 3, .blk b42 [.int .i64 (gi (tapsOut kd (y % 2 ^ 4)) 0), .int .i64 (gi (tapsOut kd (y % 2 ^ 4)) 1), .int .i64 (gi (tapsOut kd (y % 2 ^ 4)) 2), .int .i64 (gi (tapsOut kd (y % 2 ^ 4)) 3), .int .i64 (gi (tapsOut kd (y % 2 ^ 4)) 4), .int .i64 (gi (tapsOut kd (y % 2 ^ 4)) 5), .int .i64 (gi (tapsOut kd (y % 2 ^ 4)) 6), .int .i64 (gi (tapsOut kd (y % 2 ^ 4)) 7)] 81, .blk b37 [.int .i64 3] 3, .blk b36 [.int .i64 (gi (tapsOut kd (x % 2 ^ 4)) 0), .int .i64 (gi (tapsOut kd (x % 2 ^ 4)) 1), .int .i64 (gi (tapsOut kd (x % 2 ^ 4)) 2), .int .i64 (gi (tapsOut kd (x % 2 ^ 4)) 3), .int .i64 (gi (tapsOut kd (x % 2 ^ 4)) 4), .int .i64 (gi (tapsOut kd (x % 2 ^ 4)) 5), .int .i64 (gi (tapsOut kd (x % 2 ^ 4)) 6), .int .i64 (gi (tapsOut kd (x % 2 ^ 4)) 7)] 81, .blk b23 [.int .i64 (gi (tapsOut kd (y % 2 ^ 4)) 0), .int .i64 (gi (tapsOut kd (y % 2 ^ 4)) 1), .int .i64 (gi (tapsOut kd (y % 2 ^ 4)) 2), .int .i64 (gi (tapsOut kd (y % 2 ^ 4)) 3), .int .i64 (gi (tapsOut kd (y % 2 ^ 4)) 4), .int .i64 (gi (tapsOut kd (y % 2 ^ 4)) 5), .int .i64 (gi (tapsOut kd (y % 2 ^ 4)) 6), .int .i64 (gi (tapsOut kd (y % 2 ^ 4)) 7)] 81, .blk b17 [.int .i64 (gi (tapsOut kd (x % 2 ^ 4)) 0), .int .i64 (gi (tapsOut kd (x % 2 ^ 4)) 1), .int .i64 (gi (tapsOut kd (x % 2 ^ 4)) 2), .int .i64 (gi (tapsOut kd (x % 2 ^ 4)) 3), .int .i64 (gi (tapsOut kd (x % 2 ^ 4)) 4), .int .i64 (gi (tapsOut kd (x % 2 ^ 4)) 5), .int .i64 (gi (tapsOut kd (x % 2 ^ 4)) 6), .int .i64 (gi (tapsOut kd (x % 2 ^ 4)) 7)] 81, .blk b2 [.int .i64 W, .int .i64 H, .slice A m c] 24]) (T := rowsT 3 bw.toNat (fun q : Nat => lnTo xs W H (tapsOut kd (x % 2 ^ 4)) x y (q : Int) bw.toNat) bs) (H' := [.row (some ⟨b76, 0, none⟩) bw.toNat bw.toNat (i64s ((lnIn xs W H (tapsOut kd (x % 2 ^ 4)) x y (bs.length : Int) bw.toNat i).set (((i : Int)).toNat) (tapSum (tapsOut kd (x % 2 ^ 4)) 4 (fun k => gi (subL xs (((min (max (((y / 2 ^ 4) + (bs.length : Int)) - 3) 0) (H - 1)) * W : Int).toNat) (((min (max (((y / 2 ^ 4) + (bs.length : Int)) - 3) 0) (H - 1)) * W : Int).toNat + W.toNat)) (min (max ((((x / 2 ^ 4) + (i : Int)) - 3) + k) 0) (W - 1))) 8 / 2 ^ 3))) 3 1, .blk b67 [.slice (slA A (((min (max (((y / 2 ^ 4) + (bs.length : Int)) - 3) 0) (H - 1)) * W : Int).toNat) c 1) W.toNat (c - ((min (max (((y / 2 ^ 4) + (bs.length : Int)) - 3) 0) (H - 1)) * W : Int).toNat)] 22, .blk b52 [.slice (some ⟨b50, 0, none⟩) (((bh + 8) - 1 : Int).toNat) (((bh + 8) - 1 : Int).toNat)] 86, .row (some ⟨b50, 0, none⟩) (((bh + 8) - 1 : Int).toNat) (((bh + 8) - 1 : Int).toNat) ((rowsC bw.toNat bs ++ List.replicate (((bh + 8) - 1 : Int).toNat - bs.length) (Value.slice none 0 0)).set ((bs.length : Int)).toNat (Value.slice (some ⟨b76, 0, none⟩) bw.toNat bw.toNat)) 45 1, .blk b43 [.int .i64 11] 3, .blk b42 [.int .i64 (gi (tapsOut kd (y % 2 ^ 4)) 0), .int .i64 (gi (tapsOut kd (y % 2 ^ 4)) 1), .int .i64 (gi (tapsOut kd (y % 2 ^ 4)) 2), .int .i64 (gi (tapsOut kd (y % 2 ^ 4)) 3), .int .i64 (gi (tapsOut kd (y % 2 ^ 4)) 4), .int .i64 (gi (tapsOut kd (y % 2 ^ 4)) 5), .int .i64 (gi (tapsOut kd (y % 2 ^ 4)) 6), .int .i64 (gi (tapsOut kd (y % 2 ^ 4)) 7)] 81, .blk b37 [.int .i64 3] 3, .blk b36 [.int .i64 (gi (tapsOut kd (x % 2 ^ 4)) 0), .int .i64 (gi (tapsOut kd (x % 2 ^ 4)) 1), .int .i64 (gi (tapsOut kd (x % 2 ^ 4)) 2), .int .i64 (gi (tapsOut kd (x % 2 ^ 4)) 3), .int .i64 (gi (tapsOut kd (x % 2 ^ 4)) 4), .int .i64 (gi (tapsOut kd (x % 2 ^ 4)) 5), .int .i64 (gi (tapsOut kd (x % 2 ^ 4)) 6), .int .i64 (gi (tapsOut kd (x % 2 ^ 4)) 7)] 81, .blk b23 [.int .i64 (gi (tapsOut kd (y % 2 ^ 4)) 0), .int .i64 (gi (tapsOut kd (y % 2 ^ 4)) 1), .int .i64 (gi (tapsOut kd (y % 2 ^ 4)) 2), .int .i64 (gi (tapsOut kd (y % 2 ^ 4)) 3), .int .i64 (gi (tapsOut kd (y % 2 ^ 4)) 4), .int .i64 (gi (tapsOut kd (y % 2 ^ 4)) 5), .int .i64 (gi (tapsOut kd (y % 2 ^ 4)) 6), .int .i64 (gi (tapsOut kd (y % 2 ^ 4)) 7)] 81, .blk b17 [.int .i64 (gi (tapsOut kd (x % 2 ^ 4)) 0), .int .i64 (gi (tapsOut kd (x % 2 ^ 4)) 1), .int .i64 (gi (tapsOut kd (x % 2 ^ 4)) 2), .int .i64 (gi (tapsOut kd (x % 2 ^ 4)) 3), .int .i64 (gi (tapsOut kd (x % 2 ^ 4)) 4), .int .i64 (gi (tapsOut kd (x % 2 ^ 4)) 5), .int .i64 (gi (tapsOut kd (x % 2 ^ 4)) 6), .int .i64 (gi (tapsOut kd (x % 2 ^ 4)) 7)] 81, .blk b2 [.int .i64 W, .int .i64 H, .slice A m c] 24]) hs96 [1, 2, 3, 4, 5, 6, 7, 8, 9, 10, 11] (by decide) rfl).to (by rw [← lnIn_next (by omega) (ln_val (xs := xs) (W := W) (H := H) (t := (tapsOut kd (x % 2 ^ 4))) (x := x) (y := y) (j := (bs.length : Int)) (i := (i : Int)) (by omega) rfl (Int.toNat_of_nonneg (by omega)) rfl rfl)]; rfl)), rfl, by omega⟩, Sub.le ⟨rfl, rfl, rfl, rfl, rfl, rfl, rfl, rfl, rfl, rfl, rfl, rfl, rfl, rfl, rfl, rfl, rfl, rfl, rfl, rfl, rfl, rfl, rfl, rfl, lookI rfl (by omega), trivial⟩, by omega⟩
            · -- no
              refine run_exit ?_
              have hi9 : i = bw.toNat := by omega
              refine k62 _ _ ?_
              refine run_region ?_
              refine Ops.v (Yv.add rfl rfl (by omega)) ?_
              refine Ops.v (Yv.move rfl) ?_
              refine Ops.nil ?_
              refine ⟨b76 :: bs, _, ⟨((HS.pickT (L := [.row (some ⟨b76, 0, none⟩) bw.toNat bw.toNat (i64s (lnIn xs W H (tapsOut kd (x % 2 ^ 4)) x y (bs.length : Int) bw.toNat i)) 3 1, .blk b67 [.slice (slA A (((min (max (((y / 2 ^ 4) + (bs.length : Int)) - 3) 0) (H - 1)) * W : Int).toNat) c 1) W.toNat (c - ((min (max (((y / 2 ^ 4) + (bs.length : Int)) - 3) 0) (H - 1)) * W : Int).toNat)] 22, .blk b52 [.slice (some ⟨b50, 0, none⟩) (((bh + 8) - 1 : Int).toNat) (((bh + 8) - 1 : Int).toNat)] 86, .row (some ⟨b50, 0, none⟩) (((bh + 8) - 1 : Int).toNat) (((bh + 8) - 1 : Int).toNat) ((rowsC bw.toNat bs ++ List.replicate (((bh + 8) - 1 : Int).toNat - bs.length) (Value.slice none 0 0)).set ((bs.length : Int)).toNat (Value.slice (some ⟨b76, 0, none⟩) bw.toNat bw.toNat)) 45 1, .blk b43 [.int .i64 11] 3, .blk b42 [.int .i64 (gi (tapsOut kd (y % 2 ^ 4)) 0), .int .i64 (gi (tapsOut kd (y % 2 ^ 4)) 1), .int .i64 (gi (tapsOut kd (y % 2 ^ 4)) 2), .int .i64 (gi (tapsOut kd (y % 2 ^ 4)) 3), .int .i64 (gi (tapsOut kd (y % 2 ^ 4)) 4), .int .i64 (gi (tapsOut kd (y % 2 ^ 4)) 5), .int .i64 (gi (tapsOut kd (y % 2 ^ 4)) 6), .int .i64 (gi (tapsOut kd (y % 2 ^ 4)) 7)] 81, .blk b37 [.int .i64 3] 3, .blk b36 [.int .i64 (gi (tapsOut kd (x % 2 ^ 4)) 0), .int .i64 (gi (tapsOut kd (x % 2 ^ 4)) 1), .int .i64 (gi (tapsOut kd (x % 2 ^ 4)) 2), .int .i64 (gi (tapsOut kd (x % 2 ^ 4)) 3), .int .i64 (gi (tapsOut kd (x % 2 ^ 4)) 4), .int .i64 (gi (tapsOut kd (x % 2 ^ 4)) 5), .int .i64 (gi (tapsOut kd (x % 2 ^ 4)) 6), .int .i64 (gi (tapsOut kd (x % 2 ^ 4)) 7)] 81, .blk b23 [.int .i64 (gi (tapsOut kd (y % 2 ^ 4)) 0), .int .i64 (gi (tapsOut kd (y % 2 ^ 4)) 1), .int .i64 (gi (tapsOut kd (y % 2 ^ 4)) 2), .int .i64 (gi (tapsOut kd (y % 2 ^ 4)) 3), .int .i64 (gi (tapsOut kd (y % 2 ^ 4)) 4), .int .i64 (gi (tapsOut kd (y % 2 ^ 4)) 5), .int .i64 (gi (tapsOut kd (y % 2 ^ 4)) 6), .int .i64 (gi (tapsOut kd (y % 2 ^ 4)) 7)] 81, .blk b17 [.int .i64 (gi (tapsOut kd (x % 2 ^ 4)) 0), .int .i64 (gi (tapsOut kd (x % 2 ^ 4)) 1), .int .i64 (gi (tapsOut kd (x % 2 ^ 4)) 2), .int .i64 (gi (tapsOut kd (x % 2 ^ 4)) 3), .int .i64 (gi (tapsOut kd (x % 2 ^ 4)) 4), .int .i64 (gi (tapsOut kd (x % 2 ^ 4)) 5), .int .i64 (gi (tapsOut kd (x % 2 ^ 4)) 6), .int .i64 (gi (tapsOut kd (x % 2 ^ 4)) 7)] 81, .blk b2 [.int .i64 W, .int .i64 H, .slice A m c] 24]) (T := rowsT 3 bw.toNat (fun q : Nat => lnTo xs W H (tapsOut kd (x % 2 ^ 4)) x y (q : Int) bw.toNat) bs) (H' := [.blk b52 [.slice (some ⟨b50, 0, none⟩) (((bh + 8) - 1 : Int).toNat) (((bh + 8) - 1 : Int).toNat)] 86, .row (some ⟨b50, 0, none⟩) (((bh + 8) - 1 : Int).toNat) (((bh + 8) - 1 : Int).toNat) ((rowsC bw.toNat bs ++ List.replicate (((bh + 8) - 1 : Int).toNat - bs.length) (Value.slice none 0 0)).set ((bs.length : Int)).toNat (Value.slice (some ⟨b76, 0, none⟩) bw.toNat bw.toNat)) 45 1, .blk b43 [.int .i64 11] 3, .blk b42 [.int .i64 (gi (tapsOut kd (y % 2 ^ 4)) 0), .int .i64 (gi (tapsOut kd (y % 2 ^ 4)) 1), .int .i64 (gi (tapsOut kd (y % 2 ^ 4)) 2), .int .i64 (gi (tapsOut kd (y % 2 ^ 4)) 3), .int .i64 (gi (tapsOut kd (y % 2 ^ 4)) 4), .int .i64 (gi (tapsOut kd (y % 2 ^ 4)) 5), .int .i64 (gi (tapsOut kd (y % 2 ^ 4)) 6), .int .i64 (gi (tapsOut kd (y % 2 ^ 4)) 7)] 81, .blk b37 [.int .i64 3] 3, .blk b36 [.int .i64 (gi (tapsOut kd (x % 2 ^ 4)) 0), .int .i64 (gi (tapsOut kd (x % 2 ^ 4)) 1), .int .i64 (gi (tapsOut kd (x % 2 ^ 4)) 2), .int .i64 (gi (tapsOut kd (x % 2 ^ 4)) 3), .int .i64 (gi (tapsOut kd (x % 2 ^ 4)) 4), .int .i64 (gi (tapsOut kd (x % 2 ^ 4)) 5), .int .i64 (gi (tapsOut kd (x % 2 ^ 4)) 6), .int .i64 (gi (tapsOut kd (x % 2 ^ 4)) 7)] 81, .blk b23 [.int .i64 (gi (tapsOut kd (y % 2 ^ 4)) 0), .int .i64 (gi (tapsOut kd (y % 2 ^ 4)) 1), .int .i64 (gi (tapsOut kd (y % 2 ^ 4)) 2), .int .i64 (gi (tapsOut kd (y % 2 ^ 4)) 3), .int .i64 (gi (tapsOut kd (y % 2 ^ 4)) 4), .int .i64 (gi (tapsOut kd (y % 2 ^ 4)) 5), .int .i64 (gi (tapsOut kd (y % 2 ^ 4)) 6), .int .i64 (gi (tapsOut kd (y % 2 ^ 4)) 7)] 81, .blk b17 [.int .i64 (gi (tapsOut kd (x % 2 ^ 4)) 0), .int .i64 (gi (tapsOut kd (x % 2 ^ 4)) 1), .int .i64 (gi (tapsOut kd (x % 2 ^ 4)) 2), .int .i64 (gi (tapsOut kd (x % 2 ^ 4)) 3), .int .i64 (gi (tapsOut kd (x % 2 ^ 4)) 4), .int .i64 (gi (tapsOut kd (x % 2 ^ 4)) 5), .int .i64 (gi (tapsOut kd (x % 2 ^ 4)) 6), .int .i64 (gi (tapsOut kd (x % 2 ^ 4)) 7)] 81, .blk b2 [.int .i64 W, .int .i64 H, .slice A m c] 24, .row (some ⟨b76, 0, none⟩) bw.toNat bw.toNat (i64s (lnIn xs W H (tapsOut kd (x % 2 ^ 4)) x y (bs.length : Int) bw.toNat i)) 3 1]) hs81 [2, 3, 4, 5, 6, 7, 8, 9, 10, 0] (by decide) rfl).to (by subst hi9; rw [rowsC_step (by omega), lnIn_done]; rfl)), rfl, (by rw [List.length_cons]; omega)⟩, Sub.le ⟨rfl, rfl, rfl, rfl, rfl, rfl, rfl, rfl, rfl, rfl, rfl, rfl, rfl, rfl, rfl, rfl, rfl, rfl, rfl, lookI rfl (by rw [List.length_cons]; omega), trivial⟩, (by show ((bh + 8) - 1 : Int).toNat - (_ :: bs).length < _; rw [List.length_cons]; omega)⟩
        · -- no
          refine run_exit ?_
          have hbs : bs.length = ((bh + 8) - 1 : Int).toNat := by omega
          refine k56 _ _ ?_
          refine run_seq fun K97 k97 => ?_
          refine run_region ?_
          refine Ops.v (Yv.move rfl) ?_
          refine Ops.v (Yv.move rfl) ?_
          refine Ops.v (Yv.mul rfl rfl (by omega)) ?_
          refine Ops.s (Step.make0 (c := bw * bh) hs58 L22 Z5 rfl rfl rfl (by omega) (by omega) (by omega) (fun b99 w98 hs98 hb98 => ?_) True.intro (by rfl))
          replace hs98 : HS w (.row (some ⟨b99, 0, none⟩) 0 ((bw * bh).toNat) (u8s []) 5 1 :: .blk b52 [.slice (some ⟨b50, 0, none⟩) (((bh + 8) - 1 : Int).toNat) (((bh + 8) - 1 : Int).toNat)] 86 :: .row (some ⟨b50, 0, none⟩) (((bh + 8) - 1 : Int).toNat) (((bh + 8) - 1 : Int).toNat) (rowsC bw.toNat bs ++ List.replicate (((bh + 8) - 1 : Int).toNat - bs.length) (Value.slice none 0 0)) 45 1 :: .blk b43 [.int .i64 11] 3 :: .blk b42 [.int .i64 (gi (tapsOut kd (y % 2 ^ 4)) 0), .int .i64 (gi (tapsOut kd (y % 2 ^ 4)) 1), .int .i64 (gi (tapsOut kd (y % 2 ^ 4)) 2), .int .i64 (gi (tapsOut kd (y % 2 ^ 4)) 3), .int .i64 (gi (tapsOut kd (y % 2 ^ 4)) 4), .int .i64 (gi (tapsOut kd (y % 2 ^ 4)) 5), .int .i64 (gi (tapsOut kd (y % 2 ^ 4)) 6), .int .i64 (gi (tapsOut kd (y % 2 ^ 4)) 7)] 81 :: .blk b37 [.int .i64 3] 3 :: .blk b36 [.int .i64 (gi (tapsOut kd (x % 2 ^ 4)) 0), .int .i64 (gi (tapsOut kd (x % 2 ^ 4)) 1), .int .i64 (gi (tapsOut kd (x % 2 ^ 4)) 2), .int .i64 (gi (tapsOut kd (x % 2 ^ 4)) 3), .int .i64 (gi (tapsOut kd (x % 2 ^ 4)) 4), .int .i64 (gi (tapsOut kd (x % 2 ^ 4)) 5), .int .i64 (gi (tapsOut kd (x % 2 ^ 4)) 6), .int .i64 (gi (tapsOut kd (x % 2 ^ 4)) 7)] 81 :: .blk b23 [.int .i64 (gi (tapsOut kd (y % 2 ^ 4)) 0), .int .i64 (gi (tapsOut kd (y % 2 ^ 4)) 1), .int .i64 (gi (tapsOut kd (y % 2 ^ 4)) 2), .int .i64 (gi (tapsOut kd (y % 2 ^ 4)) 3), .int .i64 (gi (tapsOut kd (y % 2 ^ 4)) 4), .int .i64 (gi (tapsOut kd (y % 2 ^ 4)) 5), .int .i64 (gi (tapsOut kd (y % 2 ^ 4)) 6), .int .i64 (gi (tapsOut kd (y % 2 ^ 4)) 7)] 81 :: .blk b17 [.int .i64 (gi (tapsOut kd (x % 2 ^ 4)) 0), .int .i64 (gi (tapsOut kd (x % 2 ^ 4)) 1), .int .i64 (gi (tapsOut kd (x % 2 ^ 4)) 2), .int .i64 (gi (tapsOut kd (x % 2 ^ 4)) 3), .int .i64 (gi (tapsOut kd (x % 2 ^ 4)) 4), .int .i64 (gi (tapsOut kd (x % 2 ^ 4)) 5), .int .i64 (gi (tapsOut kd (x % 2 ^ 4)) 6), .int .i64 (gi (tapsOut kd (x % 2 ^ 4)) 7)] 81 :: .blk b2 [.int .i64 W, .int .i64 H, .slice A m c] 24 :: rowsT 3 bw.toNat (fun q : Nat => lnTo xs W H (tapsOut kd (x % 2 ^ 4)) x y (q : Int) bw.toNat) bs) w98 := hs98
          refine Ops.v (Yv.assign rfl) ?_
          refine Ops.nil ?_
          refine k97 _ _ ?_
          refine run_seq fun K101 k101 => ?_
          refine run_seq fun K102 k102 => ?_
          refine run_region ?_
          refine Ops.v (Yv.move rfl) ?_
          refine Ops.v (Yv.move rfl) ?_
          refine Ops.nil ?_
          refine k102 _ _ ?_
          refine run_block ?_
          refine Run.sub [(0, _), (1, _), (2, _), (3, _), (4, _), (5, _), (6, _), (12, _), (13, _), (14, _), (15, _), (16, _), (17, _), (18, _), (19, _), (20, _), (25, _), (55, _), (75, _), (85, _), (86, _), (87, _), (141, _), (142, _)] ⟨rfl, rfl, rfl, rfl, rfl, rfl, rfl, rfl, rfl, rfl, rfl, rfl, rfl, rfl, rfl, rfl, rfl, rfl, rfl, rfl, rfl, rfl, rfl, rfl, trivial⟩ ?_
          refine run_loop (σ := Nat × Option Addr × Nat) (fun (a, A_, c_) e_ w_ => HS w (.row A_ (a * bw.toNat) c_ (u8s (fetchTo xs W H (tapsOut kd (x % 2 ^ 4)) (tapsOut kd (y % 2 ^ 4)) x y bw (a * bw.toNat))) 5 1 :: .blk b52 [.slice (some ⟨b50, 0, none⟩) (((bh + 8) - 1 : Int).toNat) (((bh + 8) - 1 : Int).toNat)] 86 :: .row (some ⟨b50, 0, none⟩) (((bh + 8) - 1 : Int).toNat) (((bh + 8) - 1 : Int).toNat) (rowsC bw.toNat bs ++ List.replicate (((bh + 8) - 1 : Int).toNat - bs.length) (Value.slice none 0 0)) 45 1 :: .blk b43 [.int .i64 11] 3 :: .blk b42 [.int .i64 (gi (tapsOut kd (y % 2 ^ 4)) 0), .int .i64 (gi (tapsOut kd (y % 2 ^ 4)) 1), .int .i64 (gi (tapsOut kd (y % 2 ^ 4)) 2), .int .i64 (gi (tapsOut kd (y % 2 ^ 4)) 3), .int .i64 (gi (tapsOut kd (y % 2 ^ 4)) 4), .int .i64 (gi (tapsOut kd (y % 2 ^ 4)) 5), .int .i64 (gi (tapsOut kd (y % 2 ^ 4)) 6), .int .i64 (gi (tapsOut kd (y % 2 ^ 4)) 7)] 81 :: .blk b37 [.int .i64 3] 3 :: .blk b36 [.int .i64 (gi (tapsOut kd (x % 2 ^ 4)) 0), .int .i64 (gi (tapsOut kd (x % 2 ^ 4)) 1), .int .i64 (gi (tapsOut kd (x % 2 ^ 4)) 2), .int .i64 (gi (tapsOut kd (x % 2 ^ 4)) 3), .int .i64 (gi (tapsOut kd (x % 2 ^ 4)) 4), .int .i64 (gi (tapsOut kd (x % 2 ^ 4)) 5), .int .i64 (gi (tapsOut kd (x % 2 ^ 4)) 6), .int .i64 (gi (tapsOut kd (x % 2 ^ 4)) 7)] 81 :: .blk b23 [.int .i64 (gi (tapsOut kd (y % 2 ^ 4)) 0), .int .i64 (gi (tapsOut kd (y % 2 ^ 4)) 1), .int .i64 (gi (tapsOut kd (y % 2 ^ 4)) 2), .int .i64 (gi (tapsOut kd (y % 2 ^ 4)) 3), .int .i64 (gi (tapsOut kd (y % 2 ^ 4)) 4), .int .i64 (gi (tapsOut kd (y % 2 ^ 4)) 5), .int .i64 (gi (tapsOut kd (y % 2 ^ 4)) 6), .int .i64 (gi (tapsOut kd (y % 2 ^ 4)) 7)] 81 :: .blk b17 [.int .i64 (gi (tapsOut kd (x % 2 ^ 4)) 0), .int .i64 (gi (tapsOut kd (x % 2 ^ 4)) 1), .int .i64 (gi (tapsOut kd (x % 2 ^ 4)) 2), .int .i64 (gi (tapsOut kd (x % 2 ^ 4)) 3), .int .i64 (gi (tapsOut kd (x % 2 ^ 4)) 4), .int .i64 (gi (tapsOut kd (x % 2 ^ 4)) 5), .int .i64 (gi (tapsOut kd (x % 2 ^ 4)) 6), .int .i64 (gi (tapsOut kd (x % 2 ^ 4)) 7)] 81 :: .blk b2 [.int .i64 W, .int .i64 H, .slice A m c] 24 :: rowsT 3 bw.toNat (fun q : Nat => lnTo xs W H (tapsOut kd (x % 2 ^ 4)) x y (q : Int) bw.toNat) bs) w_ ∧ e_ = [(0, .agg #[.int .i64 W, .int .i64 H, .slice A m c]), (1, .int .i64 x), (2, .int .i64 y), (3, .int .i64 bw), (4, .int .i64 bh), (5, .int .i64 kd), (6, .pointer (some ⟨b2, 0, none⟩)), (12, .slice none 0 0), (13, .int .i64 0), (14, .pointer (some ⟨b17, 0, none⟩)), (15, .int .i64 (tapsE kd (x % 2 ^ 4))), (16, .pointer (some ⟨b23, 0, none⟩)), (17, .int .i64 (tapsE kd (y % 2 ^ 4))), (18, .func (.func 67) #[] #[.pointer (some ⟨b37, 0, none⟩), .pointer (some ⟨b36, 0, none⟩)]), (19, .func (.func 67) #[] #[.pointer (some ⟨b43, 0, none⟩), .pointer (some ⟨b42, 0, none⟩)]), (20, .pointer (some ⟨b52, 0, none⟩)), (25, .slice A_ (a * bw.toNat) c_), (55, .bool (decide ((((((checkF W H m) ≠ (0 : Int)) ∨ ((min x y) < ((-1048576) : Int))) ∨ ((1048576 : Int) < (max x y))) ∨ ((min bw bh) < (4 : Int))) ∨ ((64 : Int) < (max bw bh))))), (75, .bool (decide (((tapsE kd (x % 2 ^ 4)) ≠ (0 : Int)) ∨ ((tapsE kd (y % 2 ^ 4)) ≠ (0 : Int))))), (85, .int .i64 (((bh + 8) - 1 : Int).toNat : Int)), (86, .int .i64 (bs.length : Int)), (87, .bool (decide ((bs.length : Int) < (((bh + 8) - 1 : Int).toNat : Int)))), (141, .int .i64 bh), (142, .int .i64 (a : Int))] ∧ a ≤ bh.toNat)
            (fun (a, A_, c_) => bh.toNat - a) (0, some ⟨b99, 0, none⟩, (bw * bh).toNat) ?_ ?_
          · -- at the start
            refine ⟨hs98.to (by rw [Nat.zero_mul]; rfl), (by rw [Nat.zero_mul]; rfl), Nat.zero_le _⟩
          · -- a round
            rintro ⟨a, A_, c_⟩ _ w103 ⟨hs103, rfl, f3⟩
            refine run_seq fun K104 k104 => ?_
            refine run_region ?_
            refine Ops.v (Yv.lt rfl rfl) ?_
            refine Ops.nil ?_
            refine k104 _ _ ?_
            refine run_seq fun K105 k105 => ?_
            refine run_ifp rfl (fun h106 => ?_) (fun h106 => ?_)
            · -- yes (a : Int) < bh
              refine run_skip ?_
              refine k105 _ _ ?_
              refine run_seq fun K107 k107 => ?_
              refine run_block ?_
              refine run_seq fun K108 k108 => ?_
              refine run_region ?_
              refine Ops.v (Yv.move rfl) ?_
              refine Ops.s (Step.alloc (cs := [.int .i64 0]) hs103 Z3 rfl (fun b109 w110 hs110 hb110 => ?_) True.intro (by rfl))
              refine Ops.s (Step.store (vs := [.int .i64 (a : Int)]) 0 hs110 rfl rfl rfl rfl S3 (Nat.le_of_ble_eq_true rfl) rfl (fun w112 hs112 => ?_) True.intro)
              replace hs112 : HS _ (.blk _ [_] _ :: .row _ _ _ _ _ _ :: .blk _ [_] _ :: .row _ _ _ _ _ _ :: .blk _ [_] _ :: .blk _ [_, _, _, _, _, _, _, _] _ :: .blk _ [_] _ :: .blk _ [_, _, _, _, _, _, _, _] _ :: .blk _ [_, _, _, _, _, _, _, _] _ :: .blk _ [_, _, _, _, _, _, _, _] _ :: .blk _ [_, _, _] _ :: rowsT 3 bw.toNat (fun q : Nat => lnTo xs W H (tapsOut kd (x % 2 ^ 4)) x y (q : Int) bw.toNat) bs) _ := hs112
              refine Ops.nil ?_
              refine k108 _ _ ?_
              refine run_seq fun K113 k113 => ?_
              refine run_region ?_
              refine Ops.v (Yv.move rfl) ?_
              refine Ops.v (Yv.move rfl) ?_
              refine Ops.nil ?_
              refine k113 _ _ ?_
              refine run_block ?_
              refine Run.sub [(0, _), (1, _), (2, _), (3, _), (4, _), (5, _), (6, _), (12, _), (13, _), (14, _), (15, _), (16, _), (17, _), (18, _), (19, _), (20, _), (25, _), (26, _), (55, _), (75, _), (85, _), (86, _), (87, _), (141, _), (142, _), (143, _), (145, _), (146, _)] ⟨rfl, rfl, rfl, rfl, rfl, rfl, rfl, rfl, rfl, rfl, rfl, rfl, rfl, rfl, rfl, rfl, rfl, rfl, rfl, rfl, rfl, rfl, rfl, rfl, rfl, rfl, rfl, rfl, trivial⟩ ?_
              refine run_loop (σ := Nat × Option Addr × Nat) (fun (i, B_, d_) e_ w_ => HS w (.blk b109 [.int .i64 (a : Int)] 3 :: .row B_ (a * bw.toNat + i) d_ (u8s (fetchTo xs W H (tapsOut kd (x % 2 ^ 4)) (tapsOut kd (y % 2 ^ 4)) x y bw (a * bw.toNat + i))) 5 1 :: .blk b52 [.slice (some ⟨b50, 0, none⟩) (((bh + 8) - 1 : Int).toNat) (((bh + 8) - 1 : Int).toNat)] 86 :: .row (some ⟨b50, 0, none⟩) (((bh + 8) - 1 : Int).toNat) (((bh + 8) - 1 : Int).toNat) (rowsC bw.toNat bs ++ List.replicate (((bh + 8) - 1 : Int).toNat - bs.length) (Value.slice none 0 0)) 45 1 :: .blk b43 [.int .i64 11] 3 :: .blk b42 [.int .i64 (gi (tapsOut kd (y % 2 ^ 4)) 0), .int .i64 (gi (tapsOut kd (y % 2 ^ 4)) 1), .int .i64 (gi (tapsOut kd (y % 2 ^ 4)) 2), .int .i64 (gi (tapsOut kd (y % 2 ^ 4)) 3), .int .i64 (gi (tapsOut kd (y % 2 ^ 4)) 4), .int .i64 (gi (tapsOut kd (y % 2 ^ 4)) 5), .int .i64 (gi (tapsOut kd (y % 2 ^ 4)) 6), .int .i64 (gi (tapsOut kd (y % 2 ^ 4)) 7)] 81 :: .blk b37 [.int .i64 3] 3 :: .blk b36 [.int .i64 (gi (tapsOut kd (x % 2 ^ 4)) 0), .int .i64 (gi (tapsOut kd (x % 2 ^ 4)) 1), .int .i64 (gi (tapsOut kd (x % 2 ^ 4)) 2), .int .i64 (gi (tapsOut kd (x % 2 ^ 4)) 3), .int .i64 (gi (tapsOut kd (x % 2 ^ 4)) 4), .int .i64 (gi (tapsOut kd (x % 2 ^ 4)) 5), .int .i64 (gi (tapsOut kd (x % 2 ^ 4)) 6), .int .i64 (gi (tapsOut kd (x % 2 ^ 4)) 7)] 81 :: .blk b23 [.int .i64 (gi (tapsOut kd (y % 2 ^ 4)) 0), .int .i64 (gi (tapsOut kd (y % 2 ^ 4)) 1), .int .i64 (gi (tapsOut kd (y % 2 ^ 4)) 2), .int .i64 (gi (tapsOut kd (y % 2 ^ 4)) 3), .int .i64 (gi (tapsOut kd (y % 2 ^ 4)) 4), .int .i64 (gi (tapsOut kd (y % 2 ^ 4)) 5), .int .i64 (gi (tapsOut kd (y % 2 ^ 4)) 6), .int .i64 (gi (tapsOut kd (y % 2 ^ 4)) 7)] 81 :: .blk b17 [.int .i64 (gi (tapsOut kd (x % 2 ^ 4)) 0), .int .i64 (gi (tapsOut kd (x % 2 ^ 4)) 1), .int .i64 (gi (tapsOut kd (x % 2 ^ 4)) 2), .int .i64 (gi (tapsOut kd (x % 2 ^ 4)) 3), .int .i64 (gi (tapsOut kd (x % 2 ^ 4)) 4), .int .i64 (gi (tapsOut kd (x % 2 ^ 4)) 5), .int .i64 (gi (tapsOut kd (x % 2 ^ 4)) 6), .int .i64 (gi (tapsOut kd (x % 2 ^ 4)) 7)] 81 :: .blk b2 [.int .i64 W, .int .i64 H, .slice A m c] 24 :: rowsT 3 bw.toNat (fun q : Nat => lnTo xs W H (tapsOut kd (x % 2 ^ 4)) x y (q : Int) bw.toNat) bs) w_ ∧ e_ = [(0, .agg #[.int .i64 W, .int .i64 H, .slice A m c]), (1, .int .i64 x), (2, .int .i64 y), (3, .int .i64 bw), (4, .int .i64 bh), (5, .int .i64 kd), (6, .pointer (some ⟨b2, 0, none⟩)), (12, .slice none 0 0), (13, .int .i64 0), (14, .pointer (some ⟨b17, 0, none⟩)), (15, .int .i64 (tapsE kd (x % 2 ^ 4))), (16, .pointer (some ⟨b23, 0, none⟩)), (17, .int .i64 (tapsE kd (y % 2 ^ 4))), (18, .func (.func 67) #[] #[.pointer (some ⟨b37, 0, none⟩), .pointer (some ⟨b36, 0, none⟩)]), (19, .func (.func 67) #[] #[.pointer (some ⟨b43, 0, none⟩), .pointer (some ⟨b42, 0, none⟩)]), (20, .pointer (some ⟨b52, 0, none⟩)), (25, .slice B_ (a * bw.toNat + i) d_), (26, .pointer (some ⟨b109, 0, none⟩)), (55, .bool (decide ((((((checkF W H m) ≠ (0 : Int)) ∨ ((min x y) < ((-1048576) : Int))) ∨ ((1048576 : Int) < (max x y))) ∨ ((min bw bh) < (4 : Int))) ∨ ((64 : Int) < (max bw bh))))), (75, .bool (decide (((tapsE kd (x % 2 ^ 4)) ≠ (0 : Int)) ∨ ((tapsE kd (y % 2 ^ 4)) ≠ (0 : Int))))), (85, .int .i64 (((bh + 8) - 1 : Int).toNat : Int)), (86, .int .i64 (bs.length : Int)), (87, .bool (decide ((bs.length : Int) < (((bh + 8) - 1 : Int).toNat : Int)))), (141, .int .i64 bh), (142, .int .i64 (a : Int)), (143, .bool (decide ((a : Int) < bh))), (145, .int .i64 bw), (146, .int .i64 (i : Int))] ∧ i ≤ bw.toNat)
                (fun (i, B_, d_) => bw.toNat - i) (0, A_, c_) ?_ ?_
              · -- at the start
                refine ⟨hs112, rfl, Nat.zero_le _⟩
              · -- a round
                rintro ⟨i, B_, d_⟩ _ w114 ⟨hs114, rfl, f4⟩
                have hab9 : a * bw.toNat ≤ 64 * 64 := Nat.mul_le_mul (by omega) (by omega)
                refine run_seq fun K115 k115 => ?_
                refine run_region ?_
                refine Ops.v (Yv.lt rfl rfl) ?_
                refine Ops.nil ?_
                refine k115 _ _ ?_
                refine run_seq fun K116 k116 => ?_
                refine run_ifp rfl (fun h117 => ?_) (fun h117 => ?_)
                · -- yes (i : Int) < bw
                  refine run_skip ?_
                  refine k116 _ _ ?_
                  refine run_seq fun K118 k118 => ?_
                  refine run_block ?_
                  refine run_seq fun K119 k119 => ?_
                  refine run_region ?_
                  refine Ops.v (Yv.move rfl) ?_
                  refine Ops.s (Step.alloc (cs := [.int .i64 0]) hs114 Z3 rfl (fun b120 w121 hs121 hb121 => ?_) True.intro (by rfl))
                  refine Ops.s (Step.store (vs := [.int .i64 (i : Int)]) 0 hs121 rfl rfl rfl rfl S3 (Nat.le_of_ble_eq_true rfl) rfl (fun w123 hs123 => ?_) True.intro)
                  replace hs123 : HS _ (.blk _ [_] _ :: .blk _ [_] _ :: .row _ _ _ _ _ _ :: .blk _ [_] _ :: .row _ _ _ _ _ _ :: .blk _ [_] _ :: .blk _ [_, _, _, _, _, _, _, _] _ :: .blk _ [_] _ :: .blk _ [_, _, _, _, _, _, _, _] _ :: .blk _ [_, _, _, _, _, _, _, _] _ :: .blk _ [_, _, _, _, _, _, _, _] _ :: .blk _ [_, _, _] _ :: rowsT 3 bw.toNat (fun q : Nat => lnTo xs W H (tapsOut kd (x % 2 ^ 4)) x y (q : Int) bw.toNat) bs) _ := hs123
                  refine Ops.nil ?_
                  refine k119 _ _ ?_
                  refine run_seq fun K124 k124 => ?_
                  refine run_region ?_
                  refine Ops.v (Yv.move rfl) ?_
                  refine Ops.v (Yv.func (first := []) (cap := _) rfl rfl) ?_
                  refine Ops.s (Step.call rfl rfl (sum1_fun (F := fun k => gi (lnTo xs W H (tapsOut kd (x % 2 ^ 4)) x y ((((a : Int) + k).toNat : Nat) : Int) bw.toNat) (i : Int)) (hs123.rdBlk 5 rfl (Nat.le_of_ble_eq_true rfl)) (hs123.rdBlk 6 rfl (Nat.le_of_ble_eq_true rfl)) (by decide) (hTy) (fun z hz0 hz1 => by rw [lnTo_at (i := i) (by omega)]; exact acrossF_bd hx hTx x y _ _) (fun w1 z hz0 hz1 hw1 => fetch2_fun (bq := rowB bs ((a : Int) + z).toNat) ((hs123.rdBlk 3 rfl (Nat.le_of_ble_eq_true rfl)).below hw1.below) ((hs123.rdRow 4 rfl).below hw1.below) ((hs123.rdBlk 1 rfl (Nat.le_of_ble_eq_true rfl)).below hw1.below) ((hs123.rdBlk 0 rfl (Nat.le_of_ble_eq_true rfl)).below hw1.below) ⟨by omega, by omega⟩ (by omega) (by rw [List.getElem?_append_left (by rw [rowsC_length]; omega)]; exact rowB_cell (by omega)) ((HS.rowAt (pre := [.blk b120 [.int .i64 (i : Int)] 3, .blk b109 [.int .i64 (a : Int)] 3, .row B_ (a * bw.toNat + i) d_ (u8s (fetchTo xs W H (tapsOut kd (x % 2 ^ 4)) (tapsOut kd (y % 2 ^ 4)) x y bw (a * bw.toNat + i))) 5 1, .blk b52 [.slice (some ⟨b50, 0, none⟩) (((bh + 8) - 1 : Int).toNat) (((bh + 8) - 1 : Int).toNat)] 86, .row (some ⟨b50, 0, none⟩) (((bh + 8) - 1 : Int).toNat) (((bh + 8) - 1 : Int).toNat) (rowsC bw.toNat bs ++ List.replicate (((bh + 8) - 1 : Int).toNat - bs.length) (Value.slice none 0 0)) 45 1, .blk b43 [.int .i64 11] 3, .blk b42 [.int .i64 (gi (tapsOut kd (y % 2 ^ 4)) 0), .int .i64 (gi (tapsOut kd (y % 2 ^ 4)) 1), .int .i64 (gi (tapsOut kd (y % 2 ^ 4)) 2), .int .i64 (gi (tapsOut kd (y % 2 ^ 4)) 3), .int .i64 (gi (tapsOut kd (y % 2 ^ 4)) 4), .int .i64 (gi (tapsOut kd (y % 2 ^ 4)) 5), .int .i64 (gi (tapsOut kd (y % 2 ^ 4)) 6), .int .i64 (gi (tapsOut kd (y % 2 ^ 4)) 7)] 81, .blk b37 [.int .i64 3] 3, .blk b36 [.int .i64 (gi (tapsOut kd (x % 2 ^ 4)) 0), .int .i64 (gi (tapsOut kd (x % 2 ^ 4)) 1), .int .i64 (gi (tapsOut kd (x % 2 ^ 4)) 2), .int .i64 (gi (tapsOut kd (x % 2 ^ 4)) 3), .int .i64 (gi (tapsOut kd (x % 2 ^ 4)) 4), .int .i64 (gi (tapsOut kd (x % 2 ^ 4)) 5), .int .i64 (gi (tapsOut kd (x % 2 ^ 4)) 6), .int .i64 (gi (tapsOut kd (x % 2 ^ 4)) 7)] 81, .blk b23 [.int .i64 (gi (tapsOut kd (y % 2 ^ 4)) 0), .int .i64 (gi (tapsOut kd (y % 2 ^ 4)) 1), .int .i64 (gi (tapsOut kd (y % 2 ^ 4)) 2), .int .i64 (gi (tapsOut kd (y % 2 ^ 4)) 3), .int .i64 (gi (tapsOut kd (y % 2 ^ 4)) 4), .int .i64 (gi (tapsOut kd (y % 2 ^ 4)) 5), .int .i64 (gi (tapsOut kd (y % 2 ^ 4)) 6), .int .i64 (gi (tapsOut kd (y % 2 ^ 4)) 7)] 81, .blk b17 [.int .i64 (gi (tapsOut kd (x % 2 ^ 4)) 0), .int .i64 (gi (tapsOut kd (x % 2 ^ 4)) 1), .int .i64 (gi (tapsOut kd (x % 2 ^ 4)) 2), .int .i64 (gi (tapsOut kd (x % 2 ^ 4)) 3), .int .i64 (gi (tapsOut kd (x % 2 ^ 4)) 4), .int .i64 (gi (tapsOut kd (x % 2 ^ 4)) 5), .int .i64 (gi (tapsOut kd (x % 2 ^ 4)) 6), .int .i64 (gi (tapsOut kd (x % 2 ^ 4)) 7)] 81, .blk b2 [.int .i64 W, .int .i64 H, .slice A m c] 24]) hs123 (q := ((a : Int) + z).toNat) (by omega)).below hw1.below) ⟨by omega, by omega⟩)) (?_) True.intro (by rfl))
                  rintro _ w125 ⟨rfl, hs125⟩
                  replace hs125 : HS w (.blk b120 [.int .i64 (i : Int)] 3 :: .blk b109 [.int .i64 (a : Int)] 3 :: .row B_ (a * bw.toNat + i) d_ (u8s (fetchTo xs W H (tapsOut kd (x % 2 ^ 4)) (tapsOut kd (y % 2 ^ 4)) x y bw (a * bw.toNat + i))) 5 1 :: .blk b52 [.slice (some ⟨b50, 0, none⟩) (((bh + 8) - 1 : Int).toNat) (((bh + 8) - 1 : Int).toNat)] 86 :: .row (some ⟨b50, 0, none⟩) (((bh + 8) - 1 : Int).toNat) (((bh + 8) - 1 : Int).toNat) (rowsC bw.toNat bs ++ List.replicate (((bh + 8) - 1 : Int).toNat - bs.length) (Value.slice none 0 0)) 45 1 :: .blk b43 [.int .i64 11] 3 :: .blk b42 [.int .i64 (gi (tapsOut kd (y % 2 ^ 4)) 0), .int .i64 (gi (tapsOut kd (y % 2 ^ 4)) 1), .int .i64 (gi (tapsOut kd (y % 2 ^ 4)) 2), .int .i64 (gi (tapsOut kd (y % 2 ^ 4)) 3), .int .i64 (gi (tapsOut kd (y % 2 ^ 4)) 4), .int .i64 (gi (tapsOut kd (y % 2 ^ 4)) 5), .int .i64 (gi (tapsOut kd (y % 2 ^ 4)) 6), .int .i64 (gi (tapsOut kd (y % 2 ^ 4)) 7)] 81 :: .blk b37 [.int .i64 3] 3 :: .blk b36 [.int .i64 (gi (tapsOut kd (x % 2 ^ 4)) 0), .int .i64 (gi (tapsOut kd (x % 2 ^ 4)) 1), .int .i64 (gi (tapsOut kd (x % 2 ^ 4)) 2), .int .i64 (gi (tapsOut kd (x % 2 ^ 4)) 3), .int .i64 (gi (tapsOut kd (x % 2 ^ 4)) 4), .int .i64 (gi (tapsOut kd (x % 2 ^ 4)) 5), .int .i64 (gi (tapsOut kd (x % 2 ^ 4)) 6), .int .i64 (gi (tapsOut kd (x % 2 ^ 4)) 7)] 81 :: .blk b23 [.int .i64 (gi (tapsOut kd (y % 2 ^ 4)) 0), .int .i64 (gi (tapsOut kd (y % 2 ^ 4)) 1), .int .i64 (gi (tapsOut kd (y % 2 ^ 4)) 2), .int .i64 (gi (tapsOut kd (y % 2 ^ 4)) 3), .int .i64 (gi (tapsOut kd (y % 2 ^ 4)) 4), .int .i64 (gi (tapsOut kd (y % 2 ^ 4)) 5), .int .i64 (gi (tapsOut kd (y % 2 ^ 4)) 6), .int .i64 (gi (tapsOut kd (y % 2 ^ 4)) 7)] 81 :: .blk b17 [.int .i64 (gi (tapsOut kd (x % 2 ^ 4)) 0), .int .i64 (gi (tapsOut kd (x % 2 ^ 4)) 1), .int .i64 (gi (tapsOut kd (x % 2 ^ 4)) 2), .int .i64 (gi (tapsOut kd (x % 2 ^ 4)) 3), .int .i64 (gi (tapsOut kd (x % 2 ^ 4)) 4), .int .i64 (gi (tapsOut kd (x % 2 ^ 4)) 5), .int .i64 (gi (tapsOut kd (x % 2 ^ 4)) 6), .int .i64 (gi (tapsOut kd (x % 2 ^ 4)) 7)] 81 :: .blk b2 [.int .i64 W, .int .i64 H, .slice A m c] 24 :: rowsT 3 bw.toNat (fun q : Nat => lnTo xs W H (tapsOut kd (x % 2 ^ 4)) x y (q : Int) bw.toNat) bs) w125 := hs123.call hs125
                  refine Ops.v (Yv.assign rfl) ?_
                  refine Ops.nil ?_
                  refine k124 _ _ ?_
                  refine run_region ?_
                  refine Ops.v (Yv.move rfl) ?_
                  refine Ops.v (Yv.move rfl) ?_
                  refine Ops.v (Yv.max rfl rfl) ?_
                  refine Ops.v (Yv.min rfl rfl) ?_
                  refine Ops.v (Yv.toByte U5 V3 rfl (by omega)) ?_
                  refine Ops.s (Step.lit (ps := [(0, .int .u8 (min (max (tapSum (tapsOut kd (y % 2 ^ 4)) 1024 (fun k => gi (lnTo xs W H (tapsOut kd (x % 2 ^ 4)) x y ((((a : Int) + k).toNat : Nat) : Int) bw.toNat) (i : Int)) 8 / 2 ^ 11) 0) 255))]) (cs := [.int .u8 (min (max (tapSum (tapsOut kd (y % 2 ^ 4)) 1024 (fun k => gi (lnTo xs W H (tapsOut kd (x % 2 ^ 4)) x y ((((a : Int) + k).toNat : Nat) : Int) bw.toNat) (i : Int)) 8 / 2 ^ 11) 0) 255)]) hs125 L22 ⟨_, Z5, rfl⟩ rfl (by decide) (by decide) (by kernel_rfl) rfl (by decide) (fun b127 w126 hs126 hb126 => ?_) True.intro (by rfl))
                  replace hs126 : HS w (.row (some ⟨b127, 0, none⟩) 1 1 (u8s [min (max (tapSum (tapsOut kd (y % 2 ^ 4)) 1024 (fun k => gi (lnTo xs W H (tapsOut kd (x % 2 ^ 4)) x y ((((a : Int) + k).toNat : Nat) : Int) bw.toNat) (i : Int)) 8 / 2 ^ 11) 0) 255]) 5 1 :: .blk b120 [.int .i64 (i : Int)] 3 :: .blk b109 [.int .i64 (a : Int)] 3 :: .row B_ (a * bw.toNat + i) d_ (u8s (fetchTo xs W H (tapsOut kd (x % 2 ^ 4)) (tapsOut kd (y % 2 ^ 4)) x y bw (a * bw.toNat + i))) 5 1 :: .blk b52 [.slice (some ⟨b50, 0, none⟩) (((bh + 8) - 1 : Int).toNat) (((bh + 8) - 1 : Int).toNat)] 86 :: .row (some ⟨b50, 0, none⟩) (((bh + 8) - 1 : Int).toNat) (((bh + 8) - 1 : Int).toNat) (rowsC bw.toNat bs ++ List.replicate (((bh + 8) - 1 : Int).toNat - bs.length) (Value.slice none 0 0)) 45 1 :: .blk b43 [.int .i64 11] 3 :: .blk b42 [.int .i64 (gi (tapsOut kd (y % 2 ^ 4)) 0), .int .i64 (gi (tapsOut kd (y % 2 ^ 4)) 1), .int .i64 (gi (tapsOut kd (y % 2 ^ 4)) 2), .int .i64 (gi (tapsOut kd (y % 2 ^ 4)) 3), .int .i64 (gi (tapsOut kd (y % 2 ^ 4)) 4), .int .i64 (gi (tapsOut kd (y % 2 ^ 4)) 5), .int .i64 (gi (tapsOut kd (y % 2 ^ 4)) 6), .int .i64 (gi (tapsOut kd (y % 2 ^ 4)) 7)] 81 :: .blk b37 [.int .i64 3] 3 :: .blk b36 [.int .i64 (gi (tapsOut kd (x % 2 ^ 4)) 0), .int .i64 (gi (tapsOut kd (x % 2 ^ 4)) 1), .int .i64 (gi (tapsOut kd (x % 2 ^ 4)) 2), .int .i64 (gi (tapsOut kd (x % 2 ^ 4)) 3), .int .i64 (gi (tapsOut kd (x % 2 ^ 4)) 4), .int .i64 (gi (tapsOut kd (x % 2 ^ 4)) 5), .int .i64 (gi (tapsOut kd (x % 2 ^ 4)) 6), .int .i64 (gi (tapsOut kd (x % 2 ^ 4)) 7)] 81 :: .blk b23 [.int .i64 (gi (tapsOut kd (y % 2 ^ 4)) 0), .int .i64 (gi (tapsOut kd (y % 2 ^ 4)) 1), .int .i64 (gi (tapsOut kd (y % 2 ^ 4)) 2), .int .i64 (gi (tapsOut kd (y % 2 ^ 4)) 3), .int .i64 (gi (tapsOut kd (y % 2 ^ 4)) 4), .int .i64 (gi (tapsOut kd (y % 2 ^ 4)) 5), .int .i64 (gi (tapsOut kd (y % 2 ^ 4)) 6), .int .i64 (gi (tapsOut kd (y % 2 ^ 4)) 7)] 81 :: .blk b17 [.int .i64 (gi (tapsOut kd (x % 2 ^ 4)) 0), .int .i64 (gi (tapsOut kd (x % 2 ^ 4)) 1), .int .i64 (gi (tapsOut kd (x % 2 ^ 4)) 2), .int .i64 (gi (tapsOut kd (x % 2 ^ 4)) 3), .int .i64 (gi (tapsOut kd (x % 2 ^ 4)) 4), .int .i64 (gi (tapsOut kd (x % 2 ^ 4)) 5), .int .i64 (gi (tapsOut kd (x % 2 ^ 4)) 6), .int .i64 (gi (tapsOut kd (x % 2 ^ 4)) 7)] 81 :: .blk b2 [.int .i64 W, .int .i64 H, .slice A m c] 24 :: rowsT 3 bw.toNat (fun q : Nat => lnTo xs W H (tapsOut kd (x % 2 ^ 4)) x y (q : Int) bw.toNat) bs) w126 := hs126
                  have by129 : Bytes [min (max (tapSum (tapsOut kd (y % 2 ^ 4)) 1024 (fun k => gi (lnTo xs W H (tapsOut kd (x % 2 ^ 4)) x y ((((a : Int) + k).toNat : Nat) : Int) bw.toNat) (i : Int)) 8 / 2 ^ 11) 0) 255] := by intro x hx_; simp only [List.mem_cons, List.not_mem_nil, or_false] at hx_; omega
                  refine Ops.s (Step.append 3 hs126 rfl rfl L22 Z5 rfl (by decide) rfl (hs126.rdRow 0 rfl) (u8s_one _) (by omega) (by decide) (fun Ad131 c132 w130 hs130 => ?_) True.intro (by rfl))
                  replace hs130 : HS w (.row (some ⟨b127, 0, none⟩) 1 1 (u8s [min (max (tapSum (tapsOut kd (y % 2 ^ 4)) 1024 (fun k => gi (lnTo xs W H (tapsOut kd (x % 2 ^ 4)) x y ((((a : Int) + k).toNat : Nat) : Int) bw.toNat) (i : Int)) 8 / 2 ^ 11) 0) 255]) 5 1 :: .blk b120 [.int .i64 (i : Int)] 3 :: .blk b109 [.int .i64 (a : Int)] 3 :: .row Ad131 (a * bw.toNat + i + 1) c132 (u8s ((fetchTo xs W H (tapsOut kd (x % 2 ^ 4)) (tapsOut kd (y % 2 ^ 4)) x y bw (a * bw.toNat + i)) ++ [min (max (tapSum (tapsOut kd (y % 2 ^ 4)) 1024 (fun k => gi (lnTo xs W H (tapsOut kd (x % 2 ^ 4)) x y ((((a : Int) + k).toNat : Nat) : Int) bw.toNat) (i : Int)) 8 / 2 ^ 11) 0) 255])) 5 1 :: .blk b52 [.slice (some ⟨b50, 0, none⟩) (((bh + 8) - 1 : Int).toNat) (((bh + 8) - 1 : Int).toNat)] 86 :: .row (some ⟨b50, 0, none⟩) (((bh + 8) - 1 : Int).toNat) (((bh + 8) - 1 : Int).toNat) (rowsC bw.toNat bs ++ List.replicate (((bh + 8) - 1 : Int).toNat - bs.length) (Value.slice none 0 0)) 45 1 :: .blk b43 [.int .i64 11] 3 :: .blk b42 [.int .i64 (gi (tapsOut kd (y % 2 ^ 4)) 0), .int .i64 (gi (tapsOut kd (y % 2 ^ 4)) 1), .int .i64 (gi (tapsOut kd (y % 2 ^ 4)) 2), .int .i64 (gi (tapsOut kd (y % 2 ^ 4)) 3), .int .i64 (gi (tapsOut kd (y % 2 ^ 4)) 4), .int .i64 (gi (tapsOut kd (y % 2 ^ 4)) 5), .int .i64 (gi (tapsOut kd (y % 2 ^ 4)) 6), .int .i64 (gi (tapsOut kd (y % 2 ^ 4)) 7)] 81 :: .blk b37 [.int .i64 3] 3 :: .blk b36 [.int .i64 (gi (tapsOut kd (x % 2 ^ 4)) 0), .int .i64 (gi (tapsOut kd (x % 2 ^ 4)) 1), .int .i64 (gi (tapsOut kd (x % 2 ^ 4)) 2), .int .i64 (gi (tapsOut kd (x % 2 ^ 4)) 3), .int .i64 (gi (tapsOut kd (x % 2 ^ 4)) 4), .int .i64 (gi (tapsOut kd (x % 2 ^ 4)) 5), .int .i64 (gi (tapsOut kd (x % 2 ^ 4)) 6), .int .i64 (gi (tapsOut kd (x % 2 ^ 4)) 7)] 81 :: .blk b23 [.int .i64 (gi (tapsOut kd (y % 2 ^ 4)) 0), .int .i64 (gi (tapsOut kd (y % 2 ^ 4)) 1), .int .i64 (gi (tapsOut kd (y % 2 ^ 4)) 2), .int .i64 (gi (tapsOut kd (y % 2 ^ 4)) 3), .int .i64 (gi (tapsOut kd (y % 2 ^ 4)) 4), .int .i64 (gi (tapsOut kd (y % 2 ^ 4)) 5), .int .i64 (gi (tapsOut kd (y % 2 ^ 4)) 6), .int .i64 (gi (tapsOut kd (y % 2 ^ 4)) 7)] 81 :: .blk b17 [.int .i64 (gi (tapsOut kd (x % 2 ^ 4)) 0), .int .i64 (gi (tapsOut kd (x % 2 ^ 4)) 1), .int .i64 (gi (tapsOut kd (x % 2 ^ 4)) 2), .int .i64 (gi (tapsOut kd (x % 2 ^ 4)) 3), .int .i64 (gi (tapsOut kd (x % 2 ^ 4)) 4), .int .i64 (gi (tapsOut kd (x % 2 ^ 4)) 5), .int .i64 (gi (tapsOut kd (x % 2 ^ 4)) 6), .int .i64 (gi (tapsOut kd (x % 2 ^ 4)) 7)] 81 :: .blk b2 [.int .i64 W, .int .i64 H, .slice A m c] 24 :: rowsT 3 bw.toNat (fun q : Nat => lnTo xs W H (tapsOut kd (x % 2 ^ 4)) x y (q : Int) bw.toNat) bs) w130 := by simpa only [List.set, u8s_append] using hs130
                  refine Ops.v (Yv.assign rfl) ?_
                  refine Ops.nil ?_
                  refine k118 _ _ ?_
                  refine run_region ?_
                  refine Ops.v (Yv.add rfl rfl (by omega)) ?_
                  refine Ops.v (Yv.move rfl) ?_
                  refine Ops.nil ?_
                  refine ⟨(i + 1, Ad131, c132), _, ⟨((HS.pickT (L := [.row (some ⟨b127, 0, none⟩) 1 1 (u8s [min (max (tapSum (tapsOut kd (y % 2 ^ 4)) 1024 (fun k => gi (lnTo xs W H (tapsOut kd (x % 2 ^ 4)) x y ((((a : Int) + k).toNat : Nat) : Int) bw.toNat) (i : Int)) 8 / 2 ^ 11) 0) 255]) 5 1, .blk b120 [.int .i64 (i : Int)] 3, .blk b109 [.int .i64 (a : Int)] 3, .row Ad131 (a * bw.toNat + i + 1) c132 (u8s ((fetchTo xs W H (tapsOut kd (x % 2 ^ 4)) (tapsOut kd (y % 2 ^ 4)) x y bw (a * bw.toNat + i)) ++ [min (max (tapSum (tapsOut kd (y % 2 ^ 4)) 1024 (fun k => gi (lnTo xs W H (tapsOut kd (x % 2 ^ 4)) x y ((((a : Int) + k).toNat : Nat) : Int) bw.toNat) (i : Int)) 8 / 2 ^ 11) 0) 255])) 5 1, .blk b52 [.slice (some ⟨b50, 0, none⟩) (((bh + 8) - 1 : Int).toNat) (((bh + 8) - 1 : Int).toNat)] 86, .row (some ⟨b50, 0, none⟩) (((bh + 8) - 1 : Int).toNat) (((bh + 8) - 1 : Int).toNat) (rowsC bw.toNat bs ++ List.replicate (((bh + 8) - 1 : Int).toNat - bs.length) (Value.slice none 0 0)) 45 1, .blk b43 [.int .i64 11] 3, .blk b42 [.int .i64 (gi (tapsOut kd (y % 2 ^ 4)) 0), .int .i64 (gi (tapsOut kd (y % 2 ^ 4)) 1), .int .i64 (gi (tapsOut kd (y % 2 ^ 4)) 2), .int .i64 (gi (tapsOut kd (y % 2 ^ 4)) 3), .int .i64 (gi (tapsOut kd (y % 2 ^ 4)) 4), .int .i64 (gi (tapsOut kd (y % 2 ^ 4)) 5), .int .i64 (gi (tapsOut kd (y % 2 ^ 4)) 6), .int .i64 (gi (tapsOut kd (y % 2 ^ 4)) 7)] 81, .blk b37 [.int .i64 3] 3, .blk b36 [.int .i64 (gi (tapsOut kd (x % 2 ^ 4)) 0), .int .i64 (gi (tapsOut kd (x % 2 ^ 4)) 1), .int .i64 (gi (tapsOut kd (x % 2 ^ 4)) 2), .int .i64 (gi (tapsOut kd (x % 2 ^ 4)) 3), .int .i64 (gi (tapsOut kd (x % 2 ^ 4)) 4), .int .i64 (gi (tapsOut kd (x % 2 ^ 4)) 5), .int .i64 (gi (tapsOut kd (x % 2 ^ 4)) 6), .int .i64 (gi (tapsOut kd (x % 2 ^ 4)) 7)] 81, .blk b23 [.int .i64 (gi (tapsOut kd (y % 2 ^ 4)) 0), .int .i64 (gi (tapsOut kd (y % 2 ^ 4)) 1), .int .i64 (gi (tapsOut kd (y % 2 ^ 4)) 2), .int .i64 (gi (tapsOut kd (y % 2 ^ 4)) 3), .int .i64 (gi (tapsOut kd (y % 2 ^ 4)) 4), .int .i64 (gi (tapsOut kd (y % 2 ^ 4)) 5), .int .i64 (gi (tapsOut kd (y % 2 ^ 4)) 6), .int .i64 (gi (tapsOut kd (y % 2 ^ 4)) 7)] 81, .blk b17 [.int .i64 (gi (tapsOut kd (x % 2 ^ 4)) 0), .int .i64 (gi (tapsOut kd (x % 2 ^ 4)) 1), .int .i64 (gi (tapsOut kd (x % 2 ^ 4)) 2), .int .i64 (gi (tapsOut kd (x % 2 ^ 4)) 3), .int .i64 (gi (tapsOut kd (x % 2 ^ 4)) 4), .int .i64 (gi (tapsOut kd (x % 2 ^ 4)) 5), .int .i64 (gi (tapsOut kd (x % 2 ^ 4)) 6), .int .i64 (gi (tapsOut kd (x % 2 ^ 4)) 7)] 81, .blk b2 [.int .i64 W, .int .i64 H, .slice A m c] 24]) (T := rowsT 3 bw.toNat (fun q : Nat => lnTo xs W H (tapsOut kd (x % 2 ^ 4)) x y (q : Int) bw.toNat) bs) (H' := [.blk b109 [.int .i64 (a : Int)] 3, .row Ad131 (a * bw.toNat + i + 1) c132 (u8s ((fetchTo xs W H (tapsOut kd (x % 2 ^ 4)) (tapsOut kd (y % 2 ^ 4)) x y bw (a * bw.toNat + i)) ++ [min (max (tapSum (tapsOut kd (y % 2 ^ 4)) 1024 (fun k => gi (lnTo xs W H (tapsOut kd (x % 2 ^ 4)) x y ((((a : Int) + k).toNat : Nat) : Int) bw.toNat) (i : Int)) 8 / 2 ^ 11) 0) 255])) 5 1, .blk b52 [.slice (some ⟨b50, 0, none⟩) (((bh + 8) - 1 : Int).toNat) (((bh + 8) - 1 : Int).toNat)] 86, .row (some ⟨b50, 0, none⟩) (((bh + 8) - 1 : Int).toNat) (((bh + 8) - 1 : Int).toNat) (rowsC bw.toNat bs ++ List.replicate (((bh + 8) - 1 : Int).toNat - bs.length) (Value.slice none 0 0)) 45 1, .blk b43 [.int .i64 11] 3, .blk b42 [.int .i64 (gi (tapsOut kd (y % 2 ^ 4)) 0), .int .i64 (gi (tapsOut kd (y % 2 ^ 4)) 1), .int .i64 (gi (tapsOut kd (y % 2 ^ 4)) 2), .int .i64 (gi (tapsOut kd (y % 2 ^ 4)) 3), .int .i64 (gi (tapsOut kd (y % 2 ^ 4)) 4), .int .i64 (gi (tapsOut kd (y % 2 ^ 4)) 5), .int .i64 (gi (tapsOut kd (y % 2 ^ 4)) 6), .int .i64 (gi (tapsOut kd (y % 2 ^ 4)) 7)] 81, .blk b37 [.int .i64 3] 3, .blk b36 [.int .i64 (gi (tapsOut kd (x % 2 ^ 4)) 0), .int .i64 (gi (tapsOut kd (x % 2 ^ 4)) 1), .int .i64 (gi (tapsOut kd (x % 2 ^ 4)) 2), .int .i64 (gi (tapsOut kd (x % 2 ^ 4)) 3), .int .i64 (gi (tapsOut kd (x % 2 ^ 4)) 4), .int .i64 (gi (tapsOut kd (x % 2 ^ 4)) 5), .int .i64 (gi (tapsOut kd (x % 2 ^ 4)) 6), .int .i64 (gi (tapsOut kd (x % 2 ^ 4)) 7)] 81, .blk b23 [.int .i64 (gi (tapsOut kd (y % 2 ^ 4)) 0), .int .i64 (gi (tapsOut kd (y % 2 ^ 4)) 1), .int .i64 (gi (tapsOut kd (y % 2 ^ 4)) 2), .int .i64 (gi (tapsOut kd (y % 2 ^ 4)) 3), .int .i64 (gi (tapsOut kd (y % 2 ^ 4)) 4), .int .i64 (gi (tapsOut kd (y % 2 ^ 4)) 5), .int .i64 (gi (tapsOut kd (y % 2 ^ 4)) 6), .int .i64 (gi (tapsOut kd (y % 2 ^ 4)) 7)] 81, .blk b17 [.int .i64 (gi (tapsOut kd (x % 2 ^ 4)) 0), .int .i64 (gi (tapsOut kd (x % 2 ^ 4)) 1), .int .i64 (gi (tapsOut kd (x % 2 ^ 4)) 2), .int .i64 (gi (tapsOut kd (x % 2 ^ 4)) 3), .int .i64 (gi (tapsOut kd (x % 2 ^ 4)) 4), .int .i64 (gi (tapsOut kd (x % 2 ^ 4)) 5), .int .i64 (gi (tapsOut kd (x % 2 ^ 4)) 6), .int .i64 (gi (tapsOut kd (x % 2 ^ 4)) 7)] 81, .blk b2 [.int .i64 W, .int .i64 H, .slice A m c] 24]) hs130 [2, 3, 4, 5, 6, 7, 8, 9, 10, 11, 12] (by decide) rfl).to (by rw [← ft_step (xs := xs) (W := W) (H := H) (x := x) (y := y) (tx := (tapsOut kd (x % 2 ^ 4))) (ty := (tapsOut kd (y % 2 ^ 4))) (a := a) (i := i) (F := fun k => gi (lnTo xs W H (tapsOut kd (x % 2 ^ 4)) x y ((((a : Int) + k).toNat : Nat) : Int) bw.toNat) (i : Int)) (by omega) (fun z hz => by rw [lnTo_at (i := i) (by omega), Int.toNat_of_nonneg (by omega)]) rfl]; rfl)), rfl, by omega⟩, Sub.le ⟨rfl, rfl, rfl, rfl, rfl, rfl, rfl, rfl, rfl, rfl, rfl, rfl, rfl, rfl, rfl, rfl, rfl, rfl, rfl, rfl, rfl, rfl, rfl, rfl, rfl, rfl, rfl, lookI rfl (by omega), trivial⟩, (by show bw.toNat - (i + 1) < bw.toNat - i; omega)⟩
                · -- no
                  refine run_exit ?_
                  refine k107 _ _ ?_
                  refine run_region ?_
                  refine Ops.v (Yv.add rfl rfl (by omega)) ?_
                  refine Ops.v (Yv.move rfl) ?_
                  refine Ops.nil ?_
                  refine ⟨(a + 1, B_, d_), _, ⟨((HS.pickT (L := [.blk b109 [.int .i64 (a : Int)] 3, .row B_ (a * bw.toNat + i) d_ (u8s (fetchTo xs W H (tapsOut kd (x % 2 ^ 4)) (tapsOut kd (y % 2 ^ 4)) x y bw (a * bw.toNat + i))) 5 1, .blk b52 [.slice (some ⟨b50, 0, none⟩) (((bh + 8) - 1 : Int).toNat) (((bh + 8) - 1 : Int).toNat)] 86, .row (some ⟨b50, 0, none⟩) (((bh + 8) - 1 : Int).toNat) (((bh + 8) - 1 : Int).toNat) (rowsC bw.toNat bs ++ List.replicate (((bh + 8) - 1 : Int).toNat - bs.length) (Value.slice none 0 0)) 45 1, .blk b43 [.int .i64 11] 3, .blk b42 [.int .i64 (gi (tapsOut kd (y % 2 ^ 4)) 0), .int .i64 (gi (tapsOut kd (y % 2 ^ 4)) 1), .int .i64 (gi (tapsOut kd (y % 2 ^ 4)) 2), .int .i64 (gi (tapsOut kd (y % 2 ^ 4)) 3), .int .i64 (gi (tapsOut kd (y % 2 ^ 4)) 4), .int .i64 (gi (tapsOut kd (y % 2 ^ 4)) 5), .int .i64 (gi (tapsOut kd (y % 2 ^ 4)) 6), .int .i64 (gi (tapsOut kd (y % 2 ^ 4)) 7)] 81, .blk b37 [.int .i64 3] 3, .blk b36 [.int .i64 (gi (tapsOut kd (x % 2 ^ 4)) 0), .int .i64 (gi (tapsOut kd (x % 2 ^ 4)) 1), .int .i64 (gi (tapsOut kd (x % 2 ^ 4)) 2), .int .i64 (gi (tapsOut kd (x % 2 ^ 4)) 3), .int .i64 (gi (tapsOut kd (x % 2 ^ 4)) 4), .int .i64 (gi (tapsOut kd (x % 2 ^ 4)) 5), .int .i64 (gi (tapsOut kd (x % 2 ^ 4)) 6), .int .i64 (gi (tapsOut kd (x % 2 ^ 4)) 7)] 81, .blk b23 [.int .i64 (gi (tapsOut kd (y % 2 ^ 4)) 0), .int .i64 (gi (tapsOut kd (y % 2 ^ 4)) 1), .int .i64 (gi (tapsOut kd (y % 2 ^ 4)) 2), .int .i64 (gi (tapsOut kd (y % 2 ^ 4)) 3), .int .i64 (gi (tapsOut kd (y % 2 ^ 4)) 4), .int .i64 (gi (tapsOut kd (y % 2 ^ 4)) 5), .int .i64 (gi (tapsOut kd (y % 2 ^ 4)) 6), .int .i64 (gi (tapsOut kd (y % 2 ^ 4)) 7)] 81, .blk b17 [.int .i64 (gi (tapsOut kd (x % 2 ^ 4)) 0), .int .i64 (gi (tapsOut kd (x % 2 ^ 4)) 1), .int .i64 (gi (tapsOut kd (x % 2 ^ 4)) 2), .int .i64 (gi (tapsOut kd (x % 2 ^ 4)) 3), .int .i64 (gi (tapsOut kd (x % 2 ^ 4)) 4), .int .i64 (gi (tapsOut kd (x % 2 ^ 4)) 5), .int .i64 (gi (tapsOut kd (x % 2 ^ 4)) 6), .int .i64 (gi (tapsOut kd (x % 2 ^ 4)) 7)] 81, .blk b2 [.int .i64 W, .int .i64 H, .slice A m c] 24]) (T := rowsT 3 bw.toNat (fun q : Nat => lnTo xs W H (tapsOut kd (x % 2 ^ 4)) x y (q : Int) bw.toNat) bs) (H' := [.row B_ (a * bw.toNat + i) d_ (u8s (fetchTo xs W H (tapsOut kd (x % 2 ^ 4)) (tapsOut kd (y % 2 ^ 4)) x y bw (a * bw.toNat + i))) 5 1, .blk b52 [.slice (some ⟨b50, 0, none⟩) (((bh + 8) - 1 : Int).toNat) (((bh + 8) - 1 : Int).toNat)] 86, .row (some ⟨b50, 0, none⟩) (((bh + 8) - 1 : Int).toNat) (((bh + 8) - 1 : Int).toNat) (rowsC bw.toNat bs ++ List.replicate (((bh + 8) - 1 : Int).toNat - bs.length) (Value.slice none 0 0)) 45 1, .blk b43 [.int .i64 11] 3, .blk b42 [.int .i64 (gi (tapsOut kd (y % 2 ^ 4)) 0), .int .i64 (gi (tapsOut kd (y % 2 ^ 4)) 1), .int .i64 (gi (tapsOut kd (y % 2 ^ 4)) 2), .int .i64 (gi (tapsOut kd (y % 2 ^ 4)) 3), .int .i64 (gi (tapsOut kd (y % 2 ^ 4)) 4), .int .i64 (gi (tapsOut kd (y % 2 ^ 4)) 5), .int .i64 (gi (tapsOut kd (y % 2 ^ 4)) 6), .int .i64 (gi (tapsOut kd (y % 2 ^ 4)) 7)] 81, .blk b37 [.int .i64 3] 3, .blk b36 [.int .i64 (gi (tapsOut kd (x % 2 ^ 4)) 0), .int .i64 (gi (tapsOut kd (x % 2 ^ 4)) 1), .int .i64 (gi (tapsOut kd (x % 2 ^ 4)) 2), .int .i64 (gi (tapsOut kd (x % 2 ^ 4)) 3), .int .i64 (gi (tapsOut kd (x % 2 ^ 4)) 4), .int .i64 (gi (tapsOut kd (x % 2 ^ 4)) 5), .int .i64 (gi (tapsOut kd (x % 2 ^ 4)) 6), .int .i64 (gi (tapsOut kd (x % 2 ^ 4)) 7)] 81, .blk b23 [.int .i64 (gi (tapsOut kd (y % 2 ^ 4)) 0), .int .i64 (gi (tapsOut kd (y % 2 ^ 4)) 1), .int .i64 (gi (tapsOut kd (y % 2 ^ 4)) 2), .int .i64 (gi (tapsOut kd (y % 2 ^ 4)) 3), .int .i64 (gi (tapsOut kd (y % 2 ^ 4)) 4), .int .i64 (gi (tapsOut kd (y % 2 ^ 4)) 5), .int .i64 (gi (tapsOut kd (y % 2 ^ 4)) 6), .int .i64 (gi (tapsOut kd (y % 2 ^ 4)) 7)] 81, .blk b17 [.int .i64 (gi (tapsOut kd (x % 2 ^ 4)) 0), .int .i64 (gi (tapsOut kd (x % 2 ^ 4)) 1), .int .i64 (gi (tapsOut kd (x % 2 ^ 4)) 2), .int .i64 (gi (tapsOut kd (x % 2 ^ 4)) 3), .int .i64 (gi (tapsOut kd (x % 2 ^ 4)) 4), .int .i64 (gi (tapsOut kd (x % 2 ^ 4)) 5), .int .i64 (gi (tapsOut kd (x % 2 ^ 4)) 6), .int .i64 (gi (tapsOut kd (x % 2 ^ 4)) 7)] 81, .blk b2 [.int .i64 W, .int .i64 H, .slice A m c] 24]) hs114 [1, 2, 3, 4, 5, 6, 7, 8, 9, 10] (by decide) rfl).to (by rw [show i = bw.toNat from by omega, Nat.succ_mul]; rfl)), rfl, by omega⟩, Sub.le ⟨rfl, rfl, rfl, rfl, rfl, rfl, rfl, rfl, rfl, rfl, rfl, rfl, rfl, rfl, rfl, rfl, lookV rfl (by rw [Nat.succ_mul, show i = bw.toNat from by omega]), rfl, rfl, rfl, rfl, rfl, rfl, lookI rfl (by omega), trivial⟩, (by show bh.toNat - (a + 1) < bh.toNat - a; omega)⟩
            · -- no
              refine run_exit ?_
              refine k101 _ _ ?_
              refine run_seq fun K133 k133 => ?_
              refine run_region ?_
              refine Ops.v (Yv.move rfl) ?_
              refine Ops.v (Yv.assign rfl) ?_
              refine Ops.v (Yv.assign rfl) ?_
              refine Ops.nil ?_
              refine k133 _ _ ?_
              refine run_ret ?_
              refine ⟨[.slice A_ (a * bw.toNat) c_, .int .i64 0], ⟨_, _, rfl, rfl, ⟨_, _, rfl, rfl, rfl⟩⟩, ?_⟩
              obtain ⟨e1, e2⟩ := fetch_ok (xs := xs) (W := W) (H := H) (m := m) (x := x) (y := y) (bw := bw) (bh := bh) (kd := kd) ⟨hck, hx_, hy_, hw_, hh_, hk0, hk1⟩
              have ha9 : a = bh.toNat := by omega
              subst ha9
              have hab : (bw * bh).toNat = bh.toNat * bw.toNat := by rw [Int.mul_comm, Int.toNat_mul (by omega) (by omega)]
              rw [e1, e2, fetchF_length, fetchF, ← etx.2, ← ety.2, hab]
              have hz := hs103.pick [0] [.row A_ (bh.toNat * bw.toNat) c_ (u8s (fetchTo xs W H (tapsOut kd (x % 2 ^ 4)) (tapsOut kd (y % 2 ^ 4)) x y bw (bh.toNat * bw.toNat))) 5 1] (by decide) rfl
              exact ⟨_, _, rfl, hz⟩

end Go.Proofs.Zed
