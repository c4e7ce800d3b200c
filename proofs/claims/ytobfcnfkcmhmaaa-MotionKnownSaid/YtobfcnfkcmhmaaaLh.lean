/- The walk of MotionKnown. -/
import Derived.Test.YtobfcnfkcmhmaaaMy
import Derived.Test.YtobfcnfkcmhmaaaMj
set_option linter.unusedVariables false
set_option linter.unusedSimpArgs false
namespace Go.Proofs.Zed
open Go Go.RowKit Tf
attribute [local irreducible] Try.prog

set_option maxRecDepth 100000 in
set_option maxHeartbeats 40000000 in
theorem MotionKnown_fun {w : World}  : Fun Try.prog 9 [] w fun v w' => v = .bool true ∧ HS w [] w' := by
  refine fun_run (m := 355) (rs := [.tmp 0]) Try.func9 rfl rfl rfl rfl rfl ?_
  have hs0 := HS.start w
  have hl8 : (wtOut 8).length = 8 := by kernel_rfl
  have hl32 : (wtOut 32).length = 32 := by kernel_rfl
  refine run_seq fun K1 k1 => ?_
  refine run_region ?_
  refine Ops.v (Yv.assign rfl) ?_
  refine Ops.nil ?_
  refine k1 _ _ ?_
  refine run_seq fun K2 k2 => ?_
  refine run_region ?_
  refine Ops.s (Step.call rfl rfl (weights_fun) (?_) True.intro (by rfl))
  rintro _ w6 ⟨Ad3, c4, rfl, hs6⟩
  replace hs6 := hs0.call hs6
  refine Ops.v (Yv.move rfl) ?_
  refine Ops.v (Yv.extract rfl rfl) ?_
  refine Ops.v (Yv.extract rfl rfl) ?_
  refine Ops.v (Yv.assign rfl) ?_
  refine Ops.v (Yv.assign rfl) ?_
  refine Ops.nil ?_
  refine k2 _ _ ?_
  refine run_seq fun K7 k7 => ?_
  refine run_region ?_
  refine Ops.s (Step.call rfl rfl (weights_fun) (?_) True.intro (by rfl))
  rintro _ w11 ⟨Ad8, c9, rfl, hs11⟩
  replace hs11 := hs6.call hs11
  refine Ops.v (Yv.move rfl) ?_
  refine Ops.v (Yv.extract rfl rfl) ?_
  refine Ops.v (Yv.extract rfl rfl) ?_
  refine Ops.v (Yv.assign rfl) ?_
  refine Ops.v (Yv.assign rfl) ?_
  refine Ops.nil ?_
  refine k7 _ _ ?_
  refine run_seq fun K12 k12 => ?_
  refine run_region ?_
  refine Ops.s (Step.call rfl rfl (weights_fun) (?_) True.intro (by rfl))
  rintro _ w16 ⟨Ad13, c14, rfl, hs16⟩
  replace hs16 := hs11.call hs16
  refine Ops.v (Yv.move rfl) ?_
  refine Ops.v (Yv.extract rfl rfl) ?_
  refine Ops.v (Yv.extract rfl rfl) ?_
  refine Ops.v (Yv.assign rfl) ?_
  refine Ops.v (Yv.assign rfl) ?_
  refine Ops.nil ?_
  refine k12 _ _ ?_
  refine run_seq fun K17 k17 => ?_
  refine run_region ?_
  refine Ops.s (Step.call rfl rfl (weights_fun) (?_) True.intro (by rfl))
  rintro _ w21 ⟨Ad18, c19, rfl, hs21⟩
  replace hs21 := hs16.call hs21
  refine Ops.v (Yv.move rfl) ?_
  refine Ops.v (Yv.extract rfl rfl) ?_
  refine Ops.v (Yv.extract rfl rfl) ?_
  refine Ops.v (Yv.assign rfl) ?_
  refine Ops.v (Yv.assign rfl) ?_
  refine Ops.nil ?_
  refine k17 _ _ ?_
  refine run_seq fun K22 k22 => ?_
  refine run_region ?_
  refine Ops.s (Step.call rfl rfl (weights_fun) (?_) True.intro (by rfl))
  rintro _ w26 ⟨Ad23, c24, rfl, hs26⟩
  replace hs26 := hs21.call hs26
  refine Ops.v (Yv.move rfl) ?_
  refine Ops.v (Yv.extract rfl rfl) ?_
  refine Ops.v (Yv.extract rfl rfl) ?_
  refine Ops.v (Yv.assign rfl) ?_
  refine Ops.v (Yv.assign rfl) ?_
  refine Ops.nil ?_
  refine k22 _ _ ?_
  refine run_seq fun K27 k27 => ?_
  refine run_region' _ rfl ?_
  refine Ops.v (Yv.move rfl) ?_
  refine Ops.v (Yv.eq rfl rfl) ?_
  refine Ops.dec1 (of_decide_eq_true (by kernel_rfl)) ?_
  refine Ops.v (Yv.move rfl) ?_
  refine Ops.vg ⟨_, rfl, rfl⟩ (Yv.move rfl) ?_
  refine Ops.vg ⟨_, rfl, rfl⟩ (Yv.eq rfl rfl) ?_
  refine Ops.dec1 (of_decide_eq_true (by kernel_rfl)) ?_
  refine Ops.v (Yv.pick1 rfl rfl) ?_
  refine Ops.v (Yv.move rfl) ?_
  refine Ops.vg ⟨_, rfl, rfl⟩ (Yv.move rfl) ?_
  refine Ops.vg ⟨_, rfl, rfl⟩ (Yv.eq rfl rfl) ?_
  refine Ops.dec1 (of_decide_eq_true (by kernel_rfl)) ?_
  refine Ops.v (Yv.pick1 rfl rfl) ?_
  refine Ops.v (Yv.move rfl) ?_
  refine Ops.vg ⟨_, rfl, rfl⟩ (Yv.move rfl) ?_
  refine Ops.vg ⟨_, rfl, rfl⟩ (Yv.eq rfl rfl) ?_
  refine Ops.dec1 (of_decide_eq_true (by kernel_rfl)) ?_
  refine Ops.v (Yv.pick1 rfl rfl) ?_
  refine Ops.v (Yv.move rfl) ?_
  refine Ops.vg ⟨_, rfl, rfl⟩ (Yv.move rfl) ?_
  refine Ops.vg ⟨_, rfl, rfl⟩ (Yv.eq rfl rfl) ?_
  refine Ops.dec1 (of_decide_eq_true (by kernel_rfl)) ?_
  refine Ops.v (Yv.pick1 rfl rfl) ?_
  refine Ops.v (Yv.move rfl) ?_
  refine Ops.vg ⟨_, rfl, rfl⟩ (Yv.move rfl) ?_
  refine Ops.s (Step.lit (ps := [(0, .int .i64 36), (1, .int .i64 44), (2, .int .i64 52), (3, .int .i64 60)]) (cs := [.int .i64 36, .int .i64 44, .int .i64 52, .int .i64 60]) hs26 L45 ⟨_, Z3, rfl⟩ rfl (by decide) (by decide) (by kernel_rfl) rfl (by decide) (fun b29 w28 hs28 hb28 => ?_) ⟨_, rfl, rfl⟩ (by rfl))
  replace hs28 : HS w [.row (some ⟨b29, 0, none⟩) 4 4 (i64s [36, 44, 52, 60]) 3 1, .row Ad23 ((wtOut 32).length) c24 (i64s (wtOut 32)) 3 1, .row Ad18 ((wtOut 33).length) c19 (i64s (wtOut 33)) 3 1, .row Ad13 ((wtOut 3).length) c14 (i64s (wtOut 3)) 3 1, .row Ad8 ((wtOut 8).length) c9 (i64s (wtOut 8)) 3 1, .row Ad3 ((wtOut 4).length) c4 (i64s (wtOut 4)) 3 1] w28 := hs28
  refine Ops.s (Step.call rfl rfl (eqInts_fun (hs28.rdRow 5 rfl) (hs28.rdRow 0 rfl)) (?_) ⟨_, rfl, rfl⟩ (by rfl))
  rintro _ w31 ⟨rfl, hs31⟩
  replace hs31 := hs28.call hs31
  refine Ops.dec1 (of_decide_eq_true (by kernel_rfl)) ?_
  refine Ops.v (Yv.pick1 rfl rfl) ?_
  refine Ops.v (Yv.move rfl) ?_
  refine Ops.vg ⟨_, rfl, rfl⟩ (Yv.move rfl) ?_
  refine Ops.vg ⟨_, rfl, rfl⟩ (Yv.len (by rw [L45]; rfl) rfl) ?_
  refine Ops.vg ⟨_, rfl, rfl⟩ (Yv.eq rfl rfl) ?_
  refine Ops.dec1 (of_decide_eq_true (by kernel_rfl)) ?_
  refine Ops.v (Yv.pick1 rfl rfl) ?_
  refine Ops.v (Yv.move rfl) ?_
  refine Ops.vg ⟨_, rfl, rfl⟩ (Yv.move rfl) ?_
  refine Ops.vg ⟨_, rfl, rfl⟩ (Yv.idx L45 rfl rfl ((hs31.rdRow 4 rfl).isSome (i := 0) (by omega) (by omega)) (by omega) (by omega)) ?_
  refine Ops.vg ⟨_, rfl, rfl⟩ (Yv.load A3 rfl (now ((hs31.rdRow 4 rfl).i64 (by omega) (by omega)))) ?_
  refine Ops.vg ⟨_, rfl, rfl⟩ (Yv.eq rfl rfl) ?_
  refine Ops.dec1 (of_decide_eq_true (by kernel_rfl)) ?_
  refine Ops.v (Yv.pick1 rfl rfl) ?_
  refine Ops.v (Yv.move rfl) ?_
  refine Ops.vg ⟨_, rfl, rfl⟩ (Yv.move rfl) ?_
  refine Ops.vg ⟨_, rfl, rfl⟩ (Yv.idx L45 rfl rfl ((hs31.rdRow 4 rfl).isSome (i := 7) (by omega) (by omega)) (by omega) (by omega)) ?_
  refine Ops.vg ⟨_, rfl, rfl⟩ (Yv.load A3 rfl (now ((hs31.rdRow 4 rfl).i64 (by omega) (by omega)))) ?_
  refine Ops.vg ⟨_, rfl, rfl⟩ (Yv.eq rfl rfl) ?_
  refine Ops.dec1 (of_decide_eq_true (by kernel_rfl)) ?_
  refine Ops.v (Yv.pick1 rfl rfl) ?_
  refine Ops.v (Yv.move rfl) ?_
  refine Ops.vg ⟨_, rfl, rfl⟩ (Yv.move rfl) ?_
  refine Ops.vg ⟨_, rfl, rfl⟩ (Yv.len (by rw [L45]; rfl) rfl) ?_
  refine Ops.vg ⟨_, rfl, rfl⟩ (Yv.eq rfl rfl) ?_
  refine Ops.dec1 (of_decide_eq_true (by kernel_rfl)) ?_
  refine Ops.v (Yv.pick1 rfl rfl) ?_
  refine Ops.v (Yv.move rfl) ?_
  refine Ops.vg ⟨_, rfl, rfl⟩ (Yv.move rfl) ?_
  refine Ops.vg ⟨_, rfl, rfl⟩ (Yv.idx L45 rfl rfl ((hs31.rdRow 1 rfl).isSome (i := 0) (by omega) (by omega)) (by omega) (by omega)) ?_
  refine Ops.vg ⟨_, rfl, rfl⟩ (Yv.load A3 rfl (now ((hs31.rdRow 1 rfl).i64 (by omega) (by omega)))) ?_
  refine Ops.vg ⟨_, rfl, rfl⟩ (Yv.eq rfl rfl) ?_
  refine Ops.dec1 (of_decide_eq_true (by kernel_rfl)) ?_
  refine Ops.v (Yv.pick1 rfl rfl) ?_
  refine Ops.v (Yv.move rfl) ?_
  refine Ops.vg ⟨_, rfl, rfl⟩ (Yv.move rfl) ?_
  refine Ops.vg ⟨_, rfl, rfl⟩ (Yv.idx L45 rfl rfl ((hs31.rdRow 1 rfl).isSome (i := 31) (by omega) (by omega)) (by omega) (by omega)) ?_
  refine Ops.vg ⟨_, rfl, rfl⟩ (Yv.load A3 rfl (now ((hs31.rdRow 1 rfl).i64 (by omega) (by omega)))) ?_
  refine Ops.vg ⟨_, rfl, rfl⟩ (Yv.eq rfl rfl) ?_
  refine Ops.dec1 (of_decide_eq_true (by kernel_rfl)) ?_
  refine Ops.v (Yv.pick1 rfl rfl) ?_
  refine Ops.v (Yv.assign rfl) ?_
  refine Ops.nil ?_
  refine k27 _ _ ?_
  refine run_seq fun K32 k32 => ?_
  refine run_region ?_
  refine Ops.s (Step.call rfl rfl (frame_good (by decide) (by omega)) (?_) True.intro (by rfl))
  rintro _ w42 ⟨Ad33, c34, Ad36, c37, Ad39, c40, rfl, hs42⟩
  replace hs42 := hs31.call hs42
  refine Ops.v (Yv.move rfl) ?_
  refine Ops.v (Yv.extract rfl rfl) ?_
  refine Ops.v (Yv.extract rfl rfl) ?_
  refine Ops.s (Step.alloc (cs := [.int .i64 0, .int .i64 0, .slice none 0 0, .int .i64 0, .int .i64 0, .slice none 0 0, .int .i64 0, .int .i64 0, .slice none 0 0]) hs42 Z27 rfl (fun b43 w44 hs44 hb44 => ?_) True.intro (by rfl))
  refine Ops.s (Step.store (vs := [.int .i64 16, .int .i64 16, .slice Ad33 256 c34, .int .i64 8, .int .i64 8, .slice Ad36 64 c37, .int .i64 8, .int .i64 8, .slice Ad39 64 c40]) 0 hs44 rfl rfl rfl rfl S27 (Nat.le_of_ble_eq_true rfl) rfl (fun w46 hs46 => ?_) True.intro)
  replace hs46 : HS _ [.blk _ [_, _, _, _, _, _, _, _, _] _, .row _ _ _ _ _ _, .row _ _ _ _ _ _, .row _ _ _ _ _ _, .row _ _ _ _ _ _, .row _ _ _ _ _ _, .row _ _ _ _ _ _, .row _ _ _ _ _ _, .row _ _ _ _ _ _, .row _ _ _ _ _ _] _ := hs46
  refine Ops.v (Yv.assign rfl) ?_
  refine Ops.nil ?_
  refine k32 _ _ ?_
  refine run_seq fun K47 k47 => ?_
  refine run_region ?_
  refine Ops.v (Yv.buildS (cs := #[.int .i64 0, .int .i64 0, .int .i64 4, .int .i64 4]) T29 rfl rfl) ?_
  refine Ops.v (Yv.buildS (cs := #[.int .i64 0, .int .i64 0, .int .i64 0, .int .i64 4, .int .i64 4, .int .i64 0, .int .i64 0, .int .i64 0]) T33 rfl rfl) ?_
  refine Ops.s (Step.alloc (cs := [.int .i64 0, .int .i64 0, .int .i64 0, .int .i64 0, .int .i64 0, .int .i64 0, .int .i64 0, .int .i64 0]) hs46 Z33 rfl (fun b48 w49 hs49 hb49 => ?_) True.intro (by rfl))
  refine Ops.s (Step.store (vs := [.int .i64 0, .int .i64 0, .int .i64 0, .int .i64 4, .int .i64 4, .int .i64 0, .int .i64 0, .int .i64 0]) 0 hs49 rfl rfl rfl rfl S33 (Nat.le_of_ble_eq_true rfl) rfl (fun w51 hs51 => ?_) True.intro)
  replace hs51 : HS _ [.blk _ [_, _, _, _, _, _, _, _] _, .blk _ [_, _, _, _, _, _, _, _, _] _, .row _ _ _ _ _ _, .row _ _ _ _ _ _, .row _ _ _ _ _ _, .row _ _ _ _ _ _, .row _ _ _ _ _ _, .row _ _ _ _ _ _, .row _ _ _ _ _ _, .row _ _ _ _ _ _, .row _ _ _ _ _ _] _ := hs51
  refine Ops.nil ?_
  refine k47 _ _ ?_
  refine run_seq fun K52 k52 => ?_
  refine run_region' _ rfl ?_
  refine Ops.v (Yv.fld F33_1 rfl) ?_
  refine Ops.v (Yv.loadn (cs := [.int .i64 0, .int .i64 0, .int .i64 4, .int .i64 4]) A29 S29 rfl (now (hs51.cells 0 rfl 1 4))) ?_
  refine Ops.v (Yv.buildS (cs := #[.int .i64 3, .int .i64 0, .int .i64 0, .int .i64 4, .int .i64 4, .int .i64 0, .int .i64 0, .int .i64 0]) T33 rfl rfl) ?_
  refine Ops.v (Yv.fld F33_1 rfl) ?_
  refine Ops.v (Yv.loadn (cs := [.int .i64 0, .int .i64 0, .int .i64 4, .int .i64 4]) A29 S29 rfl (now (hs51.cells 0 rfl 1 4))) ?_
  refine Ops.v (Yv.buildS (cs := #[.int .i64 (-1), .int .i64 0, .int .i64 0, .int .i64 4, .int .i64 4, .int .i64 0, .int .i64 0, .int .i64 0]) T33 rfl rfl) ?_
  refine Ops.v (Yv.buildS (cs := #[.int .i64 (-1), .int .i64 0, .int .i64 4, .int .i64 4]) T29 rfl rfl) ?_
  refine Ops.v (Yv.buildS (cs := #[.int .i64 0, .int .i64 (-1), .int .i64 0, .int .i64 4, .int .i64 4, .int .i64 0, .int .i64 0, .int .i64 0]) T33 rfl rfl) ?_
  refine Ops.v (Yv.buildS (cs := #[.int .i64 0, .int .i64 1025, .int .i64 4, .int .i64 4]) T29 rfl rfl) ?_
  refine Ops.v (Yv.buildS (cs := #[.int .i64 0, .int .i64 0, .int .i64 1025, .int .i64 4, .int .i64 4, .int .i64 0, .int .i64 0, .int .i64 0]) T33 rfl rfl) ?_
  refine Ops.v (Yv.buildS (cs := #[.int .i64 0, .int .i64 0, .int .i64 3, .int .i64 4]) T29 rfl rfl) ?_
  refine Ops.v (Yv.buildS (cs := #[.int .i64 0, .int .i64 0, .int .i64 0, .int .i64 3, .int .i64 4, .int .i64 0, .int .i64 0, .int .i64 0]) T33 rfl rfl) ?_
  refine Ops.v (Yv.buildS (cs := #[.int .i64 0, .int .i64 0, .int .i64 4, .int .i64 65]) T29 rfl rfl) ?_
  refine Ops.v (Yv.buildS (cs := #[.int .i64 0, .int .i64 0, .int .i64 0, .int .i64 4, .int .i64 65, .int .i64 0, .int .i64 0, .int .i64 0]) T33 rfl rfl) ?_
  refine Ops.v (Yv.fld F33_1 rfl) ?_
  refine Ops.v (Yv.loadn (cs := [.int .i64 0, .int .i64 0, .int .i64 4, .int .i64 4]) A29 S29 rfl (now (hs51.cells 0 rfl 1 4))) ?_
  refine Ops.v (Yv.buildS (cs := #[.int .i64 4096, .int .i64 0]) T31 rfl rfl) ?_
  refine Ops.v (Yv.buildS (cs := #[.int .i64 0, .int .i64 0, .int .i64 0, .int .i64 4, .int .i64 4, .int .i64 4096, .int .i64 0, .int .i64 0]) T33 rfl rfl) ?_
  refine Ops.v (Yv.fld F33_1 rfl) ?_
  refine Ops.v (Yv.loadn (cs := [.int .i64 0, .int .i64 0, .int .i64 4, .int .i64 4]) A29 S29 rfl (now (hs51.cells 0 rfl 1 4))) ?_
  refine Ops.v (Yv.buildS (cs := #[.int .i64 (-4096), .int .i64 0]) T31 rfl rfl) ?_
  refine Ops.v (Yv.buildS (cs := #[.int .i64 0, .int .i64 0, .int .i64 0, .int .i64 4, .int .i64 4, .int .i64 (-4096), .int .i64 0, .int .i64 0]) T33 rfl rfl) ?_
  refine Ops.v (Yv.fld F33_1 rfl) ?_
  refine Ops.v (Yv.loadn (cs := [.int .i64 0, .int .i64 0, .int .i64 4, .int .i64 4]) A29 S29 rfl (now (hs51.cells 0 rfl 1 4))) ?_
  refine Ops.v (Yv.buildS (cs := #[.int .i64 0, .int .i64 4096]) T31 rfl rfl) ?_
  refine Ops.v (Yv.buildS (cs := #[.int .i64 0, .int .i64 0, .int .i64 0, .int .i64 4, .int .i64 4, .int .i64 0, .int .i64 4096, .int .i64 0]) T33 rfl rfl) ?_
  refine Ops.v (Yv.fld F33_1 rfl) ?_
  refine Ops.v (Yv.loadn (cs := [.int .i64 0, .int .i64 0, .int .i64 4, .int .i64 4]) A29 S29 rfl (now (hs51.cells 0 rfl 1 4))) ?_
  refine Ops.v (Yv.buildS (cs := #[.int .i64 0, .int .i64 (-4096)]) T31 rfl rfl) ?_
  refine Ops.v (Yv.buildS (cs := #[.int .i64 0, .int .i64 0, .int .i64 0, .int .i64 4, .int .i64 4, .int .i64 0, .int .i64 (-4096), .int .i64 0]) T33 rfl rfl) ?_
  refine Ops.v (Yv.fld F33_1 rfl) ?_
  refine Ops.v (Yv.loadn (cs := [.int .i64 0, .int .i64 0, .int .i64 4, .int .i64 4]) A29 S29 rfl (now (hs51.cells 0 rfl 1 4))) ?_
  refine Ops.v (Yv.buildS (cs := #[.int .i64 0, .int .i64 0, .int .i64 0, .int .i64 4, .int .i64 4, .int .i64 0, .int .i64 0, .int .i64 3]) T33 rfl rfl) ?_
  refine Ops.v (Yv.fld F33_1 rfl) ?_
  refine Ops.v (Yv.loadn (cs := [.int .i64 0, .int .i64 0, .int .i64 4, .int .i64 4]) A29 S29 rfl (now (hs51.cells 0 rfl 1 4))) ?_
  refine Ops.v (Yv.buildS (cs := #[.int .i64 0, .int .i64 0, .int .i64 0, .int .i64 4, .int .i64 4, .int .i64 0, .int .i64 0, .int .i64 (-1)]) T33 rfl rfl) ?_
  refine Ops.s (Step.litb (ps := [(0, .agg #[.int .i64 3, .int .i64 0, .int .i64 0, .int .i64 4, .int .i64 4, .int .i64 0, .int .i64 0, .int .i64 0]), (1, .agg #[.int .i64 (-1), .int .i64 0, .int .i64 0, .int .i64 4, .int .i64 4, .int .i64 0, .int .i64 0, .int .i64 0]), (2, .agg #[.int .i64 0, .int .i64 (-1), .int .i64 0, .int .i64 4, .int .i64 4, .int .i64 0, .int .i64 0, .int .i64 0]), (3, .agg #[.int .i64 0, .int .i64 0, .int .i64 1025, .int .i64 4, .int .i64 4, .int .i64 0, .int .i64 0, .int .i64 0]), (4, .agg #[.int .i64 0, .int .i64 0, .int .i64 0, .int .i64 3, .int .i64 4, .int .i64 0, .int .i64 0, .int .i64 0]), (5, .agg #[.int .i64 0, .int .i64 0, .int .i64 0, .int .i64 4, .int .i64 65, .int .i64 0, .int .i64 0, .int .i64 0]), (6, .agg #[.int .i64 0, .int .i64 0, .int .i64 0, .int .i64 4, .int .i64 4, .int .i64 4096, .int .i64 0, .int .i64 0]), (7, .agg #[.int .i64 0, .int .i64 0, .int .i64 0, .int .i64 4, .int .i64 4, .int .i64 (-4096), .int .i64 0, .int .i64 0]), (8, .agg #[.int .i64 0, .int .i64 0, .int .i64 0, .int .i64 4, .int .i64 4, .int .i64 0, .int .i64 4096, .int .i64 0]), (9, .agg #[.int .i64 0, .int .i64 0, .int .i64 0, .int .i64 4, .int .i64 4, .int .i64 0, .int .i64 (-4096), .int .i64 0]), (10, .agg #[.int .i64 0, .int .i64 0, .int .i64 0, .int .i64 4, .int .i64 4, .int .i64 0, .int .i64 0, .int .i64 3]), (11, .agg #[.int .i64 0, .int .i64 0, .int .i64 0, .int .i64 4, .int .i64 4, .int .i64 0, .int .i64 0, .int .i64 (-1)])]) (cs := [.int .i64 3, .int .i64 0, .int .i64 0, .int .i64 4, .int .i64 4, .int .i64 0, .int .i64 0, .int .i64 0, .int .i64 (-1), .int .i64 0, .int .i64 0, .int .i64 4, .int .i64 4, .int .i64 0, .int .i64 0, .int .i64 0, .int .i64 0, .int .i64 (-1), .int .i64 0, .int .i64 4, .int .i64 4, .int .i64 0, .int .i64 0, .int .i64 0, .int .i64 0, .int .i64 0, .int .i64 1025, .int .i64 4, .int .i64 4, .int .i64 0, .int .i64 0, .int .i64 0, .int .i64 0, .int .i64 0, .int .i64 0, .int .i64 3, .int .i64 4, .int .i64 0, .int .i64 0, .int .i64 0, .int .i64 0, .int .i64 0, .int .i64 0, .int .i64 4, .int .i64 65, .int .i64 0, .int .i64 0, .int .i64 0, .int .i64 0, .int .i64 0, .int .i64 0, .int .i64 4, .int .i64 4, .int .i64 4096, .int .i64 0, .int .i64 0, .int .i64 0, .int .i64 0, .int .i64 0, .int .i64 4, .int .i64 4, .int .i64 (-4096), .int .i64 0, .int .i64 0, .int .i64 0, .int .i64 0, .int .i64 0, .int .i64 4, .int .i64 4, .int .i64 0, .int .i64 4096, .int .i64 0, .int .i64 0, .int .i64 0, .int .i64 0, .int .i64 4, .int .i64 4, .int .i64 0, .int .i64 (-4096), .int .i64 0, .int .i64 0, .int .i64 0, .int .i64 0, .int .i64 4, .int .i64 4, .int .i64 0, .int .i64 0, .int .i64 3, .int .i64 0, .int .i64 0, .int .i64 0, .int .i64 4, .int .i64 4, .int .i64 0, .int .i64 0, .int .i64 (-1)]) hs51 L64 ⟨_, Z33, rfl⟩ rfl (by decide) (by decide) (by kernel_rfl) rfl (by decide) (fun b54 w53 hs53 hb53 => ?_) True.intro (by rfl))
  replace hs53 : HS w [.blk b54 [.int .i64 3, .int .i64 0, .int .i64 0, .int .i64 4, .int .i64 4, .int .i64 0, .int .i64 0, .int .i64 0, .int .i64 (-1), .int .i64 0, .int .i64 0, .int .i64 4, .int .i64 4, .int .i64 0, .int .i64 0, .int .i64 0, .int .i64 0, .int .i64 (-1), .int .i64 0, .int .i64 4, .int .i64 4, .int .i64 0, .int .i64 0, .int .i64 0, .int .i64 0, .int .i64 0, .int .i64 1025, .int .i64 4, .int .i64 4, .int .i64 0, .int .i64 0, .int .i64 0, .int .i64 0, .int .i64 0, .int .i64 0, .int .i64 3, .int .i64 4, .int .i64 0, .int .i64 0, .int .i64 0, .int .i64 0, .int .i64 0, .int .i64 0, .int .i64 4, .int .i64 65, .int .i64 0, .int .i64 0, .int .i64 0, .int .i64 0, .int .i64 0, .int .i64 0, .int .i64 4, .int .i64 4, .int .i64 4096, .int .i64 0, .int .i64 0, .int .i64 0, .int .i64 0, .int .i64 0, .int .i64 4, .int .i64 4, .int .i64 (-4096), .int .i64 0, .int .i64 0, .int .i64 0, .int .i64 0, .int .i64 0, .int .i64 4, .int .i64 4, .int .i64 0, .int .i64 4096, .int .i64 0, .int .i64 0, .int .i64 0, .int .i64 0, .int .i64 4, .int .i64 4, .int .i64 0, .int .i64 (-4096), .int .i64 0, .int .i64 0, .int .i64 0, .int .i64 0, .int .i64 4, .int .i64 4, .int .i64 0, .int .i64 0, .int .i64 3, .int .i64 0, .int .i64 0, .int .i64 0, .int .i64 4, .int .i64 4, .int .i64 0, .int .i64 0, .int .i64 (-1)] 33, .blk b48 [.int .i64 0, .int .i64 0, .int .i64 0, .int .i64 4, .int .i64 4, .int .i64 0, .int .i64 0, .int .i64 0] 33, .blk b43 [.int .i64 16, .int .i64 16, .slice Ad33 256 c34, .int .i64 8, .int .i64 8, .slice Ad36 64 c37, .int .i64 8, .int .i64 8, .slice Ad39 64 c40] 27, .row Ad33 256 c34 (u8s (List.replicate 256 5)) 5 1, .row Ad36 64 c37 (u8s (List.replicate 64 5)) 5 1, .row Ad39 64 c40 (u8s (List.replicate 64 5)) 5 1, .row (some ⟨b29, 0, none⟩) 4 4 (i64s [36, 44, 52, 60]) 3 1, .row Ad23 ((wtOut 32).length) c24 (i64s (wtOut 32)) 3 1, .row Ad18 ((wtOut 33).length) c19 (i64s (wtOut 33)) 3 1, .row Ad13 ((wtOut 3).length) c14 (i64s (wtOut 3)) 3 1, .row Ad8 ((wtOut 8).length) c9 (i64s (wtOut 8)) 3 1, .row Ad3 ((wtOut 4).length) c4 (i64s (wtOut 4)) 3 1] w53 := hs53
  refine Ops.v (Yv.assign rfl) ?_
  refine Ops.nil ?_
  refine k52 _ _ ?_
  refine run_seq fun K56 k56 => ?_
  refine run_seq fun K57 k57 => ?_
  refine run_region ?_
  refine Ops.v (Yv.assign rfl) ?_
  refine Ops.nil ?_
  refine k57 _ _ ?_
  refine run_block ?_
  refine run_rounds 13 ?_
  show Run _ _ _ (seqQ _ _) _ _
  refine run_seq fun K58 k58 => ?_
  refine run_seq fun K59 k59 => ?_
  refine run_region ?_
  refine Ops.v (Yv.move rfl) ?_
  refine Ops.v (Yv.move rfl) ?_
  refine Ops.v (Yv.len (by rw [L64]; rfl) rfl) ?_
  refine Ops.v ((Yv.lt rfl rfl).to (v := .bool true) (by rfl)) ?_
  refine Ops.nil ?_
  refine k59 _ _ ?_
  refine run_if1 rfl ?_
  refine run_skip ?_
  refine k58 _ _ ?_
  refine run_seq fun K60 k60 => ?_
  refine run_block ?_
  refine run_seq fun K61 k61 => ?_
  refine run_drawn [] (fun x => Below (w53.drew).heap.size (w53.drew) x) ?_ Tf.mixed (by kernel_rfl) (fun _ _ _ h => h)
  have hs62 := hs53.drew
  have hS63 := Below.refl (w53.drew).heap.size (w53.drew)
  refine Drw.l 0 rfl (by kernel_rfl) hS63 (Yv.loadn (cs := [.int .i64 16, .int .i64 16, .slice Ad33 256 c34, .int .i64 8, .int .i64 8, .slice Ad36 64 c37, .int .i64 8, .int .i64 8, .slice Ad39 64 c40]) A27 S27 rfl (fun _ hq_ => ((hs62.grow hq_).cells 2 rfl 0 9))) ?_
  refine Drw.a 1 rfl (by kernel_rfl) (Yv.move rfl) ?_
  refine Drw.a 2 rfl (by kernel_rfl) (Yv.move rfl) ?_
  refine Drw.a 3 rfl (by kernel_rfl) ((Yv.idx L64 rfl rfl rfl (by decide) (by decide)).to (v := .pointer (some ⟨b54, 0, none⟩)) (by rfl)) ?_
  refine Drw.a 4 rfl (by kernel_rfl) (Yv.fld F33_0 rfl) ?_
  refine Drw.l 5 rfl (by kernel_rfl) hS63 (Yv.load A3 rfl (fun _ hq_ => ((hs62.grow hq_).cell 0 rfl 0 rfl))) ?_
  refine Drw.a 6 rfl (by kernel_rfl) (Yv.move rfl) ?_
  refine Drw.a 7 rfl (by kernel_rfl) (Yv.move rfl) ?_
  refine Drw.a 8 rfl (by kernel_rfl) ((Yv.idx L64 rfl rfl rfl (by decide) (by decide)).to (v := .pointer (some ⟨b54, 0, none⟩)) (by rfl)) ?_
  refine Drw.a 9 rfl (by kernel_rfl) (Yv.fld F33_1 rfl) ?_
  refine Drw.l 10 rfl (by kernel_rfl) hS63 (Yv.loadn (cs := [.int .i64 0, .int .i64 0, .int .i64 4, .int .i64 4]) A29 S29 rfl (fun _ hq_ => ((hs62.grow hq_).cells 0 rfl 1 4))) ?_
  refine Drw.a 11 rfl (by kernel_rfl) (Yv.move rfl) ?_
  refine Drw.a 12 rfl (by kernel_rfl) (Yv.move rfl) ?_
  refine Drw.a 13 rfl (by kernel_rfl) ((Yv.idx L64 rfl rfl rfl (by decide) (by decide)).to (v := .pointer (some ⟨b54, 0, none⟩)) (by rfl)) ?_
  refine Drw.a 14 rfl (by kernel_rfl) (Yv.fld F33_2 rfl) ?_
  refine Drw.l 15 rfl (by kernel_rfl) hS63 (Yv.loadn (cs := [.int .i64 0, .int .i64 0]) A31 S31 rfl (fun _ hq_ => ((hs62.grow hq_).cells 0 rfl 5 2))) ?_
  refine Drw.a 16 rfl (by kernel_rfl) (Yv.move rfl) ?_
  refine Drw.a 17 rfl (by kernel_rfl) (Yv.move rfl) ?_
  refine Drw.a 18 rfl (by kernel_rfl) ((Yv.idx L64 rfl rfl rfl (by decide) (by decide)).to (v := .pointer (some ⟨b54, 0, none⟩)) (by rfl)) ?_
  refine Drw.a 19 rfl (by kernel_rfl) (Yv.fld F33_3 rfl) ?_
  refine Drw.l 20 rfl (by kernel_rfl) hS63 (Yv.load A3 rfl (fun _ hq_ => ((hs62.grow hq_).cell 0 rfl 7 rfl))) ?_
  have hcap64 := hs62.cap 3 rfl
  have hcap65 := hs62.cap 4 rfl
  have hcap66 := hs62.cap 5 rfl
  refine Drw.one 21 rfl (by kernel_rfl) (Step.call rfl rfl (single_fun (hs62.rdRow 3 rfl) (Bytes.rep (by omega)) (hs62.rdRow 4 rfl) (Bytes.rep (by omega)) (hs62.rdRow 5 rfl) (Bytes.rep (by omega)) hcap64 hcap65 hcap66) (?_) True.intro (by rfl))
  rintro _ w70 ⟨Ad67, c68, rfl, hs70⟩
  have hS71 := HS.keepS hS63 (Nat.le_refl _) hs70
  refine ⟨fun _ _ => hS71, ?_⟩
  replace hs70 := hs62.call hs70
  refine Drw.a 22 rfl (by kernel_rfl) (Yv.move rfl) ?_
  refine Drw.a 23 rfl (by kernel_rfl) (Yv.extract rfl rfl) ?_
  refine Drw.a 24 rfl (by kernel_rfl) (Yv.extract rfl rfl) ?_
  refine Drw.a 25 rfl (by kernel_rfl) (Yv.assign rfl) ?_
  refine Drw.a 26 rfl (by kernel_rfl) (Yv.assign rfl) ?_
  refine Drw.done ?_ (by kernel_rfl)
  refine k61 _ _ ?_
  refine run_seq fun K72 k72 => ?_
  refine run_region ?_
  refine Ops.v (Yv.move rfl) ?_
  refine Ops.v (Yv.ne rfl rfl) ?_
  refine Ops.dec0 (of_decide_eq_false (by kernel_rfl)) ?_
  refine Ops.nil ?_
  refine k72 _ _ ?_
  refine run_if0 rfl ?_
  refine run_skip ?_
  refine k60 _ _ ?_
  refine run_region ?_
  refine Ops.v (Yv.move rfl) ?_
  refine Ops.v ((Yv.add rfl rfl (by omega)).to (v := .int .i64 1) (by rfl)) ?_
  refine Ops.v (Yv.assign rfl) ?_
  refine Ops.nil ?_
  show Run _ _ _ (seqQ _ _) _ _
  refine run_seq fun K73 k73 => ?_
  refine run_seq fun K74 k74 => ?_
  refine run_region ?_
  refine Ops.v (Yv.move rfl) ?_
  refine Ops.v (Yv.move rfl) ?_
  refine Ops.v (Yv.len (by rw [L64]; rfl) rfl) ?_
  refine Ops.v ((Yv.lt rfl rfl).to (v := .bool true) (by rfl)) ?_
  refine Ops.nil ?_
  refine k74 _ _ ?_
  refine run_if1 rfl ?_
  refine run_skip ?_
  refine k73 _ _ ?_
  refine run_seq fun K75 k75 => ?_
  refine run_block ?_
  refine run_seq fun K76 k76 => ?_
  refine run_drawn [] (fun x => Below (w70.drew).heap.size (w70.drew) x) ?_ Tf.mixed (by kernel_rfl) (fun _ _ _ h => h)
  have hs77 := hs70.drew
  have hS78 := Below.refl (w70.drew).heap.size (w70.drew)
  refine Drw.l 0 rfl (by kernel_rfl) hS78 (Yv.loadn (cs := [.int .i64 16, .int .i64 16, .slice Ad33 256 c34, .int .i64 8, .int .i64 8, .slice Ad36 64 c37, .int .i64 8, .int .i64 8, .slice Ad39 64 c40]) A27 S27 rfl (fun _ hq_ => ((hs77.grow hq_).cells 3 rfl 0 9))) ?_
  refine Drw.a 1 rfl (by kernel_rfl) (Yv.move rfl) ?_
  refine Drw.a 2 rfl (by kernel_rfl) (Yv.move rfl) ?_
  refine Drw.a 3 rfl (by kernel_rfl) ((Yv.idx L64 rfl rfl rfl (by decide) (by decide)).to (v := .pointer (some ⟨b54, 8, none⟩)) (by rfl)) ?_
  refine Drw.a 4 rfl (by kernel_rfl) (Yv.fld F33_0 rfl) ?_
  refine Drw.l 5 rfl (by kernel_rfl) hS78 (Yv.load A3 rfl (fun _ hq_ => ((hs77.grow hq_).cell 1 rfl 8 rfl))) ?_
  refine Drw.a 6 rfl (by kernel_rfl) (Yv.move rfl) ?_
  refine Drw.a 7 rfl (by kernel_rfl) (Yv.move rfl) ?_
  refine Drw.a 8 rfl (by kernel_rfl) ((Yv.idx L64 rfl rfl rfl (by decide) (by decide)).to (v := .pointer (some ⟨b54, 8, none⟩)) (by rfl)) ?_
  refine Drw.a 9 rfl (by kernel_rfl) (Yv.fld F33_1 rfl) ?_
  refine Drw.l 10 rfl (by kernel_rfl) hS78 (Yv.loadn (cs := [.int .i64 0, .int .i64 0, .int .i64 4, .int .i64 4]) A29 S29 rfl (fun _ hq_ => ((hs77.grow hq_).cells 1 rfl 9 4))) ?_
  refine Drw.a 11 rfl (by kernel_rfl) (Yv.move rfl) ?_
  refine Drw.a 12 rfl (by kernel_rfl) (Yv.move rfl) ?_
  refine Drw.a 13 rfl (by kernel_rfl) ((Yv.idx L64 rfl rfl rfl (by decide) (by decide)).to (v := .pointer (some ⟨b54, 8, none⟩)) (by rfl)) ?_
  refine Drw.a 14 rfl (by kernel_rfl) (Yv.fld F33_2 rfl) ?_
  refine Drw.l 15 rfl (by kernel_rfl) hS78 (Yv.loadn (cs := [.int .i64 0, .int .i64 0]) A31 S31 rfl (fun _ hq_ => ((hs77.grow hq_).cells 1 rfl 13 2))) ?_
  refine Drw.a 16 rfl (by kernel_rfl) (Yv.move rfl) ?_
  refine Drw.a 17 rfl (by kernel_rfl) (Yv.move rfl) ?_
  refine Drw.a 18 rfl (by kernel_rfl) ((Yv.idx L64 rfl rfl rfl (by decide) (by decide)).to (v := .pointer (some ⟨b54, 8, none⟩)) (by rfl)) ?_
  refine Drw.a 19 rfl (by kernel_rfl) (Yv.fld F33_3 rfl) ?_
  refine Drw.l 20 rfl (by kernel_rfl) hS78 (Yv.load A3 rfl (fun _ hq_ => ((hs77.grow hq_).cell 1 rfl 15 rfl))) ?_
  have hcap79 := hs77.cap 4 rfl
  have hcap80 := hs77.cap 5 rfl
  have hcap81 := hs77.cap 6 rfl
  refine Drw.one 21 rfl (by kernel_rfl) (Step.call rfl rfl (single_fun (hs77.rdRow 4 rfl) (Bytes.rep (by omega)) (hs77.rdRow 5 rfl) (Bytes.rep (by omega)) (hs77.rdRow 6 rfl) (Bytes.rep (by omega)) hcap79 hcap80 hcap81) (?_) True.intro (by rfl))
  rintro _ w85 ⟨Ad82, c83, rfl, hs85⟩
  have hS86 := HS.keepS hS78 (Nat.le_refl _) hs85
  refine ⟨fun _ _ => hS86, ?_⟩
  replace hs85 := hs77.call hs85
  refine Drw.a 22 rfl (by kernel_rfl) (Yv.move rfl) ?_
  refine Drw.a 23 rfl (by kernel_rfl) (Yv.extract rfl rfl) ?_
  refine Drw.a 24 rfl (by kernel_rfl) (Yv.extract rfl rfl) ?_
  refine Drw.a 25 rfl (by kernel_rfl) (Yv.assign rfl) ?_
  refine Drw.a 26 rfl (by kernel_rfl) (Yv.assign rfl) ?_
  refine Drw.done ?_ (by kernel_rfl)
  refine k76 _ _ ?_
  refine run_seq fun K87 k87 => ?_
  refine run_region ?_
  refine Ops.v (Yv.move rfl) ?_
  refine Ops.v (Yv.ne rfl rfl) ?_
  refine Ops.dec0 (of_decide_eq_false (by kernel_rfl)) ?_
  refine Ops.nil ?_
  refine k87 _ _ ?_
  refine run_if0 rfl ?_
  refine run_skip ?_
  refine k75 _ _ ?_
  refine run_region ?_
  refine Ops.v (Yv.move rfl) ?_
  refine Ops.v ((Yv.add rfl rfl (by omega)).to (v := .int .i64 2) (by rfl)) ?_
  refine Ops.v (Yv.assign rfl) ?_
  refine Ops.nil ?_
  show Run _ _ _ (seqQ _ _) _ _
  refine run_seq fun K88 k88 => ?_
  refine run_seq fun K89 k89 => ?_
  refine run_region ?_
  refine Ops.v (Yv.move rfl) ?_
  refine Ops.v (Yv.move rfl) ?_
  refine Ops.v (Yv.len (by rw [L64]; rfl) rfl) ?_
  refine Ops.v ((Yv.lt rfl rfl).to (v := .bool true) (by rfl)) ?_
  refine Ops.nil ?_
  refine k89 _ _ ?_
  refine run_if1 rfl ?_
  refine run_skip ?_
  refine k88 _ _ ?_
  refine run_seq fun K90 k90 => ?_
  refine run_block ?_
  refine run_seq fun K91 k91 => ?_
  refine run_drawn [] (fun x => Below (w85.drew).heap.size (w85.drew) x) ?_ Tf.mixed (by kernel_rfl) (fun _ _ _ h => h)
  have hs92 := hs85.drew
  have hS93 := Below.refl (w85.drew).heap.size (w85.drew)
  refine Drw.l 0 rfl (by kernel_rfl) hS93 (Yv.loadn (cs := [.int .i64 16, .int .i64 16, .slice Ad33 256 c34, .int .i64 8, .int .i64 8, .slice Ad36 64 c37, .int .i64 8, .int .i64 8, .slice Ad39 64 c40]) A27 S27 rfl (fun _ hq_ => ((hs92.grow hq_).cells 4 rfl 0 9))) ?_
  refine Drw.a 1 rfl (by kernel_rfl) (Yv.move rfl) ?_
  refine Drw.a 2 rfl (by kernel_rfl) (Yv.move rfl) ?_
  refine Drw.a 3 rfl (by kernel_rfl) ((Yv.idx L64 rfl rfl rfl (by decide) (by decide)).to (v := .pointer (some ⟨b54, 16, none⟩)) (by rfl)) ?_
  refine Drw.a 4 rfl (by kernel_rfl) (Yv.fld F33_0 rfl) ?_
  refine Drw.l 5 rfl (by kernel_rfl) hS93 (Yv.load A3 rfl (fun _ hq_ => ((hs92.grow hq_).cell 2 rfl 16 rfl))) ?_
  refine Drw.a 6 rfl (by kernel_rfl) (Yv.move rfl) ?_
  refine Drw.a 7 rfl (by kernel_rfl) (Yv.move rfl) ?_
  refine Drw.a 8 rfl (by kernel_rfl) ((Yv.idx L64 rfl rfl rfl (by decide) (by decide)).to (v := .pointer (some ⟨b54, 16, none⟩)) (by rfl)) ?_
  refine Drw.a 9 rfl (by kernel_rfl) (Yv.fld F33_1 rfl) ?_
  refine Drw.l 10 rfl (by kernel_rfl) hS93 (Yv.loadn (cs := [.int .i64 (-1), .int .i64 0, .int .i64 4, .int .i64 4]) A29 S29 rfl (fun _ hq_ => ((hs92.grow hq_).cells 2 rfl 17 4))) ?_
  refine Drw.a 11 rfl (by kernel_rfl) (Yv.move rfl) ?_
  refine Drw.a 12 rfl (by kernel_rfl) (Yv.move rfl) ?_
  refine Drw.a 13 rfl (by kernel_rfl) ((Yv.idx L64 rfl rfl rfl (by decide) (by decide)).to (v := .pointer (some ⟨b54, 16, none⟩)) (by rfl)) ?_
  refine Drw.a 14 rfl (by kernel_rfl) (Yv.fld F33_2 rfl) ?_
  refine Drw.l 15 rfl (by kernel_rfl) hS93 (Yv.loadn (cs := [.int .i64 0, .int .i64 0]) A31 S31 rfl (fun _ hq_ => ((hs92.grow hq_).cells 2 rfl 21 2))) ?_
  refine Drw.a 16 rfl (by kernel_rfl) (Yv.move rfl) ?_
  refine Drw.a 17 rfl (by kernel_rfl) (Yv.move rfl) ?_
  refine Drw.a 18 rfl (by kernel_rfl) ((Yv.idx L64 rfl rfl rfl (by decide) (by decide)).to (v := .pointer (some ⟨b54, 16, none⟩)) (by rfl)) ?_
  refine Drw.a 19 rfl (by kernel_rfl) (Yv.fld F33_3 rfl) ?_
  refine Drw.l 20 rfl (by kernel_rfl) hS93 (Yv.load A3 rfl (fun _ hq_ => ((hs92.grow hq_).cell 2 rfl 23 rfl))) ?_
  have hcap94 := hs92.cap 5 rfl
  have hcap95 := hs92.cap 6 rfl
  have hcap96 := hs92.cap 7 rfl
  refine Drw.one 21 rfl (by kernel_rfl) (Step.call rfl rfl (single_fun (hs92.rdRow 5 rfl) (Bytes.rep (by omega)) (hs92.rdRow 6 rfl) (Bytes.rep (by omega)) (hs92.rdRow 7 rfl) (Bytes.rep (by omega)) hcap94 hcap95 hcap96) (?_) True.intro (by rfl))
  rintro _ w100 ⟨Ad97, c98, rfl, hs100⟩
  have hS101 := HS.keepS hS93 (Nat.le_refl _) hs100
  refine ⟨fun _ _ => hS101, ?_⟩
  replace hs100 := hs92.call hs100
  refine Drw.a 22 rfl (by kernel_rfl) (Yv.move rfl) ?_
  refine Drw.a 23 rfl (by kernel_rfl) (Yv.extract rfl rfl) ?_
  refine Drw.a 24 rfl (by kernel_rfl) (Yv.extract rfl rfl) ?_
  refine Drw.a 25 rfl (by kernel_rfl) (Yv.assign rfl) ?_
  refine Drw.a 26 rfl (by kernel_rfl) (Yv.assign rfl) ?_
  refine Drw.done ?_ (by kernel_rfl)
  refine k91 _ _ ?_
  refine run_seq fun K102 k102 => ?_
  refine run_region ?_
  refine Ops.v (Yv.move rfl) ?_
  refine Ops.v (Yv.ne rfl rfl) ?_
  refine Ops.dec0 (of_decide_eq_false (by kernel_rfl)) ?_
  refine Ops.nil ?_
  refine k102 _ _ ?_
  refine run_if0 rfl ?_
  refine run_skip ?_
  refine k90 _ _ ?_
  refine run_region ?_
  refine Ops.v (Yv.move rfl) ?_
  refine Ops.v ((Yv.add rfl rfl (by omega)).to (v := .int .i64 3) (by rfl)) ?_
  refine Ops.v (Yv.assign rfl) ?_
  refine Ops.nil ?_
  show Run _ _ _ (seqQ _ _) _ _
  refine run_seq fun K103 k103 => ?_
  refine run_seq fun K104 k104 => ?_
  refine run_region ?_
  refine Ops.v (Yv.move rfl) ?_
  refine Ops.v (Yv.move rfl) ?_
  refine Ops.v (Yv.len (by rw [L64]; rfl) rfl) ?_
  refine Ops.v ((Yv.lt rfl rfl).to (v := .bool true) (by rfl)) ?_
  refine Ops.nil ?_
  refine k104 _ _ ?_
  refine run_if1 rfl ?_
  refine run_skip ?_
  refine k103 _ _ ?_
  refine run_seq fun K105 k105 => ?_
  refine run_block ?_
  refine run_seq fun K106 k106 => ?_
  refine run_drawn [] (fun x => Below (w100.drew).heap.size (w100.drew) x) ?_ Tf.mixed (by kernel_rfl) (fun _ _ _ h => h)
  have hs107 := hs100.drew
  have hS108 := Below.refl (w100.drew).heap.size (w100.drew)
  refine Drw.l 0 rfl (by kernel_rfl) hS108 (Yv.loadn (cs := [.int .i64 16, .int .i64 16, .slice Ad33 256 c34, .int .i64 8, .int .i64 8, .slice Ad36 64 c37, .int .i64 8, .int .i64 8, .slice Ad39 64 c40]) A27 S27 rfl (fun _ hq_ => ((hs107.grow hq_).cells 5 rfl 0 9))) ?_
  refine Drw.a 1 rfl (by kernel_rfl) (Yv.move rfl) ?_
  refine Drw.a 2 rfl (by kernel_rfl) (Yv.move rfl) ?_
  refine Drw.a 3 rfl (by kernel_rfl) ((Yv.idx L64 rfl rfl rfl (by decide) (by decide)).to (v := .pointer (some ⟨b54, 24, none⟩)) (by rfl)) ?_
  refine Drw.a 4 rfl (by kernel_rfl) (Yv.fld F33_0 rfl) ?_
  refine Drw.l 5 rfl (by kernel_rfl) hS108 (Yv.load A3 rfl (fun _ hq_ => ((hs107.grow hq_).cell 3 rfl 24 rfl))) ?_
  refine Drw.a 6 rfl (by kernel_rfl) (Yv.move rfl) ?_
  refine Drw.a 7 rfl (by kernel_rfl) (Yv.move rfl) ?_
  refine Drw.a 8 rfl (by kernel_rfl) ((Yv.idx L64 rfl rfl rfl (by decide) (by decide)).to (v := .pointer (some ⟨b54, 24, none⟩)) (by rfl)) ?_
  refine Drw.a 9 rfl (by kernel_rfl) (Yv.fld F33_1 rfl) ?_
  refine Drw.l 10 rfl (by kernel_rfl) hS108 (Yv.loadn (cs := [.int .i64 0, .int .i64 1025, .int .i64 4, .int .i64 4]) A29 S29 rfl (fun _ hq_ => ((hs107.grow hq_).cells 3 rfl 25 4))) ?_
  refine Drw.a 11 rfl (by kernel_rfl) (Yv.move rfl) ?_
  refine Drw.a 12 rfl (by kernel_rfl) (Yv.move rfl) ?_
  refine Drw.a 13 rfl (by kernel_rfl) ((Yv.idx L64 rfl rfl rfl (by decide) (by decide)).to (v := .pointer (some ⟨b54, 24, none⟩)) (by rfl)) ?_
  refine Drw.a 14 rfl (by kernel_rfl) (Yv.fld F33_2 rfl) ?_
  refine Drw.l 15 rfl (by kernel_rfl) hS108 (Yv.loadn (cs := [.int .i64 0, .int .i64 0]) A31 S31 rfl (fun _ hq_ => ((hs107.grow hq_).cells 3 rfl 29 2))) ?_
  refine Drw.a 16 rfl (by kernel_rfl) (Yv.move rfl) ?_
  refine Drw.a 17 rfl (by kernel_rfl) (Yv.move rfl) ?_
  refine Drw.a 18 rfl (by kernel_rfl) ((Yv.idx L64 rfl rfl rfl (by decide) (by decide)).to (v := .pointer (some ⟨b54, 24, none⟩)) (by rfl)) ?_
  refine Drw.a 19 rfl (by kernel_rfl) (Yv.fld F33_3 rfl) ?_
  refine Drw.l 20 rfl (by kernel_rfl) hS108 (Yv.load A3 rfl (fun _ hq_ => ((hs107.grow hq_).cell 3 rfl 31 rfl))) ?_
  have hcap109 := hs107.cap 6 rfl
  have hcap110 := hs107.cap 7 rfl
  have hcap111 := hs107.cap 8 rfl
  refine Drw.one 21 rfl (by kernel_rfl) (Step.call rfl rfl (single_fun (hs107.rdRow 6 rfl) (Bytes.rep (by omega)) (hs107.rdRow 7 rfl) (Bytes.rep (by omega)) (hs107.rdRow 8 rfl) (Bytes.rep (by omega)) hcap109 hcap110 hcap111) (?_) True.intro (by rfl))
  rintro _ w115 ⟨Ad112, c113, rfl, hs115⟩
  have hS116 := HS.keepS hS108 (Nat.le_refl _) hs115
  refine ⟨fun _ _ => hS116, ?_⟩
  replace hs115 := hs107.call hs115
  refine Drw.a 22 rfl (by kernel_rfl) (Yv.move rfl) ?_
  refine Drw.a 23 rfl (by kernel_rfl) (Yv.extract rfl rfl) ?_
  refine Drw.a 24 rfl (by kernel_rfl) (Yv.extract rfl rfl) ?_
  refine Drw.a 25 rfl (by kernel_rfl) (Yv.assign rfl) ?_
  refine Drw.a 26 rfl (by kernel_rfl) (Yv.assign rfl) ?_
  refine Drw.done ?_ (by kernel_rfl)
  refine k106 _ _ ?_
  refine run_seq fun K117 k117 => ?_
  refine run_region ?_
  refine Ops.v (Yv.move rfl) ?_
  refine Ops.v (Yv.ne rfl rfl) ?_
  refine Ops.dec0 (of_decide_eq_false (by kernel_rfl)) ?_
  refine Ops.nil ?_
  refine k117 _ _ ?_
  refine run_if0 rfl ?_
  refine run_skip ?_
  refine k105 _ _ ?_
  refine run_region ?_
  refine Ops.v (Yv.move rfl) ?_
  refine Ops.v ((Yv.add rfl rfl (by omega)).to (v := .int .i64 4) (by rfl)) ?_
  refine Ops.v (Yv.assign rfl) ?_
  refine Ops.nil ?_
  show Run _ _ _ (seqQ _ _) _ _
  refine run_seq fun K118 k118 => ?_
  refine run_seq fun K119 k119 => ?_
  refine run_region ?_
  refine Ops.v (Yv.move rfl) ?_
  refine Ops.v (Yv.move rfl) ?_
  refine Ops.v (Yv.len (by rw [L64]; rfl) rfl) ?_
  refine Ops.v ((Yv.lt rfl rfl).to (v := .bool true) (by rfl)) ?_
  refine Ops.nil ?_
  refine k119 _ _ ?_
  refine run_if1 rfl ?_
  refine run_skip ?_
  refine k118 _ _ ?_
  refine run_seq fun K120 k120 => ?_
  refine run_block ?_
  refine run_seq fun K121 k121 => ?_
  refine run_drawn [] (fun x => Below (w115.drew).heap.size (w115.drew) x) ?_ Tf.mixed (by kernel_rfl) (fun _ _ _ h => h)
  have hs122 := hs115.drew
  have hS123 := Below.refl (w115.drew).heap.size (w115.drew)
  refine Drw.l 0 rfl (by kernel_rfl) hS123 (Yv.loadn (cs := [.int .i64 16, .int .i64 16, .slice Ad33 256 c34, .int .i64 8, .int .i64 8, .slice Ad36 64 c37, .int .i64 8, .int .i64 8, .slice Ad39 64 c40]) A27 S27 rfl (fun _ hq_ => ((hs122.grow hq_).cells 6 rfl 0 9))) ?_
  refine Drw.a 1 rfl (by kernel_rfl) (Yv.move rfl) ?_
  refine Drw.a 2 rfl (by kernel_rfl) (Yv.move rfl) ?_
  refine Drw.a 3 rfl (by kernel_rfl) ((Yv.idx L64 rfl rfl rfl (by decide) (by decide)).to (v := .pointer (some ⟨b54, 32, none⟩)) (by rfl)) ?_
  refine Drw.a 4 rfl (by kernel_rfl) (Yv.fld F33_0 rfl) ?_
  refine Drw.l 5 rfl (by kernel_rfl) hS123 (Yv.load A3 rfl (fun _ hq_ => ((hs122.grow hq_).cell 4 rfl 32 rfl))) ?_
  refine Drw.a 6 rfl (by kernel_rfl) (Yv.move rfl) ?_
  refine Drw.a 7 rfl (by kernel_rfl) (Yv.move rfl) ?_
  refine Drw.a 8 rfl (by kernel_rfl) ((Yv.idx L64 rfl rfl rfl (by decide) (by decide)).to (v := .pointer (some ⟨b54, 32, none⟩)) (by rfl)) ?_
  refine Drw.a 9 rfl (by kernel_rfl) (Yv.fld F33_1 rfl) ?_
  refine Drw.l 10 rfl (by kernel_rfl) hS123 (Yv.loadn (cs := [.int .i64 0, .int .i64 0, .int .i64 3, .int .i64 4]) A29 S29 rfl (fun _ hq_ => ((hs122.grow hq_).cells 4 rfl 33 4))) ?_
  refine Drw.a 11 rfl (by kernel_rfl) (Yv.move rfl) ?_
  refine Drw.a 12 rfl (by kernel_rfl) (Yv.move rfl) ?_
  refine Drw.a 13 rfl (by kernel_rfl) ((Yv.idx L64 rfl rfl rfl (by decide) (by decide)).to (v := .pointer (some ⟨b54, 32, none⟩)) (by rfl)) ?_
  refine Drw.a 14 rfl (by kernel_rfl) (Yv.fld F33_2 rfl) ?_
  refine Drw.l 15 rfl (by kernel_rfl) hS123 (Yv.loadn (cs := [.int .i64 0, .int .i64 0]) A31 S31 rfl (fun _ hq_ => ((hs122.grow hq_).cells 4 rfl 37 2))) ?_
  refine Drw.a 16 rfl (by kernel_rfl) (Yv.move rfl) ?_
  refine Drw.a 17 rfl (by kernel_rfl) (Yv.move rfl) ?_
  refine Drw.a 18 rfl (by kernel_rfl) ((Yv.idx L64 rfl rfl rfl (by decide) (by decide)).to (v := .pointer (some ⟨b54, 32, none⟩)) (by rfl)) ?_
  refine Drw.a 19 rfl (by kernel_rfl) (Yv.fld F33_3 rfl) ?_
  refine Drw.l 20 rfl (by kernel_rfl) hS123 (Yv.load A3 rfl (fun _ hq_ => ((hs122.grow hq_).cell 4 rfl 39 rfl))) ?_
  have hcap124 := hs122.cap 7 rfl
  have hcap125 := hs122.cap 8 rfl
  have hcap126 := hs122.cap 9 rfl
  refine Drw.one 21 rfl (by kernel_rfl) (Step.call rfl rfl (single_fun (hs122.rdRow 7 rfl) (Bytes.rep (by omega)) (hs122.rdRow 8 rfl) (Bytes.rep (by omega)) (hs122.rdRow 9 rfl) (Bytes.rep (by omega)) hcap124 hcap125 hcap126) (?_) True.intro (by rfl))
  rintro _ w130 ⟨Ad127, c128, rfl, hs130⟩
  have hS131 := HS.keepS hS123 (Nat.le_refl _) hs130
  refine ⟨fun _ _ => hS131, ?_⟩
  replace hs130 := hs122.call hs130
  refine Drw.a 22 rfl (by kernel_rfl) (Yv.move rfl) ?_
  refine Drw.a 23 rfl (by kernel_rfl) (Yv.extract rfl rfl) ?_
  refine Drw.a 24 rfl (by kernel_rfl) (Yv.extract rfl rfl) ?_
  refine Drw.a 25 rfl (by kernel_rfl) (Yv.assign rfl) ?_
  refine Drw.a 26 rfl (by kernel_rfl) (Yv.assign rfl) ?_
  refine Drw.done ?_ (by kernel_rfl)
  refine k121 _ _ ?_
  refine run_seq fun K132 k132 => ?_
  refine run_region ?_
  refine Ops.v (Yv.move rfl) ?_
  refine Ops.v (Yv.ne rfl rfl) ?_
  refine Ops.dec0 (of_decide_eq_false (by kernel_rfl)) ?_
  refine Ops.nil ?_
  refine k132 _ _ ?_
  refine run_if0 rfl ?_
  refine run_skip ?_
  refine k120 _ _ ?_
  refine run_region ?_
  refine Ops.v (Yv.move rfl) ?_
  refine Ops.v ((Yv.add rfl rfl (by omega)).to (v := .int .i64 5) (by rfl)) ?_
  refine Ops.v (Yv.assign rfl) ?_
  refine Ops.nil ?_
  show Run _ _ _ (seqQ _ _) _ _
  refine run_seq fun K133 k133 => ?_
  refine run_seq fun K134 k134 => ?_
  refine run_region ?_
  refine Ops.v (Yv.move rfl) ?_
  refine Ops.v (Yv.move rfl) ?_
  refine Ops.v (Yv.len (by rw [L64]; rfl) rfl) ?_
  refine Ops.v ((Yv.lt rfl rfl).to (v := .bool true) (by rfl)) ?_
  refine Ops.nil ?_
  refine k134 _ _ ?_
  refine run_if1 rfl ?_
  refine run_skip ?_
  refine k133 _ _ ?_
  refine run_seq fun K135 k135 => ?_
  refine run_block ?_
  refine run_seq fun K136 k136 => ?_
  refine run_drawn [] (fun x => Below (w130.drew).heap.size (w130.drew) x) ?_ Tf.mixed (by kernel_rfl) (fun _ _ _ h => h)
  have hs137 := hs130.drew
  have hS138 := Below.refl (w130.drew).heap.size (w130.drew)
  refine Drw.l 0 rfl (by kernel_rfl) hS138 (Yv.loadn (cs := [.int .i64 16, .int .i64 16, .slice Ad33 256 c34, .int .i64 8, .int .i64 8, .slice Ad36 64 c37, .int .i64 8, .int .i64 8, .slice Ad39 64 c40]) A27 S27 rfl (fun _ hq_ => ((hs137.grow hq_).cells 7 rfl 0 9))) ?_
  refine Drw.a 1 rfl (by kernel_rfl) (Yv.move rfl) ?_
  refine Drw.a 2 rfl (by kernel_rfl) (Yv.move rfl) ?_
  refine Drw.a 3 rfl (by kernel_rfl) ((Yv.idx L64 rfl rfl rfl (by decide) (by decide)).to (v := .pointer (some ⟨b54, 40, none⟩)) (by rfl)) ?_
  refine Drw.a 4 rfl (by kernel_rfl) (Yv.fld F33_0 rfl) ?_
  refine Drw.l 5 rfl (by kernel_rfl) hS138 (Yv.load A3 rfl (fun _ hq_ => ((hs137.grow hq_).cell 5 rfl 40 rfl))) ?_
  refine Drw.a 6 rfl (by kernel_rfl) (Yv.move rfl) ?_
  refine Drw.a 7 rfl (by kernel_rfl) (Yv.move rfl) ?_
  refine Drw.a 8 rfl (by kernel_rfl) ((Yv.idx L64 rfl rfl rfl (by decide) (by decide)).to (v := .pointer (some ⟨b54, 40, none⟩)) (by rfl)) ?_
  refine Drw.a 9 rfl (by kernel_rfl) (Yv.fld F33_1 rfl) ?_
  refine Drw.l 10 rfl (by kernel_rfl) hS138 (Yv.loadn (cs := [.int .i64 0, .int .i64 0, .int .i64 4, .int .i64 65]) A29 S29 rfl (fun _ hq_ => ((hs137.grow hq_).cells 5 rfl 41 4))) ?_
  refine Drw.a 11 rfl (by kernel_rfl) (Yv.move rfl) ?_
  refine Drw.a 12 rfl (by kernel_rfl) (Yv.move rfl) ?_
  refine Drw.a 13 rfl (by kernel_rfl) ((Yv.idx L64 rfl rfl rfl (by decide) (by decide)).to (v := .pointer (some ⟨b54, 40, none⟩)) (by rfl)) ?_
  refine Drw.a 14 rfl (by kernel_rfl) (Yv.fld F33_2 rfl) ?_
  refine Drw.l 15 rfl (by kernel_rfl) hS138 (Yv.loadn (cs := [.int .i64 0, .int .i64 0]) A31 S31 rfl (fun _ hq_ => ((hs137.grow hq_).cells 5 rfl 45 2))) ?_
  refine Drw.a 16 rfl (by kernel_rfl) (Yv.move rfl) ?_
  refine Drw.a 17 rfl (by kernel_rfl) (Yv.move rfl) ?_
  refine Drw.a 18 rfl (by kernel_rfl) ((Yv.idx L64 rfl rfl rfl (by decide) (by decide)).to (v := .pointer (some ⟨b54, 40, none⟩)) (by rfl)) ?_
  refine Drw.a 19 rfl (by kernel_rfl) (Yv.fld F33_3 rfl) ?_
  refine Drw.l 20 rfl (by kernel_rfl) hS138 (Yv.load A3 rfl (fun _ hq_ => ((hs137.grow hq_).cell 5 rfl 47 rfl))) ?_
  have hcap139 := hs137.cap 8 rfl
  have hcap140 := hs137.cap 9 rfl
  have hcap141 := hs137.cap 10 rfl
  refine Drw.one 21 rfl (by kernel_rfl) (Step.call rfl rfl (single_fun (hs137.rdRow 8 rfl) (Bytes.rep (by omega)) (hs137.rdRow 9 rfl) (Bytes.rep (by omega)) (hs137.rdRow 10 rfl) (Bytes.rep (by omega)) hcap139 hcap140 hcap141) (?_) True.intro (by rfl))
  rintro _ w145 ⟨Ad142, c143, rfl, hs145⟩
  have hS146 := HS.keepS hS138 (Nat.le_refl _) hs145
  refine ⟨fun _ _ => hS146, ?_⟩
  replace hs145 := hs137.call hs145
  refine Drw.a 22 rfl (by kernel_rfl) (Yv.move rfl) ?_
  refine Drw.a 23 rfl (by kernel_rfl) (Yv.extract rfl rfl) ?_
  refine Drw.a 24 rfl (by kernel_rfl) (Yv.extract rfl rfl) ?_
  refine Drw.a 25 rfl (by kernel_rfl) (Yv.assign rfl) ?_
  refine Drw.a 26 rfl (by kernel_rfl) (Yv.assign rfl) ?_
  refine Drw.done ?_ (by kernel_rfl)
  refine k136 _ _ ?_
  refine run_seq fun K147 k147 => ?_
  refine run_region ?_
  refine Ops.v (Yv.move rfl) ?_
  refine Ops.v (Yv.ne rfl rfl) ?_
  refine Ops.dec0 (of_decide_eq_false (by kernel_rfl)) ?_
  refine Ops.nil ?_
  refine k147 _ _ ?_
  refine run_if0 rfl ?_
  refine run_skip ?_
  refine k135 _ _ ?_
  refine run_region ?_
  refine Ops.v (Yv.move rfl) ?_
  refine Ops.v ((Yv.add rfl rfl (by omega)).to (v := .int .i64 6) (by rfl)) ?_
  refine Ops.v (Yv.assign rfl) ?_
  refine Ops.nil ?_
  show Run _ _ _ (seqQ _ _) _ _
  refine run_seq fun K148 k148 => ?_
  refine run_seq fun K149 k149 => ?_
  refine run_region ?_
  refine Ops.v (Yv.move rfl) ?_
  refine Ops.v (Yv.move rfl) ?_
  refine Ops.v (Yv.len (by rw [L64]; rfl) rfl) ?_
  refine Ops.v ((Yv.lt rfl rfl).to (v := .bool true) (by rfl)) ?_
  refine Ops.nil ?_
  refine k149 _ _ ?_
  refine run_if1 rfl ?_
  refine run_skip ?_
  refine k148 _ _ ?_
  refine run_seq fun K150 k150 => ?_
  refine run_block ?_
  refine run_seq fun K151 k151 => ?_
  refine run_drawn [] (fun x => Below (w145.drew).heap.size (w145.drew) x) ?_ Tf.mixed (by kernel_rfl) (fun _ _ _ h => h)
  have hs152 := hs145.drew
  have hS153 := Below.refl (w145.drew).heap.size (w145.drew)
  refine Drw.l 0 rfl (by kernel_rfl) hS153 (Yv.loadn (cs := [.int .i64 16, .int .i64 16, .slice Ad33 256 c34, .int .i64 8, .int .i64 8, .slice Ad36 64 c37, .int .i64 8, .int .i64 8, .slice Ad39 64 c40]) A27 S27 rfl (fun _ hq_ => ((hs152.grow hq_).cells 8 rfl 0 9))) ?_
  refine Drw.a 1 rfl (by kernel_rfl) (Yv.move rfl) ?_
  refine Drw.a 2 rfl (by kernel_rfl) (Yv.move rfl) ?_
  refine Drw.a 3 rfl (by kernel_rfl) ((Yv.idx L64 rfl rfl rfl (by decide) (by decide)).to (v := .pointer (some ⟨b54, 48, none⟩)) (by rfl)) ?_
  refine Drw.a 4 rfl (by kernel_rfl) (Yv.fld F33_0 rfl) ?_
  refine Drw.l 5 rfl (by kernel_rfl) hS153 (Yv.load A3 rfl (fun _ hq_ => ((hs152.grow hq_).cell 6 rfl 48 rfl))) ?_
  refine Drw.a 6 rfl (by kernel_rfl) (Yv.move rfl) ?_
  refine Drw.a 7 rfl (by kernel_rfl) (Yv.move rfl) ?_
  refine Drw.a 8 rfl (by kernel_rfl) ((Yv.idx L64 rfl rfl rfl (by decide) (by decide)).to (v := .pointer (some ⟨b54, 48, none⟩)) (by rfl)) ?_
  refine Drw.a 9 rfl (by kernel_rfl) (Yv.fld F33_1 rfl) ?_
  refine Drw.l 10 rfl (by kernel_rfl) hS153 (Yv.loadn (cs := [.int .i64 0, .int .i64 0, .int .i64 4, .int .i64 4]) A29 S29 rfl (fun _ hq_ => ((hs152.grow hq_).cells 6 rfl 49 4))) ?_
  refine Drw.a 11 rfl (by kernel_rfl) (Yv.move rfl) ?_
  refine Drw.a 12 rfl (by kernel_rfl) (Yv.move rfl) ?_
  refine Drw.a 13 rfl (by kernel_rfl) ((Yv.idx L64 rfl rfl rfl (by decide) (by decide)).to (v := .pointer (some ⟨b54, 48, none⟩)) (by rfl)) ?_
  refine Drw.a 14 rfl (by kernel_rfl) (Yv.fld F33_2 rfl) ?_
  refine Drw.l 15 rfl (by kernel_rfl) hS153 (Yv.loadn (cs := [.int .i64 4096, .int .i64 0]) A31 S31 rfl (fun _ hq_ => ((hs152.grow hq_).cells 6 rfl 53 2))) ?_
  refine Drw.a 16 rfl (by kernel_rfl) (Yv.move rfl) ?_
  refine Drw.a 17 rfl (by kernel_rfl) (Yv.move rfl) ?_
  refine Drw.a 18 rfl (by kernel_rfl) ((Yv.idx L64 rfl rfl rfl (by decide) (by decide)).to (v := .pointer (some ⟨b54, 48, none⟩)) (by rfl)) ?_
  refine Drw.a 19 rfl (by kernel_rfl) (Yv.fld F33_3 rfl) ?_
  refine Drw.l 20 rfl (by kernel_rfl) hS153 (Yv.load A3 rfl (fun _ hq_ => ((hs152.grow hq_).cell 6 rfl 55 rfl))) ?_
  have hcap154 := hs152.cap 9 rfl
  have hcap155 := hs152.cap 10 rfl
  have hcap156 := hs152.cap 11 rfl
  refine Drw.one 21 rfl (by kernel_rfl) (Step.call rfl rfl (single_fun (hs152.rdRow 9 rfl) (Bytes.rep (by omega)) (hs152.rdRow 10 rfl) (Bytes.rep (by omega)) (hs152.rdRow 11 rfl) (Bytes.rep (by omega)) hcap154 hcap155 hcap156) (?_) True.intro (by rfl))
  rintro _ w160 ⟨Ad157, c158, rfl, hs160⟩
  have hS161 := HS.keepS hS153 (Nat.le_refl _) hs160
  refine ⟨fun _ _ => hS161, ?_⟩
  replace hs160 := hs152.call hs160
  refine Drw.a 22 rfl (by kernel_rfl) (Yv.move rfl) ?_
  refine Drw.a 23 rfl (by kernel_rfl) (Yv.extract rfl rfl) ?_
  refine Drw.a 24 rfl (by kernel_rfl) (Yv.extract rfl rfl) ?_
  refine Drw.a 25 rfl (by kernel_rfl) (Yv.assign rfl) ?_
  refine Drw.a 26 rfl (by kernel_rfl) (Yv.assign rfl) ?_
  refine Drw.done ?_ (by kernel_rfl)
  refine k151 _ _ ?_
  refine run_seq fun K162 k162 => ?_
  refine run_region ?_
  refine Ops.v (Yv.move rfl) ?_
  refine Ops.v (Yv.ne rfl rfl) ?_
  refine Ops.dec0 (of_decide_eq_false (by kernel_rfl)) ?_
  refine Ops.nil ?_
  refine k162 _ _ ?_
  refine run_if0 rfl ?_
  refine run_skip ?_
  refine k150 _ _ ?_
  refine run_region ?_
  refine Ops.v (Yv.move rfl) ?_
  refine Ops.v ((Yv.add rfl rfl (by omega)).to (v := .int .i64 7) (by rfl)) ?_
  refine Ops.v (Yv.assign rfl) ?_
  refine Ops.nil ?_
  show Run _ _ _ (seqQ _ _) _ _
  refine run_seq fun K163 k163 => ?_
  refine run_seq fun K164 k164 => ?_
  refine run_region ?_
  refine Ops.v (Yv.move rfl) ?_
  refine Ops.v (Yv.move rfl) ?_
  refine Ops.v (Yv.len (by rw [L64]; rfl) rfl) ?_
  refine Ops.v ((Yv.lt rfl rfl).to (v := .bool true) (by rfl)) ?_
  refine Ops.nil ?_
  refine k164 _ _ ?_
  refine run_if1 rfl ?_
  refine run_skip ?_
  refine k163 _ _ ?_
  refine run_seq fun K165 k165 => ?_
  refine run_block ?_
  refine run_seq fun K166 k166 => ?_
  refine run_drawn [] (fun x => Below (w160.drew).heap.size (w160.drew) x) ?_ Tf.mixed (by kernel_rfl) (fun _ _ _ h => h)
  have hs167 := hs160.drew
  have hS168 := Below.refl (w160.drew).heap.size (w160.drew)
  refine Drw.l 0 rfl (by kernel_rfl) hS168 (Yv.loadn (cs := [.int .i64 16, .int .i64 16, .slice Ad33 256 c34, .int .i64 8, .int .i64 8, .slice Ad36 64 c37, .int .i64 8, .int .i64 8, .slice Ad39 64 c40]) A27 S27 rfl (fun _ hq_ => ((hs167.grow hq_).cells 9 rfl 0 9))) ?_
  refine Drw.a 1 rfl (by kernel_rfl) (Yv.move rfl) ?_
  refine Drw.a 2 rfl (by kernel_rfl) (Yv.move rfl) ?_
  refine Drw.a 3 rfl (by kernel_rfl) ((Yv.idx L64 rfl rfl rfl (by decide) (by decide)).to (v := .pointer (some ⟨b54, 56, none⟩)) (by rfl)) ?_
  refine Drw.a 4 rfl (by kernel_rfl) (Yv.fld F33_0 rfl) ?_
  refine Drw.l 5 rfl (by kernel_rfl) hS168 (Yv.load A3 rfl (fun _ hq_ => ((hs167.grow hq_).cell 7 rfl 56 rfl))) ?_
  refine Drw.a 6 rfl (by kernel_rfl) (Yv.move rfl) ?_
  refine Drw.a 7 rfl (by kernel_rfl) (Yv.move rfl) ?_
  refine Drw.a 8 rfl (by kernel_rfl) ((Yv.idx L64 rfl rfl rfl (by decide) (by decide)).to (v := .pointer (some ⟨b54, 56, none⟩)) (by rfl)) ?_
  refine Drw.a 9 rfl (by kernel_rfl) (Yv.fld F33_1 rfl) ?_
  refine Drw.l 10 rfl (by kernel_rfl) hS168 (Yv.loadn (cs := [.int .i64 0, .int .i64 0, .int .i64 4, .int .i64 4]) A29 S29 rfl (fun _ hq_ => ((hs167.grow hq_).cells 7 rfl 57 4))) ?_
  refine Drw.a 11 rfl (by kernel_rfl) (Yv.move rfl) ?_
  refine Drw.a 12 rfl (by kernel_rfl) (Yv.move rfl) ?_
  refine Drw.a 13 rfl (by kernel_rfl) ((Yv.idx L64 rfl rfl rfl (by decide) (by decide)).to (v := .pointer (some ⟨b54, 56, none⟩)) (by rfl)) ?_
  refine Drw.a 14 rfl (by kernel_rfl) (Yv.fld F33_2 rfl) ?_
  refine Drw.l 15 rfl (by kernel_rfl) hS168 (Yv.loadn (cs := [.int .i64 (-4096), .int .i64 0]) A31 S31 rfl (fun _ hq_ => ((hs167.grow hq_).cells 7 rfl 61 2))) ?_
  refine Drw.a 16 rfl (by kernel_rfl) (Yv.move rfl) ?_
  refine Drw.a 17 rfl (by kernel_rfl) (Yv.move rfl) ?_
  refine Drw.a 18 rfl (by kernel_rfl) ((Yv.idx L64 rfl rfl rfl (by decide) (by decide)).to (v := .pointer (some ⟨b54, 56, none⟩)) (by rfl)) ?_
  refine Drw.a 19 rfl (by kernel_rfl) (Yv.fld F33_3 rfl) ?_
  refine Drw.l 20 rfl (by kernel_rfl) hS168 (Yv.load A3 rfl (fun _ hq_ => ((hs167.grow hq_).cell 7 rfl 63 rfl))) ?_
  have hcap169 := hs167.cap 10 rfl
  have hcap170 := hs167.cap 11 rfl
  have hcap171 := hs167.cap 12 rfl
  refine Drw.one 21 rfl (by kernel_rfl) (Step.call rfl rfl (single_fun (hs167.rdRow 10 rfl) (Bytes.rep (by omega)) (hs167.rdRow 11 rfl) (Bytes.rep (by omega)) (hs167.rdRow 12 rfl) (Bytes.rep (by omega)) hcap169 hcap170 hcap171) (?_) True.intro (by rfl))
  rintro _ w175 ⟨Ad172, c173, rfl, hs175⟩
  have hS176 := HS.keepS hS168 (Nat.le_refl _) hs175
  refine ⟨fun _ _ => hS176, ?_⟩
  replace hs175 := hs167.call hs175
  refine Drw.a 22 rfl (by kernel_rfl) (Yv.move rfl) ?_
  refine Drw.a 23 rfl (by kernel_rfl) (Yv.extract rfl rfl) ?_
  refine Drw.a 24 rfl (by kernel_rfl) (Yv.extract rfl rfl) ?_
  refine Drw.a 25 rfl (by kernel_rfl) (Yv.assign rfl) ?_
  refine Drw.a 26 rfl (by kernel_rfl) (Yv.assign rfl) ?_
  refine Drw.done ?_ (by kernel_rfl)
  refine k166 _ _ ?_
  refine run_seq fun K177 k177 => ?_
  refine run_region ?_
  refine Ops.v (Yv.move rfl) ?_
  refine Ops.v (Yv.ne rfl rfl) ?_
  refine Ops.dec0 (of_decide_eq_false (by kernel_rfl)) ?_
  refine Ops.nil ?_
  refine k177 _ _ ?_
  refine run_if0 rfl ?_
  refine run_skip ?_
  refine k165 _ _ ?_
  refine run_region ?_
  refine Ops.v (Yv.move rfl) ?_
  refine Ops.v ((Yv.add rfl rfl (by omega)).to (v := .int .i64 8) (by rfl)) ?_
  refine Ops.v (Yv.assign rfl) ?_
  refine Ops.nil ?_
  show Run _ _ _ (seqQ _ _) _ _
  refine run_seq fun K178 k178 => ?_
  refine run_seq fun K179 k179 => ?_
  refine run_region ?_
  refine Ops.v (Yv.move rfl) ?_
  refine Ops.v (Yv.move rfl) ?_
  refine Ops.v (Yv.len (by rw [L64]; rfl) rfl) ?_
  refine Ops.v ((Yv.lt rfl rfl).to (v := .bool true) (by rfl)) ?_
  refine Ops.nil ?_
  refine k179 _ _ ?_
  refine run_if1 rfl ?_
  refine run_skip ?_
  refine k178 _ _ ?_
  refine run_seq fun K180 k180 => ?_
  refine run_block ?_
  refine run_seq fun K181 k181 => ?_
  refine run_drawn [] (fun x => Below (w175.drew).heap.size (w175.drew) x) ?_ Tf.mixed (by kernel_rfl) (fun _ _ _ h => h)
  have hs182 := hs175.drew
  have hS183 := Below.refl (w175.drew).heap.size (w175.drew)
  refine Drw.l 0 rfl (by kernel_rfl) hS183 (Yv.loadn (cs := [.int .i64 16, .int .i64 16, .slice Ad33 256 c34, .int .i64 8, .int .i64 8, .slice Ad36 64 c37, .int .i64 8, .int .i64 8, .slice Ad39 64 c40]) A27 S27 rfl (fun _ hq_ => ((hs182.grow hq_).cells 10 rfl 0 9))) ?_
  refine Drw.a 1 rfl (by kernel_rfl) (Yv.move rfl) ?_
  refine Drw.a 2 rfl (by kernel_rfl) (Yv.move rfl) ?_
  refine Drw.a 3 rfl (by kernel_rfl) ((Yv.idx L64 rfl rfl rfl (by decide) (by decide)).to (v := .pointer (some ⟨b54, 64, none⟩)) (by rfl)) ?_
  refine Drw.a 4 rfl (by kernel_rfl) (Yv.fld F33_0 rfl) ?_
  refine Drw.l 5 rfl (by kernel_rfl) hS183 (Yv.load A3 rfl (fun _ hq_ => ((hs182.grow hq_).cell 8 rfl 64 rfl))) ?_
  refine Drw.a 6 rfl (by kernel_rfl) (Yv.move rfl) ?_
  refine Drw.a 7 rfl (by kernel_rfl) (Yv.move rfl) ?_
  refine Drw.a 8 rfl (by kernel_rfl) ((Yv.idx L64 rfl rfl rfl (by decide) (by decide)).to (v := .pointer (some ⟨b54, 64, none⟩)) (by rfl)) ?_
  refine Drw.a 9 rfl (by kernel_rfl) (Yv.fld F33_1 rfl) ?_
  refine Drw.l 10 rfl (by kernel_rfl) hS183 (Yv.loadn (cs := [.int .i64 0, .int .i64 0, .int .i64 4, .int .i64 4]) A29 S29 rfl (fun _ hq_ => ((hs182.grow hq_).cells 8 rfl 65 4))) ?_
  refine Drw.a 11 rfl (by kernel_rfl) (Yv.move rfl) ?_
  refine Drw.a 12 rfl (by kernel_rfl) (Yv.move rfl) ?_
  refine Drw.a 13 rfl (by kernel_rfl) ((Yv.idx L64 rfl rfl rfl (by decide) (by decide)).to (v := .pointer (some ⟨b54, 64, none⟩)) (by rfl)) ?_
  refine Drw.a 14 rfl (by kernel_rfl) (Yv.fld F33_2 rfl) ?_
  refine Drw.l 15 rfl (by kernel_rfl) hS183 (Yv.loadn (cs := [.int .i64 0, .int .i64 4096]) A31 S31 rfl (fun _ hq_ => ((hs182.grow hq_).cells 8 rfl 69 2))) ?_
  refine Drw.a 16 rfl (by kernel_rfl) (Yv.move rfl) ?_
  refine Drw.a 17 rfl (by kernel_rfl) (Yv.move rfl) ?_
  refine Drw.a 18 rfl (by kernel_rfl) ((Yv.idx L64 rfl rfl rfl (by decide) (by decide)).to (v := .pointer (some ⟨b54, 64, none⟩)) (by rfl)) ?_
  refine Drw.a 19 rfl (by kernel_rfl) (Yv.fld F33_3 rfl) ?_
  refine Drw.l 20 rfl (by kernel_rfl) hS183 (Yv.load A3 rfl (fun _ hq_ => ((hs182.grow hq_).cell 8 rfl 71 rfl))) ?_
  have hcap184 := hs182.cap 11 rfl
  have hcap185 := hs182.cap 12 rfl
  have hcap186 := hs182.cap 13 rfl
  refine Drw.one 21 rfl (by kernel_rfl) (Step.call rfl rfl (single_fun (hs182.rdRow 11 rfl) (Bytes.rep (by omega)) (hs182.rdRow 12 rfl) (Bytes.rep (by omega)) (hs182.rdRow 13 rfl) (Bytes.rep (by omega)) hcap184 hcap185 hcap186) (?_) True.intro (by rfl))
  rintro _ w190 ⟨Ad187, c188, rfl, hs190⟩
  have hS191 := HS.keepS hS183 (Nat.le_refl _) hs190
  refine ⟨fun _ _ => hS191, ?_⟩
  replace hs190 := hs182.call hs190
  refine Drw.a 22 rfl (by kernel_rfl) (Yv.move rfl) ?_
  refine Drw.a 23 rfl (by kernel_rfl) (Yv.extract rfl rfl) ?_
  refine Drw.a 24 rfl (by kernel_rfl) (Yv.extract rfl rfl) ?_
  refine Drw.a 25 rfl (by kernel_rfl) (Yv.assign rfl) ?_
  refine Drw.a 26 rfl (by kernel_rfl) (Yv.assign rfl) ?_
  refine Drw.done ?_ (by kernel_rfl)
  refine k181 _ _ ?_
  refine run_seq fun K192 k192 => ?_
  refine run_region ?_
  refine Ops.v (Yv.move rfl) ?_
  refine Ops.v (Yv.ne rfl rfl) ?_
  refine Ops.dec0 (of_decide_eq_false (by kernel_rfl)) ?_
  refine Ops.nil ?_
  refine k192 _ _ ?_
  refine run_if0 rfl ?_
  refine run_skip ?_
  refine k180 _ _ ?_
  refine run_region ?_
  refine Ops.v (Yv.move rfl) ?_
  refine Ops.v ((Yv.add rfl rfl (by omega)).to (v := .int .i64 9) (by rfl)) ?_
  refine Ops.v (Yv.assign rfl) ?_
  refine Ops.nil ?_
  show Run _ _ _ (seqQ _ _) _ _
  refine run_seq fun K193 k193 => ?_
  refine run_seq fun K194 k194 => ?_
  refine run_region ?_
  refine Ops.v (Yv.move rfl) ?_
  refine Ops.v (Yv.move rfl) ?_
  refine Ops.v (Yv.len (by rw [L64]; rfl) rfl) ?_
  refine Ops.v ((Yv.lt rfl rfl).to (v := .bool true) (by rfl)) ?_
  refine Ops.nil ?_
  refine k194 _ _ ?_
  refine run_if1 rfl ?_
  refine run_skip ?_
  refine k193 _ _ ?_
  refine run_seq fun K195 k195 => ?_
  refine run_block ?_
  refine run_seq fun K196 k196 => ?_
  refine run_drawn [] (fun x => Below (w190.drew).heap.size (w190.drew) x) ?_ Tf.mixed (by kernel_rfl) (fun _ _ _ h => h)
  have hs197 := hs190.drew
  have hS198 := Below.refl (w190.drew).heap.size (w190.drew)
  refine Drw.l 0 rfl (by kernel_rfl) hS198 (Yv.loadn (cs := [.int .i64 16, .int .i64 16, .slice Ad33 256 c34, .int .i64 8, .int .i64 8, .slice Ad36 64 c37, .int .i64 8, .int .i64 8, .slice Ad39 64 c40]) A27 S27 rfl (fun _ hq_ => ((hs197.grow hq_).cells 11 rfl 0 9))) ?_
  refine Drw.a 1 rfl (by kernel_rfl) (Yv.move rfl) ?_
  refine Drw.a 2 rfl (by kernel_rfl) (Yv.move rfl) ?_
  refine Drw.a 3 rfl (by kernel_rfl) ((Yv.idx L64 rfl rfl rfl (by decide) (by decide)).to (v := .pointer (some ⟨b54, 72, none⟩)) (by rfl)) ?_
  refine Drw.a 4 rfl (by kernel_rfl) (Yv.fld F33_0 rfl) ?_
  refine Drw.l 5 rfl (by kernel_rfl) hS198 (Yv.load A3 rfl (fun _ hq_ => ((hs197.grow hq_).cell 9 rfl 72 rfl))) ?_
  refine Drw.a 6 rfl (by kernel_rfl) (Yv.move rfl) ?_
  refine Drw.a 7 rfl (by kernel_rfl) (Yv.move rfl) ?_
  refine Drw.a 8 rfl (by kernel_rfl) ((Yv.idx L64 rfl rfl rfl (by decide) (by decide)).to (v := .pointer (some ⟨b54, 72, none⟩)) (by rfl)) ?_
  refine Drw.a 9 rfl (by kernel_rfl) (Yv.fld F33_1 rfl) ?_
  refine Drw.l 10 rfl (by kernel_rfl) hS198 (Yv.loadn (cs := [.int .i64 0, .int .i64 0, .int .i64 4, .int .i64 4]) A29 S29 rfl (fun _ hq_ => ((hs197.grow hq_).cells 9 rfl 73 4))) ?_
  refine Drw.a 11 rfl (by kernel_rfl) (Yv.move rfl) ?_
  refine Drw.a 12 rfl (by kernel_rfl) (Yv.move rfl) ?_
  refine Drw.a 13 rfl (by kernel_rfl) ((Yv.idx L64 rfl rfl rfl (by decide) (by decide)).to (v := .pointer (some ⟨b54, 72, none⟩)) (by rfl)) ?_
  refine Drw.a 14 rfl (by kernel_rfl) (Yv.fld F33_2 rfl) ?_
  refine Drw.l 15 rfl (by kernel_rfl) hS198 (Yv.loadn (cs := [.int .i64 0, .int .i64 (-4096)]) A31 S31 rfl (fun _ hq_ => ((hs197.grow hq_).cells 9 rfl 77 2))) ?_
  refine Drw.a 16 rfl (by kernel_rfl) (Yv.move rfl) ?_
  refine Drw.a 17 rfl (by kernel_rfl) (Yv.move rfl) ?_
  refine Drw.a 18 rfl (by kernel_rfl) ((Yv.idx L64 rfl rfl rfl (by decide) (by decide)).to (v := .pointer (some ⟨b54, 72, none⟩)) (by rfl)) ?_
  refine Drw.a 19 rfl (by kernel_rfl) (Yv.fld F33_3 rfl) ?_
  refine Drw.l 20 rfl (by kernel_rfl) hS198 (Yv.load A3 rfl (fun _ hq_ => ((hs197.grow hq_).cell 9 rfl 79 rfl))) ?_
  have hcap199 := hs197.cap 12 rfl
  have hcap200 := hs197.cap 13 rfl
  have hcap201 := hs197.cap 14 rfl
  refine Drw.one 21 rfl (by kernel_rfl) (Step.call rfl rfl (single_fun (hs197.rdRow 12 rfl) (Bytes.rep (by omega)) (hs197.rdRow 13 rfl) (Bytes.rep (by omega)) (hs197.rdRow 14 rfl) (Bytes.rep (by omega)) hcap199 hcap200 hcap201) (?_) True.intro (by rfl))
  rintro _ w205 ⟨Ad202, c203, rfl, hs205⟩
  have hS206 := HS.keepS hS198 (Nat.le_refl _) hs205
  refine ⟨fun _ _ => hS206, ?_⟩
  replace hs205 := hs197.call hs205
  refine Drw.a 22 rfl (by kernel_rfl) (Yv.move rfl) ?_
  refine Drw.a 23 rfl (by kernel_rfl) (Yv.extract rfl rfl) ?_
  refine Drw.a 24 rfl (by kernel_rfl) (Yv.extract rfl rfl) ?_
  refine Drw.a 25 rfl (by kernel_rfl) (Yv.assign rfl) ?_
  refine Drw.a 26 rfl (by kernel_rfl) (Yv.assign rfl) ?_
  refine Drw.done ?_ (by kernel_rfl)
  refine k196 _ _ ?_
  refine run_seq fun K207 k207 => ?_
  refine run_region ?_
  refine Ops.v (Yv.move rfl) ?_
  refine Ops.v (Yv.ne rfl rfl) ?_
  refine Ops.dec0 (of_decide_eq_false (by kernel_rfl)) ?_
  refine Ops.nil ?_
  refine k207 _ _ ?_
  refine run_if0 rfl ?_
  refine run_skip ?_
  refine k195 _ _ ?_
  refine run_region ?_
  refine Ops.v (Yv.move rfl) ?_
  refine Ops.v ((Yv.add rfl rfl (by omega)).to (v := .int .i64 10) (by rfl)) ?_
  refine Ops.v (Yv.assign rfl) ?_
  refine Ops.nil ?_
  show Run _ _ _ (seqQ _ _) _ _
  refine run_seq fun K208 k208 => ?_
  refine run_seq fun K209 k209 => ?_
  refine run_region ?_
  refine Ops.v (Yv.move rfl) ?_
  refine Ops.v (Yv.move rfl) ?_
  refine Ops.v (Yv.len (by rw [L64]; rfl) rfl) ?_
  refine Ops.v ((Yv.lt rfl rfl).to (v := .bool true) (by rfl)) ?_
  refine Ops.nil ?_
  refine k209 _ _ ?_
  refine run_if1 rfl ?_
  refine run_skip ?_
  refine k208 _ _ ?_
  refine run_seq fun K210 k210 => ?_
  refine run_block ?_
  refine run_seq fun K211 k211 => ?_
  refine run_drawn [] (fun x => Below (w205.drew).heap.size (w205.drew) x) ?_ Tf.mixed (by kernel_rfl) (fun _ _ _ h => h)
  have hs212 := hs205.drew
  have hS213 := Below.refl (w205.drew).heap.size (w205.drew)
  refine Drw.l 0 rfl (by kernel_rfl) hS213 (Yv.loadn (cs := [.int .i64 16, .int .i64 16, .slice Ad33 256 c34, .int .i64 8, .int .i64 8, .slice Ad36 64 c37, .int .i64 8, .int .i64 8, .slice Ad39 64 c40]) A27 S27 rfl (fun _ hq_ => ((hs212.grow hq_).cells 12 rfl 0 9))) ?_
  refine Drw.a 1 rfl (by kernel_rfl) (Yv.move rfl) ?_
  refine Drw.a 2 rfl (by kernel_rfl) (Yv.move rfl) ?_
  refine Drw.a 3 rfl (by kernel_rfl) ((Yv.idx L64 rfl rfl rfl (by decide) (by decide)).to (v := .pointer (some ⟨b54, 80, none⟩)) (by rfl)) ?_
  refine Drw.a 4 rfl (by kernel_rfl) (Yv.fld F33_0 rfl) ?_
  refine Drw.l 5 rfl (by kernel_rfl) hS213 (Yv.load A3 rfl (fun _ hq_ => ((hs212.grow hq_).cell 10 rfl 80 rfl))) ?_
  refine Drw.a 6 rfl (by kernel_rfl) (Yv.move rfl) ?_
  refine Drw.a 7 rfl (by kernel_rfl) (Yv.move rfl) ?_
  refine Drw.a 8 rfl (by kernel_rfl) ((Yv.idx L64 rfl rfl rfl (by decide) (by decide)).to (v := .pointer (some ⟨b54, 80, none⟩)) (by rfl)) ?_
  refine Drw.a 9 rfl (by kernel_rfl) (Yv.fld F33_1 rfl) ?_
  refine Drw.l 10 rfl (by kernel_rfl) hS213 (Yv.loadn (cs := [.int .i64 0, .int .i64 0, .int .i64 4, .int .i64 4]) A29 S29 rfl (fun _ hq_ => ((hs212.grow hq_).cells 10 rfl 81 4))) ?_
  refine Drw.a 11 rfl (by kernel_rfl) (Yv.move rfl) ?_
  refine Drw.a 12 rfl (by kernel_rfl) (Yv.move rfl) ?_
  refine Drw.a 13 rfl (by kernel_rfl) ((Yv.idx L64 rfl rfl rfl (by decide) (by decide)).to (v := .pointer (some ⟨b54, 80, none⟩)) (by rfl)) ?_
  refine Drw.a 14 rfl (by kernel_rfl) (Yv.fld F33_2 rfl) ?_
  refine Drw.l 15 rfl (by kernel_rfl) hS213 (Yv.loadn (cs := [.int .i64 0, .int .i64 0]) A31 S31 rfl (fun _ hq_ => ((hs212.grow hq_).cells 10 rfl 85 2))) ?_
  refine Drw.a 16 rfl (by kernel_rfl) (Yv.move rfl) ?_
  refine Drw.a 17 rfl (by kernel_rfl) (Yv.move rfl) ?_
  refine Drw.a 18 rfl (by kernel_rfl) ((Yv.idx L64 rfl rfl rfl (by decide) (by decide)).to (v := .pointer (some ⟨b54, 80, none⟩)) (by rfl)) ?_
  refine Drw.a 19 rfl (by kernel_rfl) (Yv.fld F33_3 rfl) ?_
  refine Drw.l 20 rfl (by kernel_rfl) hS213 (Yv.load A3 rfl (fun _ hq_ => ((hs212.grow hq_).cell 10 rfl 87 rfl))) ?_
  have hcap214 := hs212.cap 13 rfl
  have hcap215 := hs212.cap 14 rfl
  have hcap216 := hs212.cap 15 rfl
  refine Drw.one 21 rfl (by kernel_rfl) (Step.call rfl rfl (single_fun (hs212.rdRow 13 rfl) (Bytes.rep (by omega)) (hs212.rdRow 14 rfl) (Bytes.rep (by omega)) (hs212.rdRow 15 rfl) (Bytes.rep (by omega)) hcap214 hcap215 hcap216) (?_) True.intro (by rfl))
  rintro _ w220 ⟨Ad217, c218, rfl, hs220⟩
  have hS221 := HS.keepS hS213 (Nat.le_refl _) hs220
  refine ⟨fun _ _ => hS221, ?_⟩
  replace hs220 := hs212.call hs220
  refine Drw.a 22 rfl (by kernel_rfl) (Yv.move rfl) ?_
  refine Drw.a 23 rfl (by kernel_rfl) (Yv.extract rfl rfl) ?_
  refine Drw.a 24 rfl (by kernel_rfl) (Yv.extract rfl rfl) ?_
  refine Drw.a 25 rfl (by kernel_rfl) (Yv.assign rfl) ?_
  refine Drw.a 26 rfl (by kernel_rfl) (Yv.assign rfl) ?_
  refine Drw.done ?_ (by kernel_rfl)
  refine k211 _ _ ?_
  refine run_seq fun K222 k222 => ?_
  refine run_region ?_
  refine Ops.v (Yv.move rfl) ?_
  refine Ops.v (Yv.ne rfl rfl) ?_
  refine Ops.dec0 (of_decide_eq_false (by kernel_rfl)) ?_
  refine Ops.nil ?_
  refine k222 _ _ ?_
  refine run_if0 rfl ?_
  refine run_skip ?_
  refine k210 _ _ ?_
  refine run_region ?_
  refine Ops.v (Yv.move rfl) ?_
  refine Ops.v ((Yv.add rfl rfl (by omega)).to (v := .int .i64 11) (by rfl)) ?_
  refine Ops.v (Yv.assign rfl) ?_
  refine Ops.nil ?_
  show Run _ _ _ (seqQ _ _) _ _
  refine run_seq fun K223 k223 => ?_
  refine run_seq fun K224 k224 => ?_
  refine run_region ?_
  refine Ops.v (Yv.move rfl) ?_
  refine Ops.v (Yv.move rfl) ?_
  refine Ops.v (Yv.len (by rw [L64]; rfl) rfl) ?_
  refine Ops.v ((Yv.lt rfl rfl).to (v := .bool true) (by rfl)) ?_
  refine Ops.nil ?_
  refine k224 _ _ ?_
  refine run_if1 rfl ?_
  refine run_skip ?_
  refine k223 _ _ ?_
  refine run_seq fun K225 k225 => ?_
  refine run_block ?_
  refine run_seq fun K226 k226 => ?_
  refine run_drawn [] (fun x => Below (w220.drew).heap.size (w220.drew) x) ?_ Tf.mixed (by kernel_rfl) (fun _ _ _ h => h)
  have hs227 := hs220.drew
  have hS228 := Below.refl (w220.drew).heap.size (w220.drew)
  refine Drw.l 0 rfl (by kernel_rfl) hS228 (Yv.loadn (cs := [.int .i64 16, .int .i64 16, .slice Ad33 256 c34, .int .i64 8, .int .i64 8, .slice Ad36 64 c37, .int .i64 8, .int .i64 8, .slice Ad39 64 c40]) A27 S27 rfl (fun _ hq_ => ((hs227.grow hq_).cells 13 rfl 0 9))) ?_
  refine Drw.a 1 rfl (by kernel_rfl) (Yv.move rfl) ?_
  refine Drw.a 2 rfl (by kernel_rfl) (Yv.move rfl) ?_
  refine Drw.a 3 rfl (by kernel_rfl) ((Yv.idx L64 rfl rfl rfl (by decide) (by decide)).to (v := .pointer (some ⟨b54, 88, none⟩)) (by rfl)) ?_
  refine Drw.a 4 rfl (by kernel_rfl) (Yv.fld F33_0 rfl) ?_
  refine Drw.l 5 rfl (by kernel_rfl) hS228 (Yv.load A3 rfl (fun _ hq_ => ((hs227.grow hq_).cell 11 rfl 88 rfl))) ?_
  refine Drw.a 6 rfl (by kernel_rfl) (Yv.move rfl) ?_
  refine Drw.a 7 rfl (by kernel_rfl) (Yv.move rfl) ?_
  refine Drw.a 8 rfl (by kernel_rfl) ((Yv.idx L64 rfl rfl rfl (by decide) (by decide)).to (v := .pointer (some ⟨b54, 88, none⟩)) (by rfl)) ?_
  refine Drw.a 9 rfl (by kernel_rfl) (Yv.fld F33_1 rfl) ?_
  refine Drw.l 10 rfl (by kernel_rfl) hS228 (Yv.loadn (cs := [.int .i64 0, .int .i64 0, .int .i64 4, .int .i64 4]) A29 S29 rfl (fun _ hq_ => ((hs227.grow hq_).cells 11 rfl 89 4))) ?_
  refine Drw.a 11 rfl (by kernel_rfl) (Yv.move rfl) ?_
  refine Drw.a 12 rfl (by kernel_rfl) (Yv.move rfl) ?_
  refine Drw.a 13 rfl (by kernel_rfl) ((Yv.idx L64 rfl rfl rfl (by decide) (by decide)).to (v := .pointer (some ⟨b54, 88, none⟩)) (by rfl)) ?_
  refine Drw.a 14 rfl (by kernel_rfl) (Yv.fld F33_2 rfl) ?_
  refine Drw.l 15 rfl (by kernel_rfl) hS228 (Yv.loadn (cs := [.int .i64 0, .int .i64 0]) A31 S31 rfl (fun _ hq_ => ((hs227.grow hq_).cells 11 rfl 93 2))) ?_
  refine Drw.a 16 rfl (by kernel_rfl) (Yv.move rfl) ?_
  refine Drw.a 17 rfl (by kernel_rfl) (Yv.move rfl) ?_
  refine Drw.a 18 rfl (by kernel_rfl) ((Yv.idx L64 rfl rfl rfl (by decide) (by decide)).to (v := .pointer (some ⟨b54, 88, none⟩)) (by rfl)) ?_
  refine Drw.a 19 rfl (by kernel_rfl) (Yv.fld F33_3 rfl) ?_
  refine Drw.l 20 rfl (by kernel_rfl) hS228 (Yv.load A3 rfl (fun _ hq_ => ((hs227.grow hq_).cell 11 rfl 95 rfl))) ?_
  have hcap229 := hs227.cap 14 rfl
  have hcap230 := hs227.cap 15 rfl
  have hcap231 := hs227.cap 16 rfl
  refine Drw.one 21 rfl (by kernel_rfl) (Step.call rfl rfl (single_fun (hs227.rdRow 14 rfl) (Bytes.rep (by omega)) (hs227.rdRow 15 rfl) (Bytes.rep (by omega)) (hs227.rdRow 16 rfl) (Bytes.rep (by omega)) hcap229 hcap230 hcap231) (?_) True.intro (by rfl))
  rintro _ w235 ⟨Ad232, c233, rfl, hs235⟩
  have hS236 := HS.keepS hS228 (Nat.le_refl _) hs235
  refine ⟨fun _ _ => hS236, ?_⟩
  replace hs235 := hs227.call hs235
  refine Drw.a 22 rfl (by kernel_rfl) (Yv.move rfl) ?_
  refine Drw.a 23 rfl (by kernel_rfl) (Yv.extract rfl rfl) ?_
  refine Drw.a 24 rfl (by kernel_rfl) (Yv.extract rfl rfl) ?_
  refine Drw.a 25 rfl (by kernel_rfl) (Yv.assign rfl) ?_
  refine Drw.a 26 rfl (by kernel_rfl) (Yv.assign rfl) ?_
  refine Drw.done ?_ (by kernel_rfl)
  refine k226 _ _ ?_
  refine run_seq fun K237 k237 => ?_
  refine run_region ?_
  refine Ops.v (Yv.move rfl) ?_
  refine Ops.v (Yv.ne rfl rfl) ?_
  refine Ops.dec0 (of_decide_eq_false (by kernel_rfl)) ?_
  refine Ops.nil ?_
  refine k237 _ _ ?_
  refine run_if0 rfl ?_
  refine run_skip ?_
  refine k225 _ _ ?_
  refine run_region ?_
  refine Ops.v (Yv.move rfl) ?_
  refine Ops.v ((Yv.add rfl rfl (by omega)).to (v := .int .i64 12) (by rfl)) ?_
  refine Ops.v (Yv.assign rfl) ?_
  refine Ops.nil ?_
  show Run _ _ _ (seqQ _ _) _ _
  refine run_seq fun K238 k238 => ?_
  refine run_seq fun K239 k239 => ?_
  refine run_region ?_
  refine Ops.v (Yv.move rfl) ?_
  refine Ops.v (Yv.move rfl) ?_
  refine Ops.v (Yv.len (by rw [L64]; rfl) rfl) ?_
  refine Ops.v ((Yv.lt rfl rfl).to (v := .bool false) (by rfl)) ?_
  refine Ops.nil ?_
  refine k239 _ _ ?_
  refine run_if0 rfl ?_
  refine run_exit ?_
  refine k56 _ _ ?_
  refine run_seq fun K240 k240 => ?_
  refine run_region ?_
  refine Ops.v (Yv.loadn (cs := [.int .i64 16, .int .i64 16, .slice Ad33 256 c34, .int .i64 8, .int .i64 8, .slice Ad36 64 c37, .int .i64 8, .int .i64 8, .slice Ad39 64 c40]) A27 S27 rfl (now (hs235.cells 14 rfl 0 9))) ?_
  refine Ops.v (Yv.buildS (cs := #[.int .i64 1024, .int .i64 1024, .int .i64 64, .int .i64 64]) T29 rfl rfl) ?_
  refine Ops.v (Yv.buildS (cs := #[.int .i64 4095, .int .i64 (-4095)]) T31 rfl rfl) ?_
  have hcap241 := hs235.cap 15 rfl
  have hcap242 := hs235.cap 16 rfl
  have hcap243 := hs235.cap 17 rfl
  refine Ops.s (Step.call rfl rfl (single_fun (hs235.rdRow 15 rfl) (Bytes.rep (by omega)) (hs235.rdRow 16 rfl) (Bytes.rep (by omega)) (hs235.rdRow 17 rfl) (Bytes.rep (by omega)) hcap241 hcap242 hcap243) (?_) True.intro (by rfl))
  rintro _ w247 ⟨Ad244, c245, rfl, hs247⟩
  replace hs247 := hs235.call hs247
  refine Ops.v (Yv.move rfl) ?_
  refine Ops.v (Yv.extract rfl rfl) ?_
  refine Ops.v (Yv.extract rfl rfl) ?_
  refine Ops.v (Yv.assign rfl) ?_
  refine Ops.v (Yv.assign rfl) ?_
  refine Ops.nil ?_
  refine k240 _ _ ?_
  refine run_seq fun K248 k248 => ?_
  refine run_region ?_
  refine Ops.v (Yv.buildS (cs := #[.int .i64 0, .int .i64 0, .slice none 0 0, .int .i64 0, .int .i64 0, .slice none 0 0, .int .i64 0, .int .i64 0, .slice none 0 0]) T27 rfl rfl) ?_
  refine Ops.v (Yv.fld F33_1 rfl) ?_
  refine Ops.v (Yv.loadn (cs := [.int .i64 0, .int .i64 0, .int .i64 4, .int .i64 4]) A29 S29 rfl (now (hs247.cells 14 rfl 1 4))) ?_
  refine Ops.v (Yv.buildS (cs := #[.int .i64 0, .int .i64 0]) T31 rfl rfl) ?_
  refine Ops.s (Step.call rfl rfl (single_fun (rdNil _) Bytes.nil (rdNil _) Bytes.nil (rdNil _) Bytes.nil (Nat.le_refl _) (Nat.le_refl _) (Nat.le_refl _)) (?_) True.intro (by rfl))
  rintro _ w252 ⟨Ad249, c250, rfl, hs252⟩
  replace hs252 := hs247.call hs252
  refine Ops.v (Yv.move rfl) ?_
  refine Ops.v (Yv.extract rfl rfl) ?_
  refine Ops.v (Yv.extract rfl rfl) ?_
  refine Ops.v (Yv.assign rfl) ?_
  refine Ops.v (Yv.assign rfl) ?_
  refine Ops.nil ?_
  refine k248 _ _ ?_
  refine run_seq fun K253 k253 => ?_
  refine run_region ?_
  refine Ops.s (Step.lit (ps := [(0, .int .u8 1)]) (cs := [.int .u8 1]) hs252 L22 ⟨_, Z5, rfl⟩ rfl (by decide) (by decide) (by kernel_rfl) rfl (by decide) (fun b255 w254 hs254 hb254 => ?_) True.intro (by rfl))
  replace hs254 : HS w [.row (some ⟨b255, 0, none⟩) 1 1 (u8s [1]) 5 1, .row Ad249 ((singleOut 0 0 0 0 0 0 0 0 0 [] [] [] 0 0 0 4 4 0 0 0).length) c250 (u8s (singleOut 0 0 0 0 0 0 0 0 0 [] [] [] 0 0 0 4 4 0 0 0)) 5 1, .row Ad244 ((singleOut 16 16 256 8 8 64 8 8 64 (List.replicate 256 5) (List.replicate 64 5) (List.replicate 64 5) 2 1024 1024 64 64 4095 (-4095) 1).length) c245 (u8s (singleOut 16 16 256 8 8 64 8 8 64 (List.replicate 256 5) (List.replicate 64 5) (List.replicate 64 5) 2 1024 1024 64 64 4095 (-4095) 1)) 5 1, .row Ad232 ((singleOut 16 16 256 8 8 64 8 8 64 (List.replicate 256 5) (List.replicate 64 5) (List.replicate 64 5) 0 0 0 4 4 0 0 (-1)).length) c233 (u8s (singleOut 16 16 256 8 8 64 8 8 64 (List.replicate 256 5) (List.replicate 64 5) (List.replicate 64 5) 0 0 0 4 4 0 0 (-1))) 5 1, .row Ad217 ((singleOut 16 16 256 8 8 64 8 8 64 (List.replicate 256 5) (List.replicate 64 5) (List.replicate 64 5) 0 0 0 4 4 0 0 3).length) c218 (u8s (singleOut 16 16 256 8 8 64 8 8 64 (List.replicate 256 5) (List.replicate 64 5) (List.replicate 64 5) 0 0 0 4 4 0 0 3)) 5 1, .row Ad202 ((singleOut 16 16 256 8 8 64 8 8 64 (List.replicate 256 5) (List.replicate 64 5) (List.replicate 64 5) 0 0 0 4 4 0 (-4096) 0).length) c203 (u8s (singleOut 16 16 256 8 8 64 8 8 64 (List.replicate 256 5) (List.replicate 64 5) (List.replicate 64 5) 0 0 0 4 4 0 (-4096) 0)) 5 1, .row Ad187 ((singleOut 16 16 256 8 8 64 8 8 64 (List.replicate 256 5) (List.replicate 64 5) (List.replicate 64 5) 0 0 0 4 4 0 4096 0).length) c188 (u8s (singleOut 16 16 256 8 8 64 8 8 64 (List.replicate 256 5) (List.replicate 64 5) (List.replicate 64 5) 0 0 0 4 4 0 4096 0)) 5 1, .row Ad172 ((singleOut 16 16 256 8 8 64 8 8 64 (List.replicate 256 5) (List.replicate 64 5) (List.replicate 64 5) 0 0 0 4 4 (-4096) 0 0).length) c173 (u8s (singleOut 16 16 256 8 8 64 8 8 64 (List.replicate 256 5) (List.replicate 64 5) (List.replicate 64 5) 0 0 0 4 4 (-4096) 0 0)) 5 1, .row Ad157 ((singleOut 16 16 256 8 8 64 8 8 64 (List.replicate 256 5) (List.replicate 64 5) (List.replicate 64 5) 0 0 0 4 4 4096 0 0).length) c158 (u8s (singleOut 16 16 256 8 8 64 8 8 64 (List.replicate 256 5) (List.replicate 64 5) (List.replicate 64 5) 0 0 0 4 4 4096 0 0)) 5 1, .row Ad142 ((singleOut 16 16 256 8 8 64 8 8 64 (List.replicate 256 5) (List.replicate 64 5) (List.replicate 64 5) 0 0 0 4 65 0 0 0).length) c143 (u8s (singleOut 16 16 256 8 8 64 8 8 64 (List.replicate 256 5) (List.replicate 64 5) (List.replicate 64 5) 0 0 0 4 65 0 0 0)) 5 1, .row Ad127 ((singleOut 16 16 256 8 8 64 8 8 64 (List.replicate 256 5) (List.replicate 64 5) (List.replicate 64 5) 0 0 0 3 4 0 0 0).length) c128 (u8s (singleOut 16 16 256 8 8 64 8 8 64 (List.replicate 256 5) (List.replicate 64 5) (List.replicate 64 5) 0 0 0 3 4 0 0 0)) 5 1, .row Ad112 ((singleOut 16 16 256 8 8 64 8 8 64 (List.replicate 256 5) (List.replicate 64 5) (List.replicate 64 5) 0 0 1025 4 4 0 0 0).length) c113 (u8s (singleOut 16 16 256 8 8 64 8 8 64 (List.replicate 256 5) (List.replicate 64 5) (List.replicate 64 5) 0 0 1025 4 4 0 0 0)) 5 1, .row Ad97 ((singleOut 16 16 256 8 8 64 8 8 64 (List.replicate 256 5) (List.replicate 64 5) (List.replicate 64 5) 0 (-1) 0 4 4 0 0 0).length) c98 (u8s (singleOut 16 16 256 8 8 64 8 8 64 (List.replicate 256 5) (List.replicate 64 5) (List.replicate 64 5) 0 (-1) 0 4 4 0 0 0)) 5 1, .row Ad82 ((singleOut 16 16 256 8 8 64 8 8 64 (List.replicate 256 5) (List.replicate 64 5) (List.replicate 64 5) (-1) 0 0 4 4 0 0 0).length) c83 (u8s (singleOut 16 16 256 8 8 64 8 8 64 (List.replicate 256 5) (List.replicate 64 5) (List.replicate 64 5) (-1) 0 0 4 4 0 0 0)) 5 1, .row Ad67 ((singleOut 16 16 256 8 8 64 8 8 64 (List.replicate 256 5) (List.replicate 64 5) (List.replicate 64 5) 3 0 0 4 4 0 0 0).length) c68 (u8s (singleOut 16 16 256 8 8 64 8 8 64 (List.replicate 256 5) (List.replicate 64 5) (List.replicate 64 5) 3 0 0 4 4 0 0 0)) 5 1, .blk b54 [.int .i64 3, .int .i64 0, .int .i64 0, .int .i64 4, .int .i64 4, .int .i64 0, .int .i64 0, .int .i64 0, .int .i64 (-1), .int .i64 0, .int .i64 0, .int .i64 4, .int .i64 4, .int .i64 0, .int .i64 0, .int .i64 0, .int .i64 0, .int .i64 (-1), .int .i64 0, .int .i64 4, .int .i64 4, .int .i64 0, .int .i64 0, .int .i64 0, .int .i64 0, .int .i64 0, .int .i64 1025, .int .i64 4, .int .i64 4, .int .i64 0, .int .i64 0, .int .i64 0, .int .i64 0, .int .i64 0, .int .i64 0, .int .i64 3, .int .i64 4, .int .i64 0, .int .i64 0, .int .i64 0, .int .i64 0, .int .i64 0, .int .i64 0, .int .i64 4, .int .i64 65, .int .i64 0, .int .i64 0, .int .i64 0, .int .i64 0, .int .i64 0, .int .i64 0, .int .i64 4, .int .i64 4, .int .i64 4096, .int .i64 0, .int .i64 0, .int .i64 0, .int .i64 0, .int .i64 0, .int .i64 4, .int .i64 4, .int .i64 (-4096), .int .i64 0, .int .i64 0, .int .i64 0, .int .i64 0, .int .i64 0, .int .i64 4, .int .i64 4, .int .i64 0, .int .i64 4096, .int .i64 0, .int .i64 0, .int .i64 0, .int .i64 0, .int .i64 4, .int .i64 4, .int .i64 0, .int .i64 (-4096), .int .i64 0, .int .i64 0, .int .i64 0, .int .i64 0, .int .i64 4, .int .i64 4, .int .i64 0, .int .i64 0, .int .i64 3, .int .i64 0, .int .i64 0, .int .i64 0, .int .i64 4, .int .i64 4, .int .i64 0, .int .i64 0, .int .i64 (-1)] 33, .blk b48 [.int .i64 0, .int .i64 0, .int .i64 0, .int .i64 4, .int .i64 4, .int .i64 0, .int .i64 0, .int .i64 0] 33, .blk b43 [.int .i64 16, .int .i64 16, .slice Ad33 256 c34, .int .i64 8, .int .i64 8, .slice Ad36 64 c37, .int .i64 8, .int .i64 8, .slice Ad39 64 c40] 27, .row Ad33 256 c34 (u8s (List.replicate 256 5)) 5 1, .row Ad36 64 c37 (u8s (List.replicate 64 5)) 5 1, .row Ad39 64 c40 (u8s (List.replicate 64 5)) 5 1, .row (some ⟨b29, 0, none⟩) 4 4 (i64s [36, 44, 52, 60]) 3 1, .row Ad23 ((wtOut 32).length) c24 (i64s (wtOut 32)) 3 1, .row Ad18 ((wtOut 33).length) c19 (i64s (wtOut 33)) 3 1, .row Ad13 ((wtOut 3).length) c14 (i64s (wtOut 3)) 3 1, .row Ad8 ((wtOut 8).length) c9 (i64s (wtOut 8)) 3 1, .row Ad3 ((wtOut 4).length) c4 (i64s (wtOut 4)) 3 1] w254 := hs254
  have by257 : Bytes [1] := by intro x hx_; simp only [List.mem_cons, List.not_mem_nil, or_false] at hx_; omega
  refine Ops.s (Step.call rfl rfl (pair_fun (hs254.rdRow 0 rfl) by257 (rdNil _) Bytes.nil (by omega)) (?_) True.intro (by rfl))
  rintro _ w261 ⟨Ad258, c259, rfl, hs261⟩
  replace hs261 := hs254.call hs261
  refine Ops.v (Yv.move rfl) ?_
  refine Ops.v (Yv.extract rfl rfl) ?_
  refine Ops.v (Yv.extract rfl rfl) ?_
  refine Ops.v (Yv.assign rfl) ?_
  refine Ops.v (Yv.assign rfl) ?_
  refine Ops.nil ?_
  refine k253 _ _ ?_
  refine run_seq fun K262 k262 => ?_
  refine run_region ?_
  refine Ops.s (Step.call rfl rfl (pair_fun (rdNil _) Bytes.nil (rdNil _) Bytes.nil (by omega)) (?_) True.intro (by rfl))
  rintro _ w266 ⟨Ad263, c264, rfl, hs266⟩
  replace hs266 := hs261.call hs266
  refine Ops.v (Yv.move rfl) ?_
  refine Ops.v (Yv.extract rfl rfl) ?_
  refine Ops.v (Yv.extract rfl rfl) ?_
  refine Ops.v (Yv.assign rfl) ?_
  refine Ops.v (Yv.assign rfl) ?_
  refine Ops.nil ?_
  refine k262 _ _ ?_
  refine run_seq fun K267 k267 => ?_
  refine run_region ?_
  refine Ops.v (Yv.buildS (cs := #[.int .i64 0, .int .i64 0, .int .i64 1, .int .i64 3]) T29 rfl rfl) ?_
  refine Ops.v (Yv.buildS (cs := #[.int .i64 1, .int .i64 0, .int .i64 2, .int .i64 4]) T29 rfl rfl) ?_
  refine Ops.v (Yv.buildS (cs := #[.int .i64 0, .int .i64 1, .int .i64 1, .int .i64 4]) T29 rfl rfl) ?_
  refine Ops.v (Yv.buildS (cs := #[.int .i64 (-1), .int .i64 0, .int .i64 1, .int .i64 4]) T29 rfl rfl) ?_
  refine Ops.v (Yv.buildS (cs := #[.int .i64 0, .int .i64 0, .int .i64 1, .int .i64 33]) T29 rfl rfl) ?_
  refine Ops.v (Yv.buildS (cs := #[.int .i64 0, .int .i64 0, .int .i64 0, .int .i64 4]) T29 rfl rfl) ?_
  refine Ops.s (Step.litb (ps := [(0, .agg #[.int .i64 0, .int .i64 0, .int .i64 1, .int .i64 3]), (1, .agg #[.int .i64 1, .int .i64 0, .int .i64 2, .int .i64 4]), (2, .agg #[.int .i64 0, .int .i64 1, .int .i64 1, .int .i64 4]), (3, .agg #[.int .i64 (-1), .int .i64 0, .int .i64 1, .int .i64 4]), (4, .agg #[.int .i64 0, .int .i64 0, .int .i64 1, .int .i64 33]), (5, .agg #[.int .i64 0, .int .i64 0, .int .i64 0, .int .i64 4])]) (cs := [.int .i64 0, .int .i64 0, .int .i64 1, .int .i64 3, .int .i64 1, .int .i64 0, .int .i64 2, .int .i64 4, .int .i64 0, .int .i64 1, .int .i64 1, .int .i64 4, .int .i64 (-1), .int .i64 0, .int .i64 1, .int .i64 4, .int .i64 0, .int .i64 0, .int .i64 1, .int .i64 33, .int .i64 0, .int .i64 0, .int .i64 0, .int .i64 4]) hs266 L65 ⟨_, Z29, rfl⟩ rfl (by decide) (by decide) (by kernel_rfl) rfl (by decide) (fun b269 w268 hs268 hb268 => ?_) True.intro (by rfl))
  replace hs268 : HS w [.blk b269 [.int .i64 0, .int .i64 0, .int .i64 1, .int .i64 3, .int .i64 1, .int .i64 0, .int .i64 2, .int .i64 4, .int .i64 0, .int .i64 1, .int .i64 1, .int .i64 4, .int .i64 (-1), .int .i64 0, .int .i64 1, .int .i64 4, .int .i64 0, .int .i64 0, .int .i64 1, .int .i64 33, .int .i64 0, .int .i64 0, .int .i64 0, .int .i64 4] 29, .row Ad263 ((pairOut [] []).length) c264 (u8s (pairOut [] [])) 5 1, .row Ad258 ((pairOut [1] []).length) c259 (u8s (pairOut [1] [])) 5 1, .row (some ⟨b255, 0, none⟩) 1 1 (u8s [1]) 5 1, .row Ad249 ((singleOut 0 0 0 0 0 0 0 0 0 [] [] [] 0 0 0 4 4 0 0 0).length) c250 (u8s (singleOut 0 0 0 0 0 0 0 0 0 [] [] [] 0 0 0 4 4 0 0 0)) 5 1, .row Ad244 ((singleOut 16 16 256 8 8 64 8 8 64 (List.replicate 256 5) (List.replicate 64 5) (List.replicate 64 5) 2 1024 1024 64 64 4095 (-4095) 1).length) c245 (u8s (singleOut 16 16 256 8 8 64 8 8 64 (List.replicate 256 5) (List.replicate 64 5) (List.replicate 64 5) 2 1024 1024 64 64 4095 (-4095) 1)) 5 1, .row Ad232 ((singleOut 16 16 256 8 8 64 8 8 64 (List.replicate 256 5) (List.replicate 64 5) (List.replicate 64 5) 0 0 0 4 4 0 0 (-1)).length) c233 (u8s (singleOut 16 16 256 8 8 64 8 8 64 (List.replicate 256 5) (List.replicate 64 5) (List.replicate 64 5) 0 0 0 4 4 0 0 (-1))) 5 1, .row Ad217 ((singleOut 16 16 256 8 8 64 8 8 64 (List.replicate 256 5) (List.replicate 64 5) (List.replicate 64 5) 0 0 0 4 4 0 0 3).length) c218 (u8s (singleOut 16 16 256 8 8 64 8 8 64 (List.replicate 256 5) (List.replicate 64 5) (List.replicate 64 5) 0 0 0 4 4 0 0 3)) 5 1, .row Ad202 ((singleOut 16 16 256 8 8 64 8 8 64 (List.replicate 256 5) (List.replicate 64 5) (List.replicate 64 5) 0 0 0 4 4 0 (-4096) 0).length) c203 (u8s (singleOut 16 16 256 8 8 64 8 8 64 (List.replicate 256 5) (List.replicate 64 5) (List.replicate 64 5) 0 0 0 4 4 0 (-4096) 0)) 5 1, .row Ad187 ((singleOut 16 16 256 8 8 64 8 8 64 (List.replicate 256 5) (List.replicate 64 5) (List.replicate 64 5) 0 0 0 4 4 0 4096 0).length) c188 (u8s (singleOut 16 16 256 8 8 64 8 8 64 (List.replicate 256 5) (List.replicate 64 5) (List.replicate 64 5) 0 0 0 4 4 0 4096 0)) 5 1, .row Ad172 ((singleOut 16 16 256 8 8 64 8 8 64 (List.replicate 256 5) (List.replicate 64 5) (List.replicate 64 5) 0 0 0 4 4 (-4096) 0 0).length) c173 (u8s (singleOut 16 16 256 8 8 64 8 8 64 (List.replicate 256 5) (List.replicate 64 5) (List.replicate 64 5) 0 0 0 4 4 (-4096) 0 0)) 5 1, .row Ad157 ((singleOut 16 16 256 8 8 64 8 8 64 (List.replicate 256 5) (List.replicate 64 5) (List.replicate 64 5) 0 0 0 4 4 4096 0 0).length) c158 (u8s (singleOut 16 16 256 8 8 64 8 8 64 (List.replicate 256 5) (List.replicate 64 5) (List.replicate 64 5) 0 0 0 4 4 4096 0 0)) 5 1, .row Ad142 ((singleOut 16 16 256 8 8 64 8 8 64 (List.replicate 256 5) (List.replicate 64 5) (List.replicate 64 5) 0 0 0 4 65 0 0 0).length) c143 (u8s (singleOut 16 16 256 8 8 64 8 8 64 (List.replicate 256 5) (List.replicate 64 5) (List.replicate 64 5) 0 0 0 4 65 0 0 0)) 5 1, .row Ad127 ((singleOut 16 16 256 8 8 64 8 8 64 (List.replicate 256 5) (List.replicate 64 5) (List.replicate 64 5) 0 0 0 3 4 0 0 0).length) c128 (u8s (singleOut 16 16 256 8 8 64 8 8 64 (List.replicate 256 5) (List.replicate 64 5) (List.replicate 64 5) 0 0 0 3 4 0 0 0)) 5 1, .row Ad112 ((singleOut 16 16 256 8 8 64 8 8 64 (List.replicate 256 5) (List.replicate 64 5) (List.replicate 64 5) 0 0 1025 4 4 0 0 0).length) c113 (u8s (singleOut 16 16 256 8 8 64 8 8 64 (List.replicate 256 5) (List.replicate 64 5) (List.replicate 64 5) 0 0 1025 4 4 0 0 0)) 5 1, .row Ad97 ((singleOut 16 16 256 8 8 64 8 8 64 (List.replicate 256 5) (List.replicate 64 5) (List.replicate 64 5) 0 (-1) 0 4 4 0 0 0).length) c98 (u8s (singleOut 16 16 256 8 8 64 8 8 64 (List.replicate 256 5) (List.replicate 64 5) (List.replicate 64 5) 0 (-1) 0 4 4 0 0 0)) 5 1, .row Ad82 ((singleOut 16 16 256 8 8 64 8 8 64 (List.replicate 256 5) (List.replicate 64 5) (List.replicate 64 5) (-1) 0 0 4 4 0 0 0).length) c83 (u8s (singleOut 16 16 256 8 8 64 8 8 64 (List.replicate 256 5) (List.replicate 64 5) (List.replicate 64 5) (-1) 0 0 4 4 0 0 0)) 5 1, .row Ad67 ((singleOut 16 16 256 8 8 64 8 8 64 (List.replicate 256 5) (List.replicate 64 5) (List.replicate 64 5) 3 0 0 4 4 0 0 0).length) c68 (u8s (singleOut 16 16 256 8 8 64 8 8 64 (List.replicate 256 5) (List.replicate 64 5) (List.replicate 64 5) 3 0 0 4 4 0 0 0)) 5 1, .blk b54 [.int .i64 3, .int .i64 0, .int .i64 0, .int .i64 4, .int .i64 4, .int .i64 0, .int .i64 0, .int .i64 0, .int .i64 (-1), .int .i64 0, .int .i64 0, .int .i64 4, .int .i64 4, .int .i64 0, .int .i64 0, .int .i64 0, .int .i64 0, .int .i64 (-1), .int .i64 0, .int .i64 4, .int .i64 4, .int .i64 0, .int .i64 0, .int .i64 0, .int .i64 0, .int .i64 0, .int .i64 1025, .int .i64 4, .int .i64 4, .int .i64 0, .int .i64 0, .int .i64 0, .int .i64 0, .int .i64 0, .int .i64 0, .int .i64 3, .int .i64 4, .int .i64 0, .int .i64 0, .int .i64 0, .int .i64 0, .int .i64 0, .int .i64 0, .int .i64 4, .int .i64 65, .int .i64 0, .int .i64 0, .int .i64 0, .int .i64 0, .int .i64 0, .int .i64 0, .int .i64 4, .int .i64 4, .int .i64 4096, .int .i64 0, .int .i64 0, .int .i64 0, .int .i64 0, .int .i64 0, .int .i64 4, .int .i64 4, .int .i64 (-4096), .int .i64 0, .int .i64 0, .int .i64 0, .int .i64 0, .int .i64 0, .int .i64 4, .int .i64 4, .int .i64 0, .int .i64 4096, .int .i64 0, .int .i64 0, .int .i64 0, .int .i64 0, .int .i64 4, .int .i64 4, .int .i64 0, .int .i64 (-4096), .int .i64 0, .int .i64 0, .int .i64 0, .int .i64 0, .int .i64 4, .int .i64 4, .int .i64 0, .int .i64 0, .int .i64 3, .int .i64 0, .int .i64 0, .int .i64 0, .int .i64 4, .int .i64 4, .int .i64 0, .int .i64 0, .int .i64 (-1)] 33, .blk b48 [.int .i64 0, .int .i64 0, .int .i64 0, .int .i64 4, .int .i64 4, .int .i64 0, .int .i64 0, .int .i64 0] 33, .blk b43 [.int .i64 16, .int .i64 16, .slice Ad33 256 c34, .int .i64 8, .int .i64 8, .slice Ad36 64 c37, .int .i64 8, .int .i64 8, .slice Ad39 64 c40] 27, .row Ad33 256 c34 (u8s (List.replicate 256 5)) 5 1, .row Ad36 64 c37 (u8s (List.replicate 64 5)) 5 1, .row Ad39 64 c40 (u8s (List.replicate 64 5)) 5 1, .row (some ⟨b29, 0, none⟩) 4 4 (i64s [36, 44, 52, 60]) 3 1, .row Ad23 ((wtOut 32).length) c24 (i64s (wtOut 32)) 3 1, .row Ad18 ((wtOut 33).length) c19 (i64s (wtOut 33)) 3 1, .row Ad13 ((wtOut 3).length) c14 (i64s (wtOut 3)) 3 1, .row Ad8 ((wtOut 8).length) c9 (i64s (wtOut 8)) 3 1, .row Ad3 ((wtOut 4).length) c4 (i64s (wtOut 4)) 3 1] w268 := hs268
  refine Ops.v (Yv.assign rfl) ?_
  refine Ops.nil ?_
  refine k267 _ _ ?_
  refine run_seq fun K271 k271 => ?_
  refine run_seq fun K272 k272 => ?_
  refine run_region ?_
  refine Ops.v (Yv.assign rfl) ?_
  refine Ops.nil ?_
  refine k272 _ _ ?_
  refine run_block ?_
  refine run_rounds 7 ?_
  show Run _ _ _ (seqQ _ _) _ _
  refine run_seq fun K273 k273 => ?_
  refine run_seq fun K274 k274 => ?_
  refine run_region ?_
  refine Ops.v (Yv.move rfl) ?_
  refine Ops.v (Yv.move rfl) ?_
  refine Ops.v (Yv.len (by rw [L65]; rfl) rfl) ?_
  refine Ops.v ((Yv.lt rfl rfl).to (v := .bool true) (by rfl)) ?_
  refine Ops.nil ?_
  refine k274 _ _ ?_
  refine run_if1 rfl ?_
  refine run_skip ?_
  refine k273 _ _ ?_
  refine run_seq fun K275 k275 => ?_
  refine run_block ?_
  refine run_seq fun K276 k276 => ?_
  refine run_drawn [] (fun x => Below (w268.drew).heap.size (w268.drew) x) ?_ Tf.mixed (by kernel_rfl) (fun _ _ _ h => h)
  have hs277 := hs268.drew
  have hS278 := Below.refl (w268.drew).heap.size (w268.drew)
  refine Drw.a 1 rfl (by kernel_rfl) (Yv.move rfl) ?_
  refine Drw.a 2 rfl (by kernel_rfl) (Yv.move rfl) ?_
  refine Drw.a 3 rfl (by kernel_rfl) ((Yv.idx L65 rfl rfl rfl (by decide) (by decide)).to (v := .pointer (some ⟨b269, 0, none⟩)) (by rfl)) ?_
  refine Drw.l 4 rfl (by kernel_rfl) hS278 (Yv.loadn (cs := [.int .i64 0, .int .i64 0, .int .i64 1, .int .i64 3]) A29 S29 rfl (fun _ hq_ => ((hs277.grow hq_).cells 0 rfl 0 4))) ?_
  refine Drw.a 5 rfl (by kernel_rfl) (Yv.move rfl) ?_
  refine Drw.a 6 rfl (by kernel_rfl) (Yv.move rfl) ?_
  refine Drw.a 7 rfl (by kernel_rfl) ((Yv.idx L65 rfl rfl rfl (by decide) (by decide)).to (v := .pointer (some ⟨b269, 0, none⟩)) (by rfl)) ?_
  refine Drw.a 8 rfl (by kernel_rfl) (Yv.fld F29_2 rfl) ?_
  refine Drw.l 9 rfl (by kernel_rfl) hS278 (Yv.load A3 rfl (fun _ hq_ => ((hs277.grow hq_).cell 0 rfl 2 rfl))) ?_
  refine Drw.a 10 rfl (by kernel_rfl) (Yv.move rfl) ?_
  refine Drw.a 11 rfl (by kernel_rfl) (Yv.move rfl) ?_
  refine Drw.a 12 rfl (by kernel_rfl) ((Yv.idx L65 rfl rfl rfl (by decide) (by decide)).to (v := .pointer (some ⟨b269, 0, none⟩)) (by rfl)) ?_
  refine Drw.a 13 rfl (by kernel_rfl) (Yv.fld F29_3 rfl) ?_
  refine Drw.l 14 rfl (by kernel_rfl) hS278 (Yv.load A3 rfl (fun _ hq_ => ((hs277.grow hq_).cell 0 rfl 3 rfl))) ?_
  refine Drw.a 15 rfl (by kernel_rfl) ((Yv.mul rfl rfl (by omega)).to (v := .int .i64 3) (by rfl)) ?_
  refine Drw.one 0 rfl (by kernel_rfl) (Step.call rfl rfl (flat_fun (by omega) (by omega)) (?_) True.intro (by rfl))
  rintro _ w282 ⟨Ad279, c280, rfl, hs282⟩
  have hS283 := HS.keepS hS278 (Nat.le_refl _) hs282
  refine ⟨fun _ _ => hS283, ?_⟩
  replace hs282 := hs277.call hs282
  refine Drw.one 16 rfl (by kernel_rfl) (Step.call rfl rfl (flat_fun (by omega) (by omega)) (?_) True.intro (by rfl))
  rintro _ w287 ⟨Ad284, c285, rfl, hs287⟩
  have hS288 := HS.keepS hS283 (Nat.le_refl _) hs287
  refine ⟨fun _ _ => hS288, ?_⟩
  replace hs287 := hs282.call hs287
  refine Drw.one 17 rfl (by kernel_rfl) (Step.call rfl rfl (above_fun (hs287.rdRow 1 rfl) (Bytes.rep (by omega)) (hs287.rdRow 0 rfl) (Bytes.rep (by omega)) (by omega)) (?_) True.intro (by rfl))
  rintro _ w292 ⟨Ad289, c290, rfl, hs292⟩
  have hS293 := HS.keepS hS288 (Nat.le_refl _) hs292
  refine ⟨fun _ _ => hS293, ?_⟩
  replace hs292 := hs287.call hs292
  refine Drw.a 18 rfl (by kernel_rfl) (Yv.move rfl) ?_
  refine Drw.a 19 rfl (by kernel_rfl) (Yv.extract rfl rfl) ?_
  refine Drw.a 20 rfl (by kernel_rfl) (Yv.extract rfl rfl) ?_
  refine Drw.a 21 rfl (by kernel_rfl) (Yv.assign rfl) ?_
  refine Drw.a 22 rfl (by kernel_rfl) (Yv.assign rfl) ?_
  refine Drw.done ?_ (by kernel_rfl)
  refine k276 _ _ ?_
  refine run_seq fun K294 k294 => ?_
  refine run_region ?_
  refine Ops.v (Yv.move rfl) ?_
  refine Ops.v (Yv.ne rfl rfl) ?_
  refine Ops.dec0 (of_decide_eq_false (by kernel_rfl)) ?_
  refine Ops.nil ?_
  refine k294 _ _ ?_
  refine run_if0 rfl ?_
  refine run_skip ?_
  refine k275 _ _ ?_
  refine run_region ?_
  refine Ops.v (Yv.move rfl) ?_
  refine Ops.v ((Yv.add rfl rfl (by omega)).to (v := .int .i64 1) (by rfl)) ?_
  refine Ops.v (Yv.assign rfl) ?_
  refine Ops.nil ?_
  show Run _ _ _ (seqQ _ _) _ _
  refine run_seq fun K295 k295 => ?_
  refine run_seq fun K296 k296 => ?_
  refine run_region ?_
  refine Ops.v (Yv.move rfl) ?_
  refine Ops.v (Yv.move rfl) ?_
  refine Ops.v (Yv.len (by rw [L65]; rfl) rfl) ?_
  refine Ops.v ((Yv.lt rfl rfl).to (v := .bool true) (by rfl)) ?_
  refine Ops.nil ?_
  refine k296 _ _ ?_
  refine run_if1 rfl ?_
  refine run_skip ?_
  refine k295 _ _ ?_
  refine run_seq fun K297 k297 => ?_
  refine run_block ?_
  refine run_seq fun K298 k298 => ?_
  refine run_drawn [] (fun x => Below (w292.drew).heap.size (w292.drew) x) ?_ Tf.mixed (by kernel_rfl) (fun _ _ _ h => h)
  have hs299 := hs292.drew
  have hS300 := Below.refl (w292.drew).heap.size (w292.drew)
  refine Drw.a 1 rfl (by kernel_rfl) (Yv.move rfl) ?_
  refine Drw.a 2 rfl (by kernel_rfl) (Yv.move rfl) ?_
  refine Drw.a 3 rfl (by kernel_rfl) ((Yv.idx L65 rfl rfl rfl (by decide) (by decide)).to (v := .pointer (some ⟨b269, 4, none⟩)) (by rfl)) ?_
  refine Drw.l 4 rfl (by kernel_rfl) hS300 (Yv.loadn (cs := [.int .i64 1, .int .i64 0, .int .i64 2, .int .i64 4]) A29 S29 rfl (fun _ hq_ => ((hs299.grow hq_).cells 3 rfl 4 4))) ?_
  refine Drw.a 5 rfl (by kernel_rfl) (Yv.move rfl) ?_
  refine Drw.a 6 rfl (by kernel_rfl) (Yv.move rfl) ?_
  refine Drw.a 7 rfl (by kernel_rfl) ((Yv.idx L65 rfl rfl rfl (by decide) (by decide)).to (v := .pointer (some ⟨b269, 4, none⟩)) (by rfl)) ?_
  refine Drw.a 8 rfl (by kernel_rfl) (Yv.fld F29_2 rfl) ?_
  refine Drw.l 9 rfl (by kernel_rfl) hS300 (Yv.load A3 rfl (fun _ hq_ => ((hs299.grow hq_).cell 3 rfl 6 rfl))) ?_
  refine Drw.a 10 rfl (by kernel_rfl) (Yv.move rfl) ?_
  refine Drw.a 11 rfl (by kernel_rfl) (Yv.move rfl) ?_
  refine Drw.a 12 rfl (by kernel_rfl) ((Yv.idx L65 rfl rfl rfl (by decide) (by decide)).to (v := .pointer (some ⟨b269, 4, none⟩)) (by rfl)) ?_
  refine Drw.a 13 rfl (by kernel_rfl) (Yv.fld F29_3 rfl) ?_
  refine Drw.l 14 rfl (by kernel_rfl) hS300 (Yv.load A3 rfl (fun _ hq_ => ((hs299.grow hq_).cell 3 rfl 7 rfl))) ?_
  refine Drw.a 15 rfl (by kernel_rfl) ((Yv.mul rfl rfl (by omega)).to (v := .int .i64 8) (by rfl)) ?_
  refine Drw.one 0 rfl (by kernel_rfl) (Step.call rfl rfl (flat_fun (by omega) (by omega)) (?_) True.intro (by rfl))
  rintro _ w304 ⟨Ad301, c302, rfl, hs304⟩
  have hS305 := HS.keepS hS300 (Nat.le_refl _) hs304
  refine ⟨fun _ _ => hS305, ?_⟩
  replace hs304 := hs299.call hs304
  refine Drw.one 16 rfl (by kernel_rfl) (Step.call rfl rfl (flat_fun (by omega) (by omega)) (?_) True.intro (by rfl))
  rintro _ w309 ⟨Ad306, c307, rfl, hs309⟩
  have hS310 := HS.keepS hS305 (Nat.le_refl _) hs309
  refine ⟨fun _ _ => hS310, ?_⟩
  replace hs309 := hs304.call hs309
  refine Drw.one 17 rfl (by kernel_rfl) (Step.call rfl rfl (above_fun (hs309.rdRow 1 rfl) (Bytes.rep (by omega)) (hs309.rdRow 0 rfl) (Bytes.rep (by omega)) (by omega)) (?_) True.intro (by rfl))
  rintro _ w314 ⟨Ad311, c312, rfl, hs314⟩
  have hS315 := HS.keepS hS310 (Nat.le_refl _) hs314
  refine ⟨fun _ _ => hS315, ?_⟩
  replace hs314 := hs309.call hs314
  refine Drw.a 18 rfl (by kernel_rfl) (Yv.move rfl) ?_
  refine Drw.a 19 rfl (by kernel_rfl) (Yv.extract rfl rfl) ?_
  refine Drw.a 20 rfl (by kernel_rfl) (Yv.extract rfl rfl) ?_
  refine Drw.a 21 rfl (by kernel_rfl) (Yv.assign rfl) ?_
  refine Drw.a 22 rfl (by kernel_rfl) (Yv.assign rfl) ?_
  refine Drw.done ?_ (by kernel_rfl)
  refine k298 _ _ ?_
  refine run_seq fun K316 k316 => ?_
  refine run_region ?_
  refine Ops.v (Yv.move rfl) ?_
  refine Ops.v (Yv.ne rfl rfl) ?_
  refine Ops.dec0 (of_decide_eq_false (by kernel_rfl)) ?_
  refine Ops.nil ?_
  refine k316 _ _ ?_
  refine run_if0 rfl ?_
  refine run_skip ?_
  refine k297 _ _ ?_
  refine run_region ?_
  refine Ops.v (Yv.move rfl) ?_
  refine Ops.v ((Yv.add rfl rfl (by omega)).to (v := .int .i64 2) (by rfl)) ?_
  refine Ops.v (Yv.assign rfl) ?_
  refine Ops.nil ?_
  show Run _ _ _ (seqQ _ _) _ _
  refine run_seq fun K317 k317 => ?_
  refine run_seq fun K318 k318 => ?_
  refine run_region ?_
  refine Ops.v (Yv.move rfl) ?_
  refine Ops.v (Yv.move rfl) ?_
  refine Ops.v (Yv.len (by rw [L65]; rfl) rfl) ?_
  refine Ops.v ((Yv.lt rfl rfl).to (v := .bool true) (by rfl)) ?_
  refine Ops.nil ?_
  refine k318 _ _ ?_
  refine run_if1 rfl ?_
  refine run_skip ?_
  refine k317 _ _ ?_
  refine run_seq fun K319 k319 => ?_
  refine run_block ?_
  refine run_seq fun K320 k320 => ?_
  refine run_drawn [] (fun x => Below (w314.drew).heap.size (w314.drew) x) ?_ Tf.mixed (by kernel_rfl) (fun _ _ _ h => h)
  have hs321 := hs314.drew
  have hS322 := Below.refl (w314.drew).heap.size (w314.drew)
  refine Drw.a 1 rfl (by kernel_rfl) (Yv.move rfl) ?_
  refine Drw.a 2 rfl (by kernel_rfl) (Yv.move rfl) ?_
  refine Drw.a 3 rfl (by kernel_rfl) ((Yv.idx L65 rfl rfl rfl (by decide) (by decide)).to (v := .pointer (some ⟨b269, 8, none⟩)) (by rfl)) ?_
  refine Drw.l 4 rfl (by kernel_rfl) hS322 (Yv.loadn (cs := [.int .i64 0, .int .i64 1, .int .i64 1, .int .i64 4]) A29 S29 rfl (fun _ hq_ => ((hs321.grow hq_).cells 6 rfl 8 4))) ?_
  refine Drw.a 5 rfl (by kernel_rfl) (Yv.move rfl) ?_
  refine Drw.a 6 rfl (by kernel_rfl) (Yv.move rfl) ?_
  refine Drw.a 7 rfl (by kernel_rfl) ((Yv.idx L65 rfl rfl rfl (by decide) (by decide)).to (v := .pointer (some ⟨b269, 8, none⟩)) (by rfl)) ?_
  refine Drw.a 8 rfl (by kernel_rfl) (Yv.fld F29_2 rfl) ?_
  refine Drw.l 9 rfl (by kernel_rfl) hS322 (Yv.load A3 rfl (fun _ hq_ => ((hs321.grow hq_).cell 6 rfl 10 rfl))) ?_
  refine Drw.a 10 rfl (by kernel_rfl) (Yv.move rfl) ?_
  refine Drw.a 11 rfl (by kernel_rfl) (Yv.move rfl) ?_
  refine Drw.a 12 rfl (by kernel_rfl) ((Yv.idx L65 rfl rfl rfl (by decide) (by decide)).to (v := .pointer (some ⟨b269, 8, none⟩)) (by rfl)) ?_
  refine Drw.a 13 rfl (by kernel_rfl) (Yv.fld F29_3 rfl) ?_
  refine Drw.l 14 rfl (by kernel_rfl) hS322 (Yv.load A3 rfl (fun _ hq_ => ((hs321.grow hq_).cell 6 rfl 11 rfl))) ?_
  refine Drw.a 15 rfl (by kernel_rfl) ((Yv.mul rfl rfl (by omega)).to (v := .int .i64 4) (by rfl)) ?_
  refine Drw.one 0 rfl (by kernel_rfl) (Step.call rfl rfl (flat_fun (by omega) (by omega)) (?_) True.intro (by rfl))
  rintro _ w326 ⟨Ad323, c324, rfl, hs326⟩
  have hS327 := HS.keepS hS322 (Nat.le_refl _) hs326
  refine ⟨fun _ _ => hS327, ?_⟩
  replace hs326 := hs321.call hs326
  refine Drw.one 16 rfl (by kernel_rfl) (Step.call rfl rfl (flat_fun (by omega) (by omega)) (?_) True.intro (by rfl))
  rintro _ w331 ⟨Ad328, c329, rfl, hs331⟩
  have hS332 := HS.keepS hS327 (Nat.le_refl _) hs331
  refine ⟨fun _ _ => hS332, ?_⟩
  replace hs331 := hs326.call hs331
  refine Drw.one 17 rfl (by kernel_rfl) (Step.call rfl rfl (above_fun (hs331.rdRow 1 rfl) (Bytes.rep (by omega)) (hs331.rdRow 0 rfl) (Bytes.rep (by omega)) (by omega)) (?_) True.intro (by rfl))
  rintro _ w336 ⟨Ad333, c334, rfl, hs336⟩
  have hS337 := HS.keepS hS332 (Nat.le_refl _) hs336
  refine ⟨fun _ _ => hS337, ?_⟩
  replace hs336 := hs331.call hs336
  refine Drw.a 18 rfl (by kernel_rfl) (Yv.move rfl) ?_
  refine Drw.a 19 rfl (by kernel_rfl) (Yv.extract rfl rfl) ?_
  refine Drw.a 20 rfl (by kernel_rfl) (Yv.extract rfl rfl) ?_
  refine Drw.a 21 rfl (by kernel_rfl) (Yv.assign rfl) ?_
  refine Drw.a 22 rfl (by kernel_rfl) (Yv.assign rfl) ?_
  refine Drw.done ?_ (by kernel_rfl)
  refine k320 _ _ ?_
  refine run_seq fun K338 k338 => ?_
  refine run_region ?_
  refine Ops.v (Yv.move rfl) ?_
  refine Ops.v (Yv.ne rfl rfl) ?_
  refine Ops.dec0 (of_decide_eq_false (by kernel_rfl)) ?_
  refine Ops.nil ?_
  refine k338 _ _ ?_
  refine run_if0 rfl ?_
  refine run_skip ?_
  refine k319 _ _ ?_
  refine run_region ?_
  refine Ops.v (Yv.move rfl) ?_
  refine Ops.v ((Yv.add rfl rfl (by omega)).to (v := .int .i64 3) (by rfl)) ?_
  refine Ops.v (Yv.assign rfl) ?_
  refine Ops.nil ?_
  show Run _ _ _ (seqQ _ _) _ _
  refine run_seq fun K339 k339 => ?_
  refine run_seq fun K340 k340 => ?_
  refine run_region ?_
  refine Ops.v (Yv.move rfl) ?_
  refine Ops.v (Yv.move rfl) ?_
  refine Ops.v (Yv.len (by rw [L65]; rfl) rfl) ?_
  refine Ops.v ((Yv.lt rfl rfl).to (v := .bool true) (by rfl)) ?_
  refine Ops.nil ?_
  refine k340 _ _ ?_
  refine run_if1 rfl ?_
  refine run_skip ?_
  refine k339 _ _ ?_
  refine run_seq fun K341 k341 => ?_
  refine run_block ?_
  refine run_seq fun K342 k342 => ?_
  refine run_drawn [] (fun x => Below (w336.drew).heap.size (w336.drew) x) ?_ Tf.mixed (by kernel_rfl) (fun _ _ _ h => h)
  have hs343 := hs336.drew
  have hS344 := Below.refl (w336.drew).heap.size (w336.drew)
  refine Drw.a 1 rfl (by kernel_rfl) (Yv.move rfl) ?_
  refine Drw.a 2 rfl (by kernel_rfl) (Yv.move rfl) ?_
  refine Drw.a 3 rfl (by kernel_rfl) ((Yv.idx L65 rfl rfl rfl (by decide) (by decide)).to (v := .pointer (some ⟨b269, 12, none⟩)) (by rfl)) ?_
  refine Drw.l 4 rfl (by kernel_rfl) hS344 (Yv.loadn (cs := [.int .i64 (-1), .int .i64 0, .int .i64 1, .int .i64 4]) A29 S29 rfl (fun _ hq_ => ((hs343.grow hq_).cells 9 rfl 12 4))) ?_
  refine Drw.a 5 rfl (by kernel_rfl) (Yv.move rfl) ?_
  refine Drw.a 6 rfl (by kernel_rfl) (Yv.move rfl) ?_
  refine Drw.a 7 rfl (by kernel_rfl) ((Yv.idx L65 rfl rfl rfl (by decide) (by decide)).to (v := .pointer (some ⟨b269, 12, none⟩)) (by rfl)) ?_
  refine Drw.a 8 rfl (by kernel_rfl) (Yv.fld F29_2 rfl) ?_
  refine Drw.l 9 rfl (by kernel_rfl) hS344 (Yv.load A3 rfl (fun _ hq_ => ((hs343.grow hq_).cell 9 rfl 14 rfl))) ?_
  refine Drw.a 10 rfl (by kernel_rfl) (Yv.move rfl) ?_
  refine Drw.a 11 rfl (by kernel_rfl) (Yv.move rfl) ?_
  refine Drw.a 12 rfl (by kernel_rfl) ((Yv.idx L65 rfl rfl rfl (by decide) (by decide)).to (v := .pointer (some ⟨b269, 12, none⟩)) (by rfl)) ?_
  refine Drw.a 13 rfl (by kernel_rfl) (Yv.fld F29_3 rfl) ?_
  refine Drw.l 14 rfl (by kernel_rfl) hS344 (Yv.load A3 rfl (fun _ hq_ => ((hs343.grow hq_).cell 9 rfl 15 rfl))) ?_
  refine Drw.a 15 rfl (by kernel_rfl) ((Yv.mul rfl rfl (by omega)).to (v := .int .i64 4) (by rfl)) ?_
  refine Drw.one 0 rfl (by kernel_rfl) (Step.call rfl rfl (flat_fun (by omega) (by omega)) (?_) True.intro (by rfl))
  rintro _ w348 ⟨Ad345, c346, rfl, hs348⟩
  have hS349 := HS.keepS hS344 (Nat.le_refl _) hs348
  refine ⟨fun _ _ => hS349, ?_⟩
  replace hs348 := hs343.call hs348
  refine Drw.one 16 rfl (by kernel_rfl) (Step.call rfl rfl (flat_fun (by omega) (by omega)) (?_) True.intro (by rfl))
  rintro _ w353 ⟨Ad350, c351, rfl, hs353⟩
  have hS354 := HS.keepS hS349 (Nat.le_refl _) hs353
  refine ⟨fun _ _ => hS354, ?_⟩
  replace hs353 := hs348.call hs353
  refine Drw.one 17 rfl (by kernel_rfl) (Step.call rfl rfl (above_fun (hs353.rdRow 1 rfl) (Bytes.rep (by omega)) (hs353.rdRow 0 rfl) (Bytes.rep (by omega)) (by omega)) (?_) True.intro (by rfl))
  rintro _ w358 ⟨Ad355, c356, rfl, hs358⟩
  have hS359 := HS.keepS hS354 (Nat.le_refl _) hs358
  refine ⟨fun _ _ => hS359, ?_⟩
  replace hs358 := hs353.call hs358
  refine Drw.a 18 rfl (by kernel_rfl) (Yv.move rfl) ?_
  refine Drw.a 19 rfl (by kernel_rfl) (Yv.extract rfl rfl) ?_
  refine Drw.a 20 rfl (by kernel_rfl) (Yv.extract rfl rfl) ?_
  refine Drw.a 21 rfl (by kernel_rfl) (Yv.assign rfl) ?_
  refine Drw.a 22 rfl (by kernel_rfl) (Yv.assign rfl) ?_
  refine Drw.done ?_ (by kernel_rfl)
  refine k342 _ _ ?_
  refine run_seq fun K360 k360 => ?_
  refine run_region ?_
  refine Ops.v (Yv.move rfl) ?_
  refine Ops.v (Yv.ne rfl rfl) ?_
  refine Ops.dec0 (of_decide_eq_false (by kernel_rfl)) ?_
  refine Ops.nil ?_
  refine k360 _ _ ?_
  refine run_if0 rfl ?_
  refine run_skip ?_
  refine k341 _ _ ?_
  refine run_region ?_
  refine Ops.v (Yv.move rfl) ?_
  refine Ops.v ((Yv.add rfl rfl (by omega)).to (v := .int .i64 4) (by rfl)) ?_
  refine Ops.v (Yv.assign rfl) ?_
  refine Ops.nil ?_
  show Run _ _ _ (seqQ _ _) _ _
  refine run_seq fun K361 k361 => ?_
  refine run_seq fun K362 k362 => ?_
  refine run_region ?_
  refine Ops.v (Yv.move rfl) ?_
  refine Ops.v (Yv.move rfl) ?_
  refine Ops.v (Yv.len (by rw [L65]; rfl) rfl) ?_
  refine Ops.v ((Yv.lt rfl rfl).to (v := .bool true) (by rfl)) ?_
  refine Ops.nil ?_
  refine k362 _ _ ?_
  refine run_if1 rfl ?_
  refine run_skip ?_
  refine k361 _ _ ?_
  refine run_seq fun K363 k363 => ?_
  refine run_block ?_
  refine run_seq fun K364 k364 => ?_
  refine run_drawn [] (fun x => Below (w358.drew).heap.size (w358.drew) x) ?_ Tf.mixed (by kernel_rfl) (fun _ _ _ h => h)
  have hs365 := hs358.drew
  have hS366 := Below.refl (w358.drew).heap.size (w358.drew)
  refine Drw.a 1 rfl (by kernel_rfl) (Yv.move rfl) ?_
  refine Drw.a 2 rfl (by kernel_rfl) (Yv.move rfl) ?_
  refine Drw.a 3 rfl (by kernel_rfl) ((Yv.idx L65 rfl rfl rfl (by decide) (by decide)).to (v := .pointer (some ⟨b269, 16, none⟩)) (by rfl)) ?_
  refine Drw.l 4 rfl (by kernel_rfl) hS366 (Yv.loadn (cs := [.int .i64 0, .int .i64 0, .int .i64 1, .int .i64 33]) A29 S29 rfl (fun _ hq_ => ((hs365.grow hq_).cells 12 rfl 16 4))) ?_
  refine Drw.a 5 rfl (by kernel_rfl) (Yv.move rfl) ?_
  refine Drw.a 6 rfl (by kernel_rfl) (Yv.move rfl) ?_
  refine Drw.a 7 rfl (by kernel_rfl) ((Yv.idx L65 rfl rfl rfl (by decide) (by decide)).to (v := .pointer (some ⟨b269, 16, none⟩)) (by rfl)) ?_
  refine Drw.a 8 rfl (by kernel_rfl) (Yv.fld F29_2 rfl) ?_
  refine Drw.l 9 rfl (by kernel_rfl) hS366 (Yv.load A3 rfl (fun _ hq_ => ((hs365.grow hq_).cell 12 rfl 18 rfl))) ?_
  refine Drw.a 10 rfl (by kernel_rfl) (Yv.move rfl) ?_
  refine Drw.a 11 rfl (by kernel_rfl) (Yv.move rfl) ?_
  refine Drw.a 12 rfl (by kernel_rfl) ((Yv.idx L65 rfl rfl rfl (by decide) (by decide)).to (v := .pointer (some ⟨b269, 16, none⟩)) (by rfl)) ?_
  refine Drw.a 13 rfl (by kernel_rfl) (Yv.fld F29_3 rfl) ?_
  refine Drw.l 14 rfl (by kernel_rfl) hS366 (Yv.load A3 rfl (fun _ hq_ => ((hs365.grow hq_).cell 12 rfl 19 rfl))) ?_
  refine Drw.a 15 rfl (by kernel_rfl) ((Yv.mul rfl rfl (by omega)).to (v := .int .i64 33) (by rfl)) ?_
  refine Drw.one 0 rfl (by kernel_rfl) (Step.call rfl rfl (flat_fun (by omega) (by omega)) (?_) True.intro (by rfl))
  rintro _ w370 ⟨Ad367, c368, rfl, hs370⟩
  have hS371 := HS.keepS hS366 (Nat.le_refl _) hs370
  refine ⟨fun _ _ => hS371, ?_⟩
  replace hs370 := hs365.call hs370
  refine Drw.one 16 rfl (by kernel_rfl) (Step.call rfl rfl (flat_fun (by omega) (by omega)) (?_) True.intro (by rfl))
  rintro _ w375 ⟨Ad372, c373, rfl, hs375⟩
  have hS376 := HS.keepS hS371 (Nat.le_refl _) hs375
  refine ⟨fun _ _ => hS376, ?_⟩
  replace hs375 := hs370.call hs375
  refine Drw.one 17 rfl (by kernel_rfl) (Step.call rfl rfl (above_fun (hs375.rdRow 1 rfl) (Bytes.rep (by omega)) (hs375.rdRow 0 rfl) (Bytes.rep (by omega)) (by omega)) (?_) True.intro (by rfl))
  rintro _ w380 ⟨Ad377, c378, rfl, hs380⟩
  have hS381 := HS.keepS hS376 (Nat.le_refl _) hs380
  refine ⟨fun _ _ => hS381, ?_⟩
  replace hs380 := hs375.call hs380
  refine Drw.a 18 rfl (by kernel_rfl) (Yv.move rfl) ?_
  refine Drw.a 19 rfl (by kernel_rfl) (Yv.extract rfl rfl) ?_
  refine Drw.a 20 rfl (by kernel_rfl) (Yv.extract rfl rfl) ?_
  refine Drw.a 21 rfl (by kernel_rfl) (Yv.assign rfl) ?_
  refine Drw.a 22 rfl (by kernel_rfl) (Yv.assign rfl) ?_
  refine Drw.done ?_ (by kernel_rfl)
  refine k364 _ _ ?_
  refine run_seq fun K382 k382 => ?_
  refine run_region ?_
  refine Ops.v (Yv.move rfl) ?_
  refine Ops.v (Yv.ne rfl rfl) ?_
  refine Ops.dec0 (of_decide_eq_false (by kernel_rfl)) ?_
  refine Ops.nil ?_
  refine k382 _ _ ?_
  refine run_if0 rfl ?_
  refine run_skip ?_
  refine k363 _ _ ?_
  refine run_region ?_
  refine Ops.v (Yv.move rfl) ?_
  refine Ops.v ((Yv.add rfl rfl (by omega)).to (v := .int .i64 5) (by rfl)) ?_
  refine Ops.v (Yv.assign rfl) ?_
  refine Ops.nil ?_
  show Run _ _ _ (seqQ _ _) _ _
  refine run_seq fun K383 k383 => ?_
  refine run_seq fun K384 k384 => ?_
  refine run_region ?_
  refine Ops.v (Yv.move rfl) ?_
  refine Ops.v (Yv.move rfl) ?_
  refine Ops.v (Yv.len (by rw [L65]; rfl) rfl) ?_
  refine Ops.v ((Yv.lt rfl rfl).to (v := .bool true) (by rfl)) ?_
  refine Ops.nil ?_
  refine k384 _ _ ?_
  refine run_if1 rfl ?_
  refine run_skip ?_
  refine k383 _ _ ?_
  refine run_seq fun K385 k385 => ?_
  refine run_block ?_
  refine run_seq fun K386 k386 => ?_
  refine run_drawn [] (fun x => Below (w380.drew).heap.size (w380.drew) x) ?_ Tf.mixed (by kernel_rfl) (fun _ _ _ h => h)
  have hs387 := hs380.drew
  have hS388 := Below.refl (w380.drew).heap.size (w380.drew)
  refine Drw.a 1 rfl (by kernel_rfl) (Yv.move rfl) ?_
  refine Drw.a 2 rfl (by kernel_rfl) (Yv.move rfl) ?_
  refine Drw.a 3 rfl (by kernel_rfl) ((Yv.idx L65 rfl rfl rfl (by decide) (by decide)).to (v := .pointer (some ⟨b269, 20, none⟩)) (by rfl)) ?_
  refine Drw.l 4 rfl (by kernel_rfl) hS388 (Yv.loadn (cs := [.int .i64 0, .int .i64 0, .int .i64 0, .int .i64 4]) A29 S29 rfl (fun _ hq_ => ((hs387.grow hq_).cells 15 rfl 20 4))) ?_
  refine Drw.a 5 rfl (by kernel_rfl) (Yv.move rfl) ?_
  refine Drw.a 6 rfl (by kernel_rfl) (Yv.move rfl) ?_
  refine Drw.a 7 rfl (by kernel_rfl) ((Yv.idx L65 rfl rfl rfl (by decide) (by decide)).to (v := .pointer (some ⟨b269, 20, none⟩)) (by rfl)) ?_
  refine Drw.a 8 rfl (by kernel_rfl) (Yv.fld F29_2 rfl) ?_
  refine Drw.l 9 rfl (by kernel_rfl) hS388 (Yv.load A3 rfl (fun _ hq_ => ((hs387.grow hq_).cell 15 rfl 22 rfl))) ?_
  refine Drw.a 10 rfl (by kernel_rfl) (Yv.move rfl) ?_
  refine Drw.a 11 rfl (by kernel_rfl) (Yv.move rfl) ?_
  refine Drw.a 12 rfl (by kernel_rfl) ((Yv.idx L65 rfl rfl rfl (by decide) (by decide)).to (v := .pointer (some ⟨b269, 20, none⟩)) (by rfl)) ?_
  refine Drw.a 13 rfl (by kernel_rfl) (Yv.fld F29_3 rfl) ?_
  refine Drw.l 14 rfl (by kernel_rfl) hS388 (Yv.load A3 rfl (fun _ hq_ => ((hs387.grow hq_).cell 15 rfl 23 rfl))) ?_
  refine Drw.a 15 rfl (by kernel_rfl) ((Yv.mul rfl rfl (by omega)).to (v := .int .i64 0) (by rfl)) ?_
  refine Drw.one 0 rfl (by kernel_rfl) (Step.call rfl rfl (flat_fun (by omega) (by omega)) (?_) True.intro (by rfl))
  rintro _ w392 ⟨Ad389, c390, rfl, hs392⟩
  have hS393 := HS.keepS hS388 (Nat.le_refl _) hs392
  refine ⟨fun _ _ => hS393, ?_⟩
  replace hs392 := hs387.call hs392
  refine Drw.one 16 rfl (by kernel_rfl) (Step.call rfl rfl (flat_fun (by omega) (by omega)) (?_) True.intro (by rfl))
  rintro _ w397 ⟨Ad394, c395, rfl, hs397⟩
  have hS398 := HS.keepS hS393 (Nat.le_refl _) hs397
  refine ⟨fun _ _ => hS398, ?_⟩
  replace hs397 := hs392.call hs397
  refine Drw.one 17 rfl (by kernel_rfl) (Step.call rfl rfl (above_fun (hs397.rdRow 1 rfl) (Bytes.rep (by omega)) (hs397.rdRow 0 rfl) (Bytes.rep (by omega)) (by omega)) (?_) True.intro (by rfl))
  rintro _ w402 ⟨Ad399, c400, rfl, hs402⟩
  have hS403 := HS.keepS hS398 (Nat.le_refl _) hs402
  refine ⟨fun _ _ => hS403, ?_⟩
  replace hs402 := hs397.call hs402
  refine Drw.a 18 rfl (by kernel_rfl) (Yv.move rfl) ?_
  refine Drw.a 19 rfl (by kernel_rfl) (Yv.extract rfl rfl) ?_
  refine Drw.a 20 rfl (by kernel_rfl) (Yv.extract rfl rfl) ?_
  refine Drw.a 21 rfl (by kernel_rfl) (Yv.assign rfl) ?_
  refine Drw.a 22 rfl (by kernel_rfl) (Yv.assign rfl) ?_
  refine Drw.done ?_ (by kernel_rfl)
  refine k386 _ _ ?_
  refine run_seq fun K404 k404 => ?_
  refine run_region ?_
  refine Ops.v (Yv.move rfl) ?_
  refine Ops.v (Yv.ne rfl rfl) ?_
  refine Ops.dec0 (of_decide_eq_false (by kernel_rfl)) ?_
  refine Ops.nil ?_
  refine k404 _ _ ?_
  refine run_if0 rfl ?_
  refine run_skip ?_
  refine k385 _ _ ?_
  refine run_region ?_
  refine Ops.v (Yv.move rfl) ?_
  refine Ops.v ((Yv.add rfl rfl (by omega)).to (v := .int .i64 6) (by rfl)) ?_
  refine Ops.v (Yv.assign rfl) ?_
  refine Ops.nil ?_
  show Run _ _ _ (seqQ _ _) _ _
  refine run_seq fun K405 k405 => ?_
  refine run_seq fun K406 k406 => ?_
  refine run_region ?_
  refine Ops.v (Yv.move rfl) ?_
  refine Ops.v (Yv.move rfl) ?_
  refine Ops.v (Yv.len (by rw [L65]; rfl) rfl) ?_
  refine Ops.v ((Yv.lt rfl rfl).to (v := .bool false) (by rfl)) ?_
  refine Ops.nil ?_
  refine k406 _ _ ?_
  refine run_if0 rfl ?_
  refine run_exit ?_
  refine k271 _ _ ?_
  refine run_seq fun K407 k407 => ?_
  refine run_region ?_
  refine Ops.s (Step.call rfl rfl (flat_fun (by omega) (by omega)) (?_) True.intro (by rfl))
  rintro _ w411 ⟨Ad408, c409, rfl, hs411⟩
  replace hs411 := hs402.call hs411
  refine Ops.v (Yv.buildS (cs := #[.int .i64 0, .int .i64 0, .int .i64 1, .int .i64 3]) T29 rfl rfl) ?_
  refine Ops.s (Step.call rfl rfl (flat_fun (by omega) (by omega)) (?_) True.intro (by rfl))
  rintro _ w415 ⟨Ad412, c413, rfl, hs415⟩
  replace hs415 := hs411.call hs415
  refine Ops.s (Step.call rfl rfl (above_fun (hs415.rdRow 1 rfl) (Bytes.rep (by omega)) (hs415.rdRow 0 rfl) (Bytes.rep (by omega)) (by omega)) (?_) True.intro (by rfl))
  rintro _ w419 ⟨Ad416, c417, rfl, hs419⟩
  replace hs419 := hs415.call hs419
  refine Ops.v (Yv.move rfl) ?_
  refine Ops.v (Yv.extract rfl rfl) ?_
  refine Ops.v (Yv.extract rfl rfl) ?_
  refine Ops.v (Yv.assign rfl) ?_
  refine Ops.v (Yv.assign rfl) ?_
  refine Ops.nil ?_
  refine k407 _ _ ?_
  refine run_seq fun K420 k420 => ?_
  refine run_region ?_
  refine Ops.s (Step.call rfl rfl (flat_fun (by omega) (by omega)) (?_) True.intro (by rfl))
  rintro _ w424 ⟨Ad421, c422, rfl, hs424⟩
  replace hs424 := hs419.call hs424
  refine Ops.v (Yv.buildS (cs := #[.int .i64 0, .int .i64 0, .int .i64 1, .int .i64 4]) T29 rfl rfl) ?_
  refine Ops.s (Step.call rfl rfl (flat_fun (by omega) (by omega)) (?_) True.intro (by rfl))
  rintro _ w428 ⟨Ad425, c426, rfl, hs428⟩
  replace hs428 := hs424.call hs428
  refine Ops.s (Step.call rfl rfl (above_fun (hs428.rdRow 1 rfl) (Bytes.rep (by omega)) (hs428.rdRow 0 rfl) (Bytes.rep (by omega)) (by omega)) (?_) True.intro (by rfl))
  rintro _ w432 ⟨Ad429, c430, rfl, hs432⟩
  replace hs432 := hs428.call hs432
  refine Ops.v (Yv.move rfl) ?_
  refine Ops.v (Yv.extract rfl rfl) ?_
  refine Ops.v (Yv.extract rfl rfl) ?_
  refine Ops.v (Yv.assign rfl) ?_
  refine Ops.v (Yv.assign rfl) ?_
  refine Ops.nil ?_
  refine k420 _ _ ?_
  refine run_seq fun K433 k433 => ?_
  refine run_region ?_
  refine Ops.s (Step.call rfl rfl (flat_fun (by omega) (by omega)) (?_) True.intro (by rfl))
  rintro _ w437 ⟨Ad434, c435, rfl, hs437⟩
  replace hs437 := hs432.call hs437
  refine Ops.v (Yv.buildS (cs := #[.int .i64 0, .int .i64 0, .int .i64 1, .int .i64 4]) T29 rfl rfl) ?_
  refine Ops.s (Step.call rfl rfl (flat_fun (by omega) (by omega)) (?_) True.intro (by rfl))
  rintro _ w441 ⟨Ad438, c439, rfl, hs441⟩
  replace hs441 := hs437.call hs441
  refine Ops.s (Step.call rfl rfl (above_fun (hs441.rdRow 1 rfl) (Bytes.rep (by omega)) (hs441.rdRow 0 rfl) (Bytes.rep (by omega)) (by omega)) (?_) True.intro (by rfl))
  rintro _ w445 ⟨Ad442, c443, rfl, hs445⟩
  replace hs445 := hs441.call hs445
  refine Ops.v (Yv.move rfl) ?_
  refine Ops.v (Yv.extract rfl rfl) ?_
  refine Ops.v (Yv.extract rfl rfl) ?_
  refine Ops.v (Yv.assign rfl) ?_
  refine Ops.v (Yv.assign rfl) ?_
  refine Ops.nil ?_
  refine k433 _ _ ?_
  refine run_seq fun K446 k446 => ?_
  refine run_region ?_
  refine Ops.s (Step.call rfl rfl (flat_fun (by omega) (by omega)) (?_) True.intro (by rfl))
  rintro _ w450 ⟨Ad447, c448, rfl, hs450⟩
  replace hs450 := hs445.call hs450
  refine Ops.v (Yv.buildS (cs := #[.int .i64 0, .int .i64 0, .int .i64 4, .int .i64 1]) T29 rfl rfl) ?_
  refine Ops.s (Step.call rfl rfl (flat_fun (by omega) (by omega)) (?_) True.intro (by rfl))
  rintro _ w454 ⟨Ad451, c452, rfl, hs454⟩
  replace hs454 := hs450.call hs454
  refine Ops.s (Step.call rfl rfl (left_fun (hs454.rdRow 1 rfl) (Bytes.rep (by omega)) (hs454.rdRow 0 rfl) (Bytes.rep (by omega)) (by omega)) (?_) True.intro (by rfl))
  rintro _ w458 ⟨Ad455, c456, rfl, hs458⟩
  replace hs458 := hs454.call hs458
  refine Ops.v (Yv.move rfl) ?_
  refine Ops.v (Yv.extract rfl rfl) ?_
  refine Ops.v (Yv.extract rfl rfl) ?_
  refine Ops.v (Yv.assign rfl) ?_
  refine Ops.v (Yv.assign rfl) ?_
  refine Ops.nil ?_
  refine k446 _ _ ?_
  refine run_seq fun K459 k459 => ?_
  refine run_region ?_
  refine Ops.s (Step.call rfl rfl (flat_fun (by omega) (by omega)) (?_) True.intro (by rfl))
  rintro _ w463 ⟨Ad460, c461, rfl, hs463⟩
  replace hs463 := hs458.call hs463
  refine Ops.v (Yv.buildS (cs := #[.int .i64 0, .int .i64 0, .int .i64 4, .int .i64 1]) T29 rfl rfl) ?_
  refine Ops.s (Step.call rfl rfl (flat_fun (by omega) (by omega)) (?_) True.intro (by rfl))
  rintro _ w467 ⟨Ad464, c465, rfl, hs467⟩
  replace hs467 := hs463.call hs467
  refine Ops.s (Step.call rfl rfl (left_fun (hs467.rdRow 1 rfl) (Bytes.rep (by omega)) (hs467.rdRow 0 rfl) (Bytes.rep (by omega)) (by omega)) (?_) True.intro (by rfl))
  rintro _ w471 ⟨Ad468, c469, rfl, hs471⟩
  replace hs471 := hs467.call hs471
  refine Ops.v (Yv.move rfl) ?_
  refine Ops.v (Yv.extract rfl rfl) ?_
  refine Ops.v (Yv.extract rfl rfl) ?_
  refine Ops.v (Yv.assign rfl) ?_
  refine Ops.v (Yv.assign rfl) ?_
  refine Ops.nil ?_
  refine k459 _ _ ?_
  refine run_seq fun K472 k472 => ?_
  refine run_region ?_
  refine Ops.v (Yv.buildS (cs := #[.int .i64 0, .int .i64 0, .int .i64 4, .int .i64 1]) T29 rfl rfl) ?_
  refine Ops.s (Step.call rfl rfl (flat_fun (by omega) (by omega)) (?_) True.intro (by rfl))
  rintro _ w476 ⟨Ad473, c474, rfl, hs476⟩
  replace hs476 := hs471.call hs476
  refine Ops.s (Step.call rfl rfl (left_fun (rdNil _) Bytes.nil (hs476.rdRow 0 rfl) (Bytes.rep (by omega)) (by omega)) (?_) True.intro (by rfl))
  rintro _ w480 ⟨Ad477, c478, rfl, hs480⟩
  replace hs480 := hs476.call hs480
  refine Ops.v (Yv.move rfl) ?_
  refine Ops.v (Yv.extract rfl rfl) ?_
  refine Ops.v (Yv.extract rfl rfl) ?_
  refine Ops.v (Yv.assign rfl) ?_
  refine Ops.v (Yv.assign rfl) ?_
  refine Ops.nil ?_
  refine k472 _ _ ?_
  refine run_seq fun K481 k481 => ?_
  refine run_region' _ rfl ?_
  refine Ops.v (Yv.move rfl) ?_
  refine Ops.v (Yv.eq rfl rfl) ?_
  refine Ops.dec1 (of_decide_eq_true (by kernel_rfl)) ?_
  refine Ops.v (Yv.move rfl) ?_
  refine Ops.vg ⟨_, rfl, rfl⟩ (Yv.move rfl) ?_
  refine Ops.vg ⟨_, rfl, rfl⟩ (Yv.eq rfl rfl) ?_
  refine Ops.dec1 (of_decide_eq_true (by kernel_rfl)) ?_
  refine Ops.v (Yv.pick1 rfl rfl) ?_
  refine Ops.v (Yv.move rfl) ?_
  refine Ops.vg ⟨_, rfl, rfl⟩ (Yv.move rfl) ?_
  refine Ops.vg ⟨_, rfl, rfl⟩ (Yv.eq rfl rfl) ?_
  refine Ops.dec1 (of_decide_eq_true (by kernel_rfl)) ?_
  refine Ops.v (Yv.pick1 rfl rfl) ?_
  refine Ops.v (Yv.move rfl) ?_
  refine Ops.vg ⟨_, rfl, rfl⟩ (Yv.move rfl) ?_
  refine Ops.vg ⟨_, rfl, rfl⟩ (Yv.len (by rw [L22]; rfl) rfl) ?_
  refine Ops.vg ⟨_, rfl, rfl⟩ (Yv.eq rfl rfl) ?_
  refine Ops.dec1 (of_decide_eq_true (by kernel_rfl)) ?_
  refine Ops.v (Yv.pick1 rfl rfl) ?_
  refine Ops.v (Yv.move rfl) ?_
  refine Ops.vg ⟨_, rfl, rfl⟩ (Yv.move rfl) ?_
  refine Ops.vg ⟨_, rfl, rfl⟩ (Yv.eq rfl rfl) ?_
  refine Ops.dec1 (of_decide_eq_true (by kernel_rfl)) ?_
  refine Ops.v (Yv.pick1 rfl rfl) ?_
  refine Ops.v (Yv.move rfl) ?_
  refine Ops.vg ⟨_, rfl, rfl⟩ (Yv.move rfl) ?_
  refine Ops.vg ⟨_, rfl, rfl⟩ (Yv.eq rfl rfl) ?_
  refine Ops.dec1 (of_decide_eq_true (by kernel_rfl)) ?_
  refine Ops.v (Yv.pick1 rfl rfl) ?_
  refine Ops.v (Yv.move rfl) ?_
  refine Ops.vg ⟨_, rfl, rfl⟩ (Yv.move rfl) ?_
  refine Ops.vg ⟨_, rfl, rfl⟩ (Yv.eq rfl rfl) ?_
  refine Ops.dec1 (of_decide_eq_true (by kernel_rfl)) ?_
  refine Ops.v (Yv.pick1 rfl rfl) ?_
  refine Ops.v (Yv.move rfl) ?_
  refine Ops.vg ⟨_, rfl, rfl⟩ (Yv.move rfl) ?_
  refine Ops.vg ⟨_, rfl, rfl⟩ (Yv.eq rfl rfl) ?_
  refine Ops.dec1 (of_decide_eq_true (by kernel_rfl)) ?_
  refine Ops.v (Yv.pick1 rfl rfl) ?_
  refine Ops.v (Yv.move rfl) ?_
  refine Ops.vg ⟨_, rfl, rfl⟩ (Yv.move rfl) ?_
  refine Ops.vg ⟨_, rfl, rfl⟩ (Yv.eq rfl rfl) ?_
  refine Ops.dec1 (of_decide_eq_true (by kernel_rfl)) ?_
  refine Ops.v (Yv.pick1 rfl rfl) ?_
  refine Ops.v (Yv.move rfl) ?_
  refine Ops.vg ⟨_, rfl, rfl⟩ (Yv.move rfl) ?_
  refine Ops.vg ⟨_, rfl, rfl⟩ (Yv.eq rfl rfl) ?_
  refine Ops.dec1 (of_decide_eq_true (by kernel_rfl)) ?_
  refine Ops.v (Yv.pick1 rfl rfl) ?_
  refine Ops.v (Yv.assign rfl) ?_
  refine Ops.nil ?_
  refine k481 _ _ ?_
  refine run_seq fun K482 k482 => ?_
  refine run_region ?_
  refine Ops.v (Yv.move rfl) ?_
  refine Ops.s (Step.call rfl rfl (works_fun) (?_) ⟨_, rfl, rfl⟩ (by rfl))
  rintro _ w483 ⟨rfl, hs483⟩
  replace hs483 := hs480.call hs483
  refine Ops.v (Yv.pick1 rfl rfl) ?_
  refine Ops.v (Yv.move rfl) ?_
  refine Ops.vg ⟨_, rfl, rfl⟩ (Yv.move rfl) ?_
  refine Ops.v (Yv.pick1 rfl rfl) ?_
  refine Ops.v (Yv.move rfl) ?_
  refine Ops.vg ⟨_, rfl, rfl⟩ (Yv.move rfl) ?_
  refine Ops.vg ⟨_, rfl, rfl⟩ (Yv.eq rfl rfl) ?_
  refine Ops.dec1 (of_decide_eq_true (by kernel_rfl)) ?_
  refine Ops.v (Yv.pick1 rfl rfl) ?_
  refine Ops.v (Yv.move rfl) ?_
  refine Ops.vg ⟨_, rfl, rfl⟩ (Yv.move rfl) ?_
  refine Ops.s (Step.call rfl rfl (flat_fun (by omega) (by omega)) (?_) ⟨_, rfl, rfl⟩ (by rfl))
  rintro _ w487 ⟨Ad484, c485, rfl, hs487⟩
  replace hs487 := hs483.call hs487
  refine Ops.s (Step.call rfl rfl (eqBytes_fun (hs487.rdRow 41 rfl) (hs487.rdRow 0 rfl)) (?_) ⟨_, rfl, rfl⟩ (by rfl))
  rintro _ w488 ⟨rfl, hs488⟩
  replace hs488 := hs487.call hs488
  refine Ops.dec1 (far_law) ?_
  refine Ops.v (Yv.pick1 rfl rfl) ?_
  refine Ops.v (Yv.move rfl) ?_
  refine Ops.vg ⟨_, rfl, rfl⟩ (Yv.move rfl) ?_
  refine Ops.v (Yv.pick1 rfl rfl) ?_
  refine Ops.v (Yv.assign rfl) ?_
  refine Ops.nil ?_
  refine k482 _ _ ?_
  refine run_ret ?_
  refine ⟨[.bool true], ⟨_, _, rfl, rfl, rfl⟩, ?_⟩
  exact ⟨rfl, hs488.pick [] _ (by decide) rfl⟩

end Go.Proofs.Zed
