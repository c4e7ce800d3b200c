/- The walk of works (chapter 15): samples are blended, paired, moved. -/
import Derived.Test.YtobfcnfkcmhmaaaMx
import Derived.Test.YtobfcnfkcmhmaaaMe
set_option linter.unusedVariables false
set_option linter.unusedSimpArgs false
namespace Go.Proofs.Zed
open Go Go.RowKit Tf
attribute [local irreducible] Try.prog

set_option maxHeartbeats 4000000 in
theorem works_fun {w : World}  : Fun Try.prog 16 [] w fun v w' => v = .bool true ∧ HS w [] w' := by
  refine fun_run (m := 82) (rs := [.tmp 0]) Try.func16 rfl rfl rfl rfl rfl ?_
  have hs0 := HS.start w
  refine run_seq fun K1 k1 => ?_
  refine run_region ?_
  refine Ops.v (Yv.assign rfl) ?_
  refine Ops.nil ?_
  refine k1 _ _ ?_
  refine run_seq fun K2 k2 => ?_
  refine run_region ?_
  refine Ops.s (Step.call rfl rfl (flat_fun (by omega) (by omega)) (?_) True.intro (by rfl))
  rintro _ w6 ⟨Ad3, c4, rfl, hs6⟩
  replace hs6 := hs0.call hs6
  refine Ops.v (Yv.buildS (cs := #[.int .i64 0, .int .i64 0, .int .i64 1, .int .i64 4]) T29 rfl rfl) ?_
  refine Ops.s (Step.call rfl rfl (flat_fun (by omega) (by omega)) (?_) True.intro (by rfl))
  rintro _ w10 ⟨Ad7, c8, rfl, hs10⟩
  replace hs10 := hs6.call hs10
  refine Ops.s (Step.call rfl rfl (above_fun (hs10.rdRow 1 rfl) (Bytes.rep (by omega)) (hs10.rdRow 0 rfl) (Bytes.rep (by omega)) (by omega)) (?_) True.intro (by rfl))
  rintro _ w14 ⟨Ad11, c12, rfl, hs14⟩
  replace hs14 := hs10.call hs14
  refine Ops.v (Yv.move rfl) ?_
  refine Ops.v (Yv.extract rfl rfl) ?_
  refine Ops.v (Yv.extract rfl rfl) ?_
  refine Ops.v (Yv.assign rfl) ?_
  refine Ops.v (Yv.assign rfl) ?_
  refine Ops.nil ?_
  refine k2 _ _ ?_
  refine run_seq fun K15 k15 => ?_
  refine run_region ?_
  refine Ops.s (Step.call rfl rfl (flat_fun (by omega) (by omega)) (?_) True.intro (by rfl))
  rintro _ w19 ⟨Ad16, c17, rfl, hs19⟩
  replace hs19 := hs14.call hs19
  refine Ops.v (Yv.buildS (cs := #[.int .i64 0, .int .i64 1, .int .i64 4, .int .i64 1]) T29 rfl rfl) ?_
  refine Ops.s (Step.call rfl rfl (flat_fun (by omega) (by omega)) (?_) True.intro (by rfl))
  rintro _ w23 ⟨Ad20, c21, rfl, hs23⟩
  replace hs23 := hs19.call hs23
  refine Ops.s (Step.call rfl rfl (left_fun (hs23.rdRow 1 rfl) (Bytes.rep (by omega)) (hs23.rdRow 0 rfl) (Bytes.rep (by omega)) (by omega)) (?_) True.intro (by rfl))
  rintro _ w27 ⟨Ad24, c25, rfl, hs27⟩
  replace hs27 := hs23.call hs27
  refine Ops.v (Yv.move rfl) ?_
  refine Ops.v (Yv.extract rfl rfl) ?_
  refine Ops.v (Yv.extract rfl rfl) ?_
  refine Ops.v (Yv.assign rfl) ?_
  refine Ops.v (Yv.assign rfl) ?_
  refine Ops.nil ?_
  refine k15 _ _ ?_
  refine run_seq fun K28 k28 => ?_
  refine run_region ?_
  refine Ops.s (Step.lit (ps := [(0, .int .u8 0), (1, .int .u8 1), (2, .int .u8 255)]) (cs := [.int .u8 0, .int .u8 1, .int .u8 255]) hs27 L22 ⟨_, Z5, rfl⟩ rfl (by decide) (by decide) (by kernel_rfl) rfl (by decide) (fun b30 w29 hs29 hb29 => ?_) True.intro (by rfl))
  replace hs29 : HS w [.row (some ⟨b30, 0, none⟩) 3 3 (u8s [0, 1, 255]) 5 1, .row Ad24 ((blendOut false (List.replicate 8 100) (List.replicate 4 200) 4 0 1 4 1 4).length) c25 (u8s (blendOut false (List.replicate 8 100) (List.replicate 4 200) 4 0 1 4 1 4)) 5 1, .row Ad20 4 c21 (u8s (List.replicate 4 200)) 5 1, .row Ad16 8 c17 (u8s (List.replicate 8 100)) 5 1, .row Ad11 ((blendOut true (List.replicate 8 100) (List.replicate 4 0) 2 0 0 1 4 4).length) c12 (u8s (blendOut true (List.replicate 8 100) (List.replicate 4 0) 2 0 0 1 4 4)) 5 1, .row Ad7 4 c8 (u8s (List.replicate 4 0)) 5 1, .row Ad3 8 c4 (u8s (List.replicate 8 100)) 5 1] w29 := hs29
  have by32 : Bytes [0, 1, 255] := by intro x hx_; simp only [List.mem_cons, List.not_mem_nil, or_false] at hx_; omega
  refine Ops.s (Step.lit (ps := [(0, .int .u8 1), (1, .int .u8 2), (2, .int .u8 255)]) (cs := [.int .u8 1, .int .u8 2, .int .u8 255]) hs29 L22 ⟨_, Z5, rfl⟩ rfl (by decide) (by decide) (by kernel_rfl) rfl (by decide) (fun b34 w33 hs33 hb33 => ?_) True.intro (by rfl))
  replace hs33 : HS w [.row (some ⟨b34, 0, none⟩) 3 3 (u8s [1, 2, 255]) 5 1, .row (some ⟨b30, 0, none⟩) 3 3 (u8s [0, 1, 255]) 5 1, .row Ad24 ((blendOut false (List.replicate 8 100) (List.replicate 4 200) 4 0 1 4 1 4).length) c25 (u8s (blendOut false (List.replicate 8 100) (List.replicate 4 200) 4 0 1 4 1 4)) 5 1, .row Ad20 4 c21 (u8s (List.replicate 4 200)) 5 1, .row Ad16 8 c17 (u8s (List.replicate 8 100)) 5 1, .row Ad11 ((blendOut true (List.replicate 8 100) (List.replicate 4 0) 2 0 0 1 4 4).length) c12 (u8s (blendOut true (List.replicate 8 100) (List.replicate 4 0) 2 0 0 1 4 4)) 5 1, .row Ad7 4 c8 (u8s (List.replicate 4 0)) 5 1, .row Ad3 8 c4 (u8s (List.replicate 8 100)) 5 1] w33 := hs33
  have by36 : Bytes [1, 2, 255] := by intro x hx_; simp only [List.mem_cons, List.not_mem_nil, or_false] at hx_; omega
  refine Ops.s (Step.call rfl rfl (pair_fun (hs33.rdRow 1 rfl) by32 (hs33.rdRow 0 rfl) by36 (by omega)) (?_) True.intro (by rfl))
  rintro _ w40 ⟨Ad37, c38, rfl, hs40⟩
  replace hs40 := hs33.call hs40
  refine Ops.v (Yv.move rfl) ?_
  refine Ops.v (Yv.extract rfl rfl) ?_
  refine Ops.v (Yv.extract rfl rfl) ?_
  refine Ops.v (Yv.assign rfl) ?_
  refine Ops.v (Yv.assign rfl) ?_
  refine Ops.nil ?_
  refine k28 _ _ ?_
  refine run_seq fun K41 k41 => ?_
  refine run_region ?_
  refine Ops.s (Step.call rfl rfl (frame_good (by decide) (by omega)) (?_) True.intro (by rfl))
  rintro _ w51 ⟨Ad42, c43, Ad45, c46, Ad48, c49, rfl, hs51⟩
  replace hs51 := hs40.call hs51
  refine Ops.v (Yv.move rfl) ?_
  refine Ops.v (Yv.extract rfl rfl) ?_
  refine Ops.v (Yv.extract rfl rfl) ?_
  refine Ops.s (Step.alloc (cs := [.int .i64 0, .int .i64 0, .slice none 0 0, .int .i64 0, .int .i64 0, .slice none 0 0, .int .i64 0, .int .i64 0, .slice none 0 0]) hs51 Z27 rfl (fun b52 w53 hs53 hb53 => ?_) True.intro (by rfl))
  refine Ops.s (Step.store (vs := [.int .i64 16, .int .i64 16, .slice Ad42 256 c43, .int .i64 8, .int .i64 8, .slice Ad45 64 c46, .int .i64 8, .int .i64 8, .slice Ad48 64 c49]) 0 hs53 rfl rfl rfl rfl S27 (Nat.le_of_ble_eq_true rfl) rfl (fun w55 hs55 => ?_) True.intro)
  replace hs55 : HS _ [.blk _ [_, _, _, _, _, _, _, _, _] _, .row _ _ _ _ _ _, .row _ _ _ _ _ _, .row _ _ _ _ _ _, .row _ _ _ _ _ _, .row _ _ _ _ _ _, .row _ _ _ _ _ _, .row _ _ _ _ _ _, .row _ _ _ _ _ _, .row _ _ _ _ _ _, .row _ _ _ _ _ _, .row _ _ _ _ _ _, .row _ _ _ _ _ _] _ := hs55
  refine Ops.v (Yv.assign rfl) ?_
  refine Ops.nil ?_
  refine k41 _ _ ?_
  refine run_seq fun K56 k56 => ?_
  refine run_region ?_
  refine Ops.v (Yv.loadn (cs := [.int .i64 16, .int .i64 16, .slice Ad42 256 c43, .int .i64 8, .int .i64 8, .slice Ad45 64 c46, .int .i64 8, .int .i64 8, .slice Ad48 64 c49]) A27 S27 rfl (now (hs55.cells 0 rfl 0 9))) ?_
  refine Ops.v (Yv.buildS (cs := #[.int .i64 0, .int .i64 0, .int .i64 4, .int .i64 4]) T29 rfl rfl) ?_
  refine Ops.v (Yv.buildS (cs := #[.int .i64 5, .int .i64 (-7)]) T31 rfl rfl) ?_
  have hcap57 := hs55.cap 1 rfl
  have hcap58 := hs55.cap 2 rfl
  have hcap59 := hs55.cap 3 rfl
  refine Ops.s (Step.call rfl rfl (single_fun (hs55.rdRow 1 rfl) (Bytes.rep (by omega)) (hs55.rdRow 2 rfl) (Bytes.rep (by omega)) (hs55.rdRow 3 rfl) (Bytes.rep (by omega)) hcap57 hcap58 hcap59) (?_) True.intro (by rfl))
  rintro _ w63 ⟨Ad60, c61, rfl, hs63⟩
  replace hs63 := hs55.call hs63
  refine Ops.v (Yv.move rfl) ?_
  refine Ops.v (Yv.extract rfl rfl) ?_
  refine Ops.v (Yv.extract rfl rfl) ?_
  refine Ops.v (Yv.assign rfl) ?_
  refine Ops.v (Yv.assign rfl) ?_
  refine Ops.nil ?_
  refine k56 _ _ ?_
  refine run_seq fun K64 k64 => ?_
  refine run_region ?_
  refine Ops.v (Yv.move rfl) ?_
  refine Ops.v (Yv.eq rfl rfl) ?_
  refine Ops.dec1 (of_decide_eq_true (by kernel_rfl)) ?_
  refine Ops.v (Yv.move rfl) ?_
  refine Ops.vg ⟨_, rfl, rfl⟩ (Yv.move rfl) ?_
  refine Ops.vg ⟨_, rfl, rfl⟩ (Yv.eq rfl rfl) ?_
  refine Ops.dec1 (of_decide_eq_true (by kernel_rfl)) ?_
  refine Ops.v (Yv.pick1 rfl rfl) ?_
  refine Ops.v (Yv.move rfl) ?_
  refine Ops.vg ⟨_, rfl, rfl⟩ (Yv.move rfl) ?_
  refine Ops.vg ⟨_, rfl, rfl⟩ (Yv.eq rfl rfl) ?_
  refine Ops.dec1 (of_decide_eq_true (by kernel_rfl)) ?_
  refine Ops.v (Yv.pick1 rfl rfl) ?_
  refine Ops.v (Yv.move rfl) ?_
  refine Ops.vg ⟨_, rfl, rfl⟩ (Yv.move rfl) ?_
  refine Ops.vg ⟨_, rfl, rfl⟩ ((Yv.eq rfl rfl).to (v := .bool true) (by rfl)) ?_
  refine Ops.v (Yv.pick1 rfl rfl) ?_
  refine Ops.v (Yv.move rfl) ?_
  refine Ops.vg ⟨_, rfl, rfl⟩ (Yv.move rfl) ?_
  refine Ops.vg ⟨_, rfl, rfl⟩ (Yv.eq rfl rfl) ?_
  refine Ops.dec1 (of_decide_eq_true (by kernel_rfl)) ?_
  refine Ops.v (Yv.pick1 rfl rfl) ?_
  refine Ops.v (Yv.assign rfl) ?_
  refine Ops.nil ?_
  refine k64 _ _ ?_
  refine run_seq fun K65 k65 => ?_
  refine run_region ?_
  refine Ops.v (Yv.move rfl) ?_
  refine Ops.v (Yv.move rfl) ?_
  refine Ops.vg ⟨_, rfl, rfl⟩ (Yv.move rfl) ?_
  refine Ops.s (Step.lit (ps := [(0, .int .u8 56), (1, .int .u8 100), (2, .int .u8 69), (3, .int .u8 100), (4, .int .u8 81), (5, .int .u8 100), (6, .int .u8 94), (7, .int .u8 100)]) (cs := [.int .u8 56, .int .u8 100, .int .u8 69, .int .u8 100, .int .u8 81, .int .u8 100, .int .u8 94, .int .u8 100]) hs63 L22 ⟨_, Z5, rfl⟩ rfl (by decide) (by decide) (by kernel_rfl) rfl (by decide) (fun b67 w66 hs66 hb66 => ?_) ⟨_, rfl, rfl⟩ (by rfl))
  replace hs66 : HS w [.row (some ⟨b67, 0, none⟩) 8 8 (u8s [56, 100, 69, 100, 81, 100, 94, 100]) 5 1, .row Ad60 ((singleOut 16 16 256 8 8 64 8 8 64 (List.replicate 256 9) (List.replicate 64 9) (List.replicate 64 9) 1 0 0 4 4 5 (-7) 0).length) c61 (u8s (singleOut 16 16 256 8 8 64 8 8 64 (List.replicate 256 9) (List.replicate 64 9) (List.replicate 64 9) 1 0 0 4 4 5 (-7) 0)) 5 1, .blk b52 [.int .i64 16, .int .i64 16, .slice Ad42 256 c43, .int .i64 8, .int .i64 8, .slice Ad45 64 c46, .int .i64 8, .int .i64 8, .slice Ad48 64 c49] 27, .row Ad42 256 c43 (u8s (List.replicate 256 9)) 5 1, .row Ad45 64 c46 (u8s (List.replicate 64 9)) 5 1, .row Ad48 64 c49 (u8s (List.replicate 64 9)) 5 1, .row Ad37 ((pairOut [0, 1, 255] [1, 2, 255]).length) c38 (u8s (pairOut [0, 1, 255] [1, 2, 255])) 5 1, .row (some ⟨b34, 0, none⟩) 3 3 (u8s [1, 2, 255]) 5 1, .row (some ⟨b30, 0, none⟩) 3 3 (u8s [0, 1, 255]) 5 1, .row Ad24 ((blendOut false (List.replicate 8 100) (List.replicate 4 200) 4 0 1 4 1 4).length) c25 (u8s (blendOut false (List.replicate 8 100) (List.replicate 4 200) 4 0 1 4 1 4)) 5 1, .row Ad20 4 c21 (u8s (List.replicate 4 200)) 5 1, .row Ad16 8 c17 (u8s (List.replicate 8 100)) 5 1, .row Ad11 ((blendOut true (List.replicate 8 100) (List.replicate 4 0) 2 0 0 1 4 4).length) c12 (u8s (blendOut true (List.replicate 8 100) (List.replicate 4 0) 2 0 0 1 4 4)) 5 1, .row Ad7 4 c8 (u8s (List.replicate 4 0)) 5 1, .row Ad3 8 c4 (u8s (List.replicate 8 100)) 5 1] w66 := hs66
  have by69 : Bytes [56, 100, 69, 100, 81, 100, 94, 100] := by intro x hx_; simp only [List.mem_cons, List.not_mem_nil, or_false] at hx_; omega
  refine Ops.s (Step.call rfl rfl (eqBytes_fun (hs66.rdRow 12 rfl) (hs66.rdRow 0 rfl)) (?_) ⟨_, rfl, rfl⟩ (by rfl))
  rintro _ w70 ⟨rfl, hs70⟩
  replace hs70 := hs66.call hs70
  refine Ops.dec1 (of_decide_eq_true (by kernel_rfl)) ?_
  refine Ops.v (Yv.pick1 rfl rfl) ?_
  refine Ops.v (Yv.move rfl) ?_
  refine Ops.vg ⟨_, rfl, rfl⟩ (Yv.move rfl) ?_
  refine Ops.s (Step.lit (ps := [(0, .int .u8 100), (1, .int .u8 100), (2, .int .u8 100), (3, .int .u8 100), (4, .int .u8 144), (5, .int .u8 131), (6, .int .u8 119), (7, .int .u8 106)]) (cs := [.int .u8 100, .int .u8 100, .int .u8 100, .int .u8 100, .int .u8 144, .int .u8 131, .int .u8 119, .int .u8 106]) hs70 L22 ⟨_, Z5, rfl⟩ rfl (by decide) (by decide) (by kernel_rfl) rfl (by decide) (fun b72 w71 hs71 hb71 => ?_) ⟨_, rfl, rfl⟩ (by rfl))
  replace hs71 : HS w [.row (some ⟨b72, 0, none⟩) 8 8 (u8s [100, 100, 100, 100, 144, 131, 119, 106]) 5 1, .row (some ⟨b67, 0, none⟩) 8 8 (u8s [56, 100, 69, 100, 81, 100, 94, 100]) 5 1, .row Ad60 ((singleOut 16 16 256 8 8 64 8 8 64 (List.replicate 256 9) (List.replicate 64 9) (List.replicate 64 9) 1 0 0 4 4 5 (-7) 0).length) c61 (u8s (singleOut 16 16 256 8 8 64 8 8 64 (List.replicate 256 9) (List.replicate 64 9) (List.replicate 64 9) 1 0 0 4 4 5 (-7) 0)) 5 1, .blk b52 [.int .i64 16, .int .i64 16, .slice Ad42 256 c43, .int .i64 8, .int .i64 8, .slice Ad45 64 c46, .int .i64 8, .int .i64 8, .slice Ad48 64 c49] 27, .row Ad42 256 c43 (u8s (List.replicate 256 9)) 5 1, .row Ad45 64 c46 (u8s (List.replicate 64 9)) 5 1, .row Ad48 64 c49 (u8s (List.replicate 64 9)) 5 1, .row Ad37 ((pairOut [0, 1, 255] [1, 2, 255]).length) c38 (u8s (pairOut [0, 1, 255] [1, 2, 255])) 5 1, .row (some ⟨b34, 0, none⟩) 3 3 (u8s [1, 2, 255]) 5 1, .row (some ⟨b30, 0, none⟩) 3 3 (u8s [0, 1, 255]) 5 1, .row Ad24 ((blendOut false (List.replicate 8 100) (List.replicate 4 200) 4 0 1 4 1 4).length) c25 (u8s (blendOut false (List.replicate 8 100) (List.replicate 4 200) 4 0 1 4 1 4)) 5 1, .row Ad20 4 c21 (u8s (List.replicate 4 200)) 5 1, .row Ad16 8 c17 (u8s (List.replicate 8 100)) 5 1, .row Ad11 ((blendOut true (List.replicate 8 100) (List.replicate 4 0) 2 0 0 1 4 4).length) c12 (u8s (blendOut true (List.replicate 8 100) (List.replicate 4 0) 2 0 0 1 4 4)) 5 1, .row Ad7 4 c8 (u8s (List.replicate 4 0)) 5 1, .row Ad3 8 c4 (u8s (List.replicate 8 100)) 5 1] w71 := hs71
  have by74 : Bytes [100, 100, 100, 100, 144, 131, 119, 106] := by intro x hx_; simp only [List.mem_cons, List.not_mem_nil, or_false] at hx_; omega
  refine Ops.s (Step.call rfl rfl (eqBytes_fun (hs71.rdRow 10 rfl) (hs71.rdRow 0 rfl)) (?_) ⟨_, rfl, rfl⟩ (by rfl))
  rintro _ w75 ⟨rfl, hs75⟩
  replace hs75 := hs71.call hs75
  refine Ops.dec1 (of_decide_eq_true (by kernel_rfl)) ?_
  refine Ops.v (Yv.pick1 rfl rfl) ?_
  refine Ops.v (Yv.move rfl) ?_
  refine Ops.vg ⟨_, rfl, rfl⟩ (Yv.move rfl) ?_
  refine Ops.s (Step.lit (ps := [(0, .int .u8 1), (1, .int .u8 2), (2, .int .u8 255)]) (cs := [.int .u8 1, .int .u8 2, .int .u8 255]) hs75 L22 ⟨_, Z5, rfl⟩ rfl (by decide) (by decide) (by kernel_rfl) rfl (by decide) (fun b77 w76 hs76 hb76 => ?_) ⟨_, rfl, rfl⟩ (by rfl))
  replace hs76 : HS w [.row (some ⟨b77, 0, none⟩) 3 3 (u8s [1, 2, 255]) 5 1, .row (some ⟨b72, 0, none⟩) 8 8 (u8s [100, 100, 100, 100, 144, 131, 119, 106]) 5 1, .row (some ⟨b67, 0, none⟩) 8 8 (u8s [56, 100, 69, 100, 81, 100, 94, 100]) 5 1, .row Ad60 ((singleOut 16 16 256 8 8 64 8 8 64 (List.replicate 256 9) (List.replicate 64 9) (List.replicate 64 9) 1 0 0 4 4 5 (-7) 0).length) c61 (u8s (singleOut 16 16 256 8 8 64 8 8 64 (List.replicate 256 9) (List.replicate 64 9) (List.replicate 64 9) 1 0 0 4 4 5 (-7) 0)) 5 1, .blk b52 [.int .i64 16, .int .i64 16, .slice Ad42 256 c43, .int .i64 8, .int .i64 8, .slice Ad45 64 c46, .int .i64 8, .int .i64 8, .slice Ad48 64 c49] 27, .row Ad42 256 c43 (u8s (List.replicate 256 9)) 5 1, .row Ad45 64 c46 (u8s (List.replicate 64 9)) 5 1, .row Ad48 64 c49 (u8s (List.replicate 64 9)) 5 1, .row Ad37 ((pairOut [0, 1, 255] [1, 2, 255]).length) c38 (u8s (pairOut [0, 1, 255] [1, 2, 255])) 5 1, .row (some ⟨b34, 0, none⟩) 3 3 (u8s [1, 2, 255]) 5 1, .row (some ⟨b30, 0, none⟩) 3 3 (u8s [0, 1, 255]) 5 1, .row Ad24 ((blendOut false (List.replicate 8 100) (List.replicate 4 200) 4 0 1 4 1 4).length) c25 (u8s (blendOut false (List.replicate 8 100) (List.replicate 4 200) 4 0 1 4 1 4)) 5 1, .row Ad20 4 c21 (u8s (List.replicate 4 200)) 5 1, .row Ad16 8 c17 (u8s (List.replicate 8 100)) 5 1, .row Ad11 ((blendOut true (List.replicate 8 100) (List.replicate 4 0) 2 0 0 1 4 4).length) c12 (u8s (blendOut true (List.replicate 8 100) (List.replicate 4 0) 2 0 0 1 4 4)) 5 1, .row Ad7 4 c8 (u8s (List.replicate 4 0)) 5 1, .row Ad3 8 c4 (u8s (List.replicate 8 100)) 5 1] w76 := hs76
  have by79 : Bytes [1, 2, 255] := by intro x hx_; simp only [List.mem_cons, List.not_mem_nil, or_false] at hx_; omega
  refine Ops.s (Step.call rfl rfl (eqBytes_fun (hs76.rdRow 8 rfl) (hs76.rdRow 0 rfl)) (?_) ⟨_, rfl, rfl⟩ (by rfl))
  rintro _ w80 ⟨rfl, hs80⟩
  replace hs80 := hs76.call hs80
  refine Ops.dec1 (of_decide_eq_true (by kernel_rfl)) ?_
  refine Ops.v (Yv.pick1 rfl rfl) ?_
  refine Ops.v (Yv.move rfl) ?_
  refine Ops.vg ⟨_, rfl, rfl⟩ (Yv.move rfl) ?_
  refine Ops.s (Step.call rfl rfl (flat_fun (by omega) (by omega)) (?_) ⟨_, rfl, rfl⟩ (by rfl))
  rintro _ w84 ⟨Ad81, c82, rfl, hs84⟩
  replace hs84 := hs80.call hs84
  refine Ops.s (Step.call rfl rfl (eqBytes_fun (hs84.rdRow 4 rfl) (hs84.rdRow 0 rfl)) (?_) ⟨_, rfl, rfl⟩ (by rfl))
  rintro _ w85 ⟨rfl, hs85⟩
  replace hs85 := hs84.call hs85
  refine Ops.v (Yv.pick1 rfl rfl) ?_
  refine Ops.v (Yv.assign rfl) ?_
  refine Ops.nil ?_
  refine k65 _ _ ?_
  refine run_ret ?_
  refine ⟨[.bool (decide ((singleOut 16 16 256 8 8 64 8 8 64 (List.replicate 256 9) (List.replicate 64 9) (List.replicate 64 9) 1 0 0 4 4 5 (-7) 0) = (List.replicate 16 9)))], ⟨_, _, rfl, rfl, rfl⟩, ?_⟩
  exact ⟨congrArg Value.bool (by kernel_rfl), hs85.pick [] _ (by decide) rfl⟩

end Go.Proofs.Zed
