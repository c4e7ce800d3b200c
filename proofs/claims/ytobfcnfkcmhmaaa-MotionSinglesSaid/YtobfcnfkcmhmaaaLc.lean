/- The walk of MotionSingles. -/
import Derived.Test.YtobfcnfkcmhmaaaMy
set_option linter.unusedVariables false
set_option linter.unusedSimpArgs false
namespace Go.Proofs.Zed
open Go Go.RowKit Tf
attribute [local irreducible] Try.prog

set_option maxHeartbeats 4000000 in
theorem MotionSingles_fun {w : World} {W0 H0 W1 H1 W2 H2 : Int} {A0 A1 A2 : Option Addr} {m0 m1 m2 c0 c1 c2 : Nat} {xs0 xs1 xs2 : List Int} (hr0 : Rd w A0 m0 1 (u8s xs0)) (hx0 : Bytes xs0) (hr1 : Rd w A1 m1 1 (u8s xs1)) (hx1 : Bytes xs1) (hr2 : Rd w A2 m2 1 (u8s xs2)) (hx2 : Bytes xs2) (hc0 : m0 ≤ c0) (hc1 : m1 ≤ c1) (hc2 : m2 ≤ c2) (hz0 : m0 * 1 ≤ 140737488351232) (hz1 : m1 * 1 ≤ 140737488351232) (hz2 : m2 * 1 ≤ 140737488351232) {n X Y bw bh vx vy kd : Int} : Fun Try.prog 3 [.agg #[.int .i64 W0, .int .i64 H0, .slice A0 m0 c0, .int .i64 W1, .int .i64 H1, .slice A1 m1 c1, .int .i64 W2, .int .i64 H2, .slice A2 m2 c2], .agg #[.int .i64 n, .int .i64 X, .int .i64 Y, .int .i64 bw, .int .i64 bh, .int .i64 vx, .int .i64 vy, .int .i64 kd]] w fun v w' => v = .bool true ∧ HS w [] w' := by
  refine fun_run (m := 51) (rs := [.tmp 4]) Try.func3 rfl rfl rfl rfl rfl ?_
  have hs0 := HS.start w
  have hbig0 := hr0.big
  have hlen_xs0 : xs0.length = m0 := by have := hr0.len; rw [u8s_length] at this; omega
  have hbig1 := hr1.big
  have hlen_xs1 : xs1.length = m1 := by have := hr1.len; rw [u8s_length] at this; omega
  have hbig2 := hr2.big
  have hlen_xs2 : xs2.length = m2 := by have := hr2.len; rw [u8s_length] at this; omega
  refine run_seq fun K1 k1 => ?_
  refine run_region ?_
  refine Ops.s (Step.box (cs := [.int .i64 W0, .int .i64 H0, .slice A0 m0 c0, .int .i64 W1, .int .i64 H1, .slice A1 m1 c1, .int .i64 W2, .int .i64 H2, .slice A2 m2 c2]) hs0 rfl rfl (fun b2 w3 hs3 hb3 => ?_) True.intro (by rfl))
  refine Ops.s (Step.box (cs := [.int .i64 n, .int .i64 X, .int .i64 Y, .int .i64 bw, .int .i64 bh, .int .i64 vx, .int .i64 vy, .int .i64 kd]) hs3 rfl rfl (fun b5 w6 hs6 hb6 => ?_) True.intro (by rfl))
  refine Ops.v (Yv.assign rfl) ?_
  refine Ops.nil ?_
  refine k1 _ _ ?_
  refine run_seq fun K8 k8 => ?_
  refine run_region ?_
  refine Ops.v (Yv.loadn (cs := [.int .i64 W0, .int .i64 H0, .slice A0 m0 c0, .int .i64 W1, .int .i64 H1, .slice A1 m1 c1, .int .i64 W2, .int .i64 H2, .slice A2 m2 c2]) A27 S27 rfl (now (hs6.cells 1 rfl 0 9))) ?_
  refine Ops.s (Step.call rfl rfl (copyFrame_fun (hs6.rd hr0) (hs6.rd hr1) (hs6.rd hr2) (by omega)) (?_) True.intro (by rfl))
  rintro _ w18 ⟨Ad9, c10, Ad12, c13, Ad15, c16, rfl, hs18⟩
  replace hs18 := hs6.call hs18
  refine Ops.s (Step.alloc (cs := [.int .i64 0, .int .i64 0, .slice none 0 0, .int .i64 0, .int .i64 0, .slice none 0 0, .int .i64 0, .int .i64 0, .slice none 0 0]) hs18 Z27 rfl (fun b19 w20 hs20 hb20 => ?_) True.intro (by rfl))
  refine Ops.s (Step.store (vs := [.int .i64 W0, .int .i64 H0, .slice Ad9 m0 c10, .int .i64 W1, .int .i64 H1, .slice Ad12 m1 c13, .int .i64 W2, .int .i64 H2, .slice Ad15 m2 c16]) 0 hs20 rfl rfl rfl rfl S27 (Nat.le_of_ble_eq_true rfl) rfl (fun w22 hs22 => ?_) True.intro)
  replace hs22 : HS _ [.blk _ [_, _, _, _, _, _, _, _, _] _, .row _ _ _ _ _ _, .row _ _ _ _ _ _, .row _ _ _ _ _ _, .blk _ [_, _, _, _, _, _, _, _] _, .blk _ [_, _, _, _, _, _, _, _, _] _] _ := hs22
  refine Ops.nil ?_
  refine k8 _ _ ?_
  refine run_seq fun K23 k23 => ?_
  refine run_region ?_
  refine Ops.v (Yv.loadn (cs := [.int .i64 W0, .int .i64 H0, .slice Ad9 m0 c10, .int .i64 W1, .int .i64 H1, .slice Ad12 m1 c13, .int .i64 W2, .int .i64 H2, .slice Ad15 m2 c16]) A27 S27 rfl (now (hs22.cells 0 rfl 0 9))) ?_
  refine Ops.v (Yv.fld F33_0 rfl) ?_
  refine Ops.v (Yv.load A3 rfl (now (hs22.cell 4 rfl 0 rfl))) ?_
  refine Ops.v (Yv.fld F33_1 rfl) ?_
  refine Ops.v (Yv.loadn (cs := [.int .i64 X, .int .i64 Y, .int .i64 bw, .int .i64 bh]) A29 S29 rfl (now (hs22.cells 4 rfl 1 4))) ?_
  refine Ops.v (Yv.fld F33_2 rfl) ?_
  refine Ops.v (Yv.loadn (cs := [.int .i64 vx, .int .i64 vy]) A31 S31 rfl (now (hs22.cells 4 rfl 5 2))) ?_
  refine Ops.v (Yv.fld F33_3 rfl) ?_
  refine Ops.v (Yv.load A3 rfl (now (hs22.cell 4 rfl 7 rfl))) ?_
  have hcap24 := hs22.cap 1 rfl
  have hcap25 := hs22.cap 2 rfl
  have hcap26 := hs22.cap 3 rfl
  refine Ops.s (Step.call rfl rfl (single_fun (hs22.rdRow 1 rfl) hx0 (hs22.rdRow 2 rfl) hx1 (hs22.rdRow 3 rfl) hx2 hcap24 hcap25 hcap26) (?_) True.intro (by rfl))
  rintro _ w30 ⟨Ad27, c28, rfl, hs30⟩
  replace hs30 := hs22.call hs30
  refine Ops.v (Yv.move rfl) ?_
  refine Ops.v (Yv.extract rfl rfl) ?_
  refine Ops.v (Yv.extract rfl rfl) ?_
  refine Ops.v (Yv.assign rfl) ?_
  refine Ops.v (Yv.assign rfl) ?_
  refine Ops.nil ?_
  refine k23 _ _ ?_
  refine run_seq fun K31 k31 => ?_
  refine run_region ?_
  refine Ops.v (Yv.loadn (cs := [.int .i64 W0, .int .i64 H0, .slice A0 m0 c0, .int .i64 W1, .int .i64 H1, .slice A1 m1 c1, .int .i64 W2, .int .i64 H2, .slice A2 m2 c2]) A27 S27 rfl (now (hs30.cells 6 rfl 0 9))) ?_
  refine Ops.v (Yv.fld F33_0 rfl) ?_
  refine Ops.v (Yv.load A3 rfl (now (hs30.cell 5 rfl 0 rfl))) ?_
  refine Ops.v (Yv.fld F33_1 rfl) ?_
  refine Ops.v (Yv.loadn (cs := [.int .i64 X, .int .i64 Y, .int .i64 bw, .int .i64 bh]) A29 S29 rfl (now (hs30.cells 5 rfl 1 4))) ?_
  refine Ops.v (Yv.fld F33_2 rfl) ?_
  refine Ops.v (Yv.loadn (cs := [.int .i64 vx, .int .i64 vy]) A31 S31 rfl (now (hs30.cells 5 rfl 5 2))) ?_
  refine Ops.v (Yv.fld F33_3 rfl) ?_
  refine Ops.v (Yv.load A3 rfl (now (hs30.cell 5 rfl 7 rfl))) ?_
  refine Ops.s (Step.call rfl rfl (rsingle_fun (hs30.rd hr0) hx0 (hs30.rd hr1) hx1 (hs30.rd hr2) hx2 (by omega) (by omega) (by omega)) (?_) True.intro (by rfl))
  rintro _ w35 ⟨Ad32, c33, rfl, hs35⟩
  replace hs35 := hs30.call hs35
  refine Ops.v (Yv.move rfl) ?_
  refine Ops.v (Yv.extract rfl rfl) ?_
  refine Ops.v (Yv.extract rfl rfl) ?_
  refine Ops.v (Yv.assign rfl) ?_
  refine Ops.v (Yv.assign rfl) ?_
  refine Ops.nil ?_
  refine k31 _ _ ?_
  refine run_seq fun K36 k36 => ?_
  refine run_region ?_
  refine Ops.v (Yv.move rfl) ?_
  refine Ops.v (Yv.move rfl) ?_
  refine Ops.v (Yv.move rfl) ?_
  refine Ops.v (Yv.move rfl) ?_
  refine Ops.s (Step.call rfl rfl (told_fun (hs35.pick [1, 0, 2, 3, 4, 5, 6, 7] [.row Ad27 ((singleOut W0 H0 m0 W1 H1 m1 W2 H2 m2 xs0 xs1 xs2 n X Y bw bh vx vy kd).length) c28 (u8s (singleOut W0 H0 m0 W1 H1 m1 W2 H2 m2 xs0 xs1 xs2 n X Y bw bh vx vy kd)) 5 1, .row Ad32 ((singleOut W0 H0 m0 W1 H1 m1 W2 H2 m2 xs0 xs1 xs2 n X Y bw bh vx vy kd).length) c33 (u8s (singleOut W0 H0 m0 W1 H1 m1 W2 H2 m2 xs0 xs1 xs2 n X Y bw bh vx vy kd)) 5 1, .blk b19 [.int .i64 W0, .int .i64 H0, .slice Ad9 m0 c10, .int .i64 W1, .int .i64 H1, .slice Ad12 m1 c13, .int .i64 W2, .int .i64 H2, .slice Ad15 m2 c16] 27, .row Ad9 m0 c10 (u8s xs0) 5 1, .row Ad12 m1 c13 (u8s xs1) 5 1, .row Ad15 m2 c16 (u8s xs2) 5 1, .blk b5 [.int .i64 n, .int .i64 X, .int .i64 Y, .int .i64 bw, .int .i64 bh, .int .i64 vx, .int .i64 vy, .int .i64 kd] 33, .blk b2 [.int .i64 W0, .int .i64 H0, .slice A0 m0 c0, .int .i64 W1, .int .i64 H1, .slice A1 m1 c1, .int .i64 W2, .int .i64 H2, .slice A2 m2 c2] 27] (by decide) rfl) (hs35.rdRow 0 rfl) singleOut_bytes) (?_) True.intro (by rfl))
  rintro _ w38 ⟨rfl, zs37, hbzs37, hlzs37, hs38⟩
  refine Ops.dec1 (⟨rfl, rfl⟩) ?_
  refine Ops.v (Yv.move rfl) ?_
  refine Ops.vg ⟨_, rfl, rfl⟩ (Yv.loadn (cs := [.int .i64 W0, .int .i64 H0, .slice Ad9 m0 c10, .int .i64 W1, .int .i64 H1, .slice Ad12 m1 c13, .int .i64 W2, .int .i64 H2, .slice Ad15 m2 c16]) A27 S27 rfl (now (hs38.cells 2 rfl 0 9))) ?_
  refine Ops.vg ⟨_, rfl, rfl⟩ (Yv.loadn (cs := [.int .i64 W0, .int .i64 H0, .slice A0 m0 c0, .int .i64 W1, .int .i64 H1, .slice A1 m1 c1, .int .i64 W2, .int .i64 H2, .slice A2 m2 c2]) A27 S27 rfl (now (hs38.cells 7 rfl 0 9))) ?_
  refine Ops.s (Step.call rfl rfl (sameFrame_fun (hs38.rdRow 3 rfl) (hs38.rd hr0) (hs38.rdRow 4 rfl) (hs38.rd hr1) (hs38.rdRow 5 rfl) (hs38.rd hr2)) (?_) ⟨_, rfl, rfl⟩ (by rfl))
  rintro _ w39 ⟨rfl, hs39⟩
  replace hs39 := hs38.call hs39
  refine Ops.dec1 (⟨⟨⟨⟨rfl, rfl⟩, rfl⟩, ⟨⟨rfl, rfl⟩, rfl⟩⟩, ⟨⟨rfl, rfl⟩, rfl⟩⟩) ?_
  refine Ops.v (Yv.pick1 rfl rfl) ?_
  refine Ops.v (Yv.move rfl) ?_
  refine Ops.s (Step.call rfl rfl (works_fun) (?_) ⟨_, rfl, rfl⟩ (by rfl))
  rintro _ w40 ⟨rfl, hs40⟩
  replace hs40 := hs39.call hs40
  refine Ops.v (Yv.pick1 rfl rfl) ?_
  refine Ops.v (Yv.assign rfl) ?_
  refine Ops.nil ?_
  refine k36 _ _ ?_
  refine run_ret ?_
  refine ⟨[.bool true], ⟨_, _, rfl, rfl, rfl⟩, ?_⟩
  exact ⟨rfl, hs40.pick [] _ (by decide) rfl⟩

end Go.Proofs.Zed
