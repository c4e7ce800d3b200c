/- The walk of MotionWhole. -/
import Derived.Test.YtobfcnfkcmhmaaaMz
set_option linter.unusedVariables false
set_option linter.unusedSimpArgs false
namespace Go.Proofs.Zed
open Go Go.RowKit Tf
attribute [local irreducible] Try.prog

set_option maxHeartbeats 4000000 in
theorem MotionWhole_fun {w : World} {W0 H0 W1 H1 W2 H2 : Int} {A0 A1 A2 : Option Addr} {m0 m1 m2 c0 c1 c2 : Nat} {xs0 xs1 xs2 : List Int} (hr0 : Rd w A0 m0 1 (u8s xs0)) (hx0 : Bytes xs0) (hr1 : Rd w A1 m1 1 (u8s xs1)) (hx1 : Bytes xs1) (hr2 : Rd w A2 m2 1 (u8s xs2)) (hx2 : Bytes xs2) (hc0 : m0 ≤ c0) (hc1 : m1 ≤ c1) (hc2 : m2 ≤ c2) {n X Y bw bh vx vy kd : Int} : Fun Try.prog 10 [.agg #[.int .i64 W0, .int .i64 H0, .slice A0 m0 c0, .int .i64 W1, .int .i64 H1, .slice A1 m1 c1, .int .i64 W2, .int .i64 H2, .slice A2 m2 c2], .agg #[.int .i64 n, .int .i64 X, .int .i64 Y, .int .i64 bw, .int .i64 bh, .int .i64 vx, .int .i64 vy, .int .i64 kd]] w fun v w' => v = .bool true ∧ HS w [] w' := by
  refine fun_run (m := 113) (rs := [.tmp 4]) Try.func10 rfl rfl rfl rfl rfl ?_
  have hs0 := HS.start w
  have hbig0 := hr0.big
  have hlen_xs0 : xs0.length = m0 := by have := hr0.len; rw [u8s_length] at this; omega
  have hbig1 := hr1.big
  have hlen_xs1 : xs1.length = m1 := by have := hr1.len; rw [u8s_length] at this; omega
  have hbig2 := hr2.big
  have hlen_xs2 : xs2.length = m2 := by have := hr2.len; rw [u8s_length] at this; omega
  refine run_seq fun K1 k1 => ?_
  refine run_region ?_
  refine Ops.s (Step.box (cs := [.int .i64 W0, .int .i64 H0, .slice A0 m0 c0, .int .i64 W1, .int .i64 H1, .slice A1 m1 c1, .int .i64 W2, .int .i64 H2, .slice A2 m2 c2]) hs0 rfl rfl (fun b2 w3 hs3 hb3 => ?_) True.intro (by rfl))
  refine Ops.s (Step.box (cs := [.int .i64 n, .int .i64 X, .int .i64 Y, .int .i64 bw, .int .i64 bh, .int .i64 vx, .int .i64 vy, .int .i64 kd]) hs3 rfl rfl (fun b5 w6 hs6 hb6 => ?_) True.intro (by rfl))
  refine Ops.v (Yv.assign rfl) ?_
  refine Ops.nil ?_
  refine k1 _ _ ?_
  refine run_seq fun K8 k8 => ?_
  refine run_seq fun K9 k9 => ?_
  refine run_region ?_
  refine Ops.s (Step.call rfl rfl (works_fun) (?_) True.intro (by rfl))
  rintro _ w10 ⟨rfl, hs10⟩
  replace hs10 := hs6.call hs10
  refine Ops.v (Yv.not rfl) ?_
  refine Ops.nil ?_
  refine k9 _ _ ?_
  refine run_if0 rfl ?_
  refine run_skip ?_
  refine k8 _ _ ?_
  refine run_seq fun K11 k11 => ?_
  refine run_seq fun K12 k12 => ?_
  refine run_region ?_
  refine Ops.v (Yv.loadn (cs := [.int .i64 W0, .int .i64 H0, .slice A0 m0 c0, .int .i64 W1, .int .i64 H1, .slice A1 m1 c1, .int .i64 W2, .int .i64 H2, .slice A2 m2 c2]) A27 S27 rfl (now (hs10.cells 1 rfl 0 9))) ?_
  refine Ops.s (Step.call rfl rfl (whole_fun) (?_) True.intro (by rfl))
  rintro _ w13 ⟨rfl, hs13⟩
  replace hs13 := hs10.call hs13
  refine Ops.v (Yv.ne rfl rfl) ?_
  refine Ops.nil ?_
  refine k12 _ _ ?_
  refine run_ifp rfl (fun h14 => ?_) (fun h14 => ?_)
  · -- yes (wholeF W0 H0 m0 W1 H1 m1 W2 H2 m2) ≠ (0 : Int)
    refine run_seq fun K15 k15 => ?_
    refine run_region ?_
    refine Ops.v (Yv.loadn (cs := [.int .i64 W0, .int .i64 H0, .slice A0 m0 c0, .int .i64 W1, .int .i64 H1, .slice A1 m1 c1, .int .i64 W2, .int .i64 H2, .slice A2 m2 c2]) A27 S27 rfl (now (hs13.cells 1 rfl 0 9))) ?_
    refine Ops.v (Yv.buildS (cs := #[.int .i64 0, .int .i64 0, .int .i64 4, .int .i64 4]) T29 rfl rfl) ?_
    refine Ops.v (Yv.buildS (cs := #[.int .i64 0, .int .i64 0]) T31 rfl rfl) ?_
    refine Ops.s (Step.call rfl rfl (single_fun (hs13.rd hr0) hx0 (hs13.rd hr1) hx1 (hs13.rd hr2) hx2 (by omega) (by omega) (by omega)) (?_) True.intro (by rfl))
    rintro _ w19 ⟨Ad16, c17, rfl, hs19⟩
    replace hs19 := hs13.call hs19
    refine Ops.v (Yv.move rfl) ?_
    refine Ops.v (Yv.extract rfl rfl) ?_
    refine Ops.v (Yv.extract rfl rfl) ?_
    refine Ops.v (Yv.assign rfl) ?_
    refine Ops.v (Yv.assign rfl) ?_
    refine Ops.nil ?_
    refine k15 _ _ ?_
    refine run_seq fun K20 k20 => ?_
    refine run_region ?_
    refine Ops.v (Yv.move rfl) ?_
    refine Ops.v (Yv.eq rfl rfl) ?_
    refine Ops.dec1 ((single_bad (xs0 := xs0) (xs1 := xs1) (xs2 := xs2) (by unfold singleOk; omega)).1) ?_
    refine Ops.v (Yv.assign rfl) ?_
    refine Ops.nil ?_
    refine k20 _ _ ?_
    refine run_ret ?_
    refine ⟨[.bool true], ⟨_, _, rfl, rfl, rfl⟩, ?_⟩
    exact ⟨rfl, hs19.pick [] _ (by decide) rfl⟩
  · -- no
    have hw0 : wholeF W0 H0 m0 W1 H1 m1 W2 H2 m2 = 0 := by omega
    refine run_skip ?_
    refine k11 _ _ ?_
    refine run_seq fun K21 k21 => ?_
    refine run_region ?_
    refine Ops.v (Yv.loadn (cs := [.int .i64 n, .int .i64 X, .int .i64 Y, .int .i64 bw, .int .i64 bh, .int .i64 vx, .int .i64 vy, .int .i64 kd]) A33 S33 rfl (now (hs13.cells 0 rfl 0 8))) ?_
    refine Ops.s (Step.call rfl rfl (may_fun) (?_) True.intro (by rfl))
    rintro _ w22 ⟨n9, X9, Y9, bw9, bh9, vx9, vy9, kd9, hn9, hX9, hY9, hbw9, hbh9, hvx9, hvy9, hkd9, rfl, hs22⟩
    replace hs22 := hs13.call hs22
    refine Ops.s (Step.store (vs := [.int .i64 n9, .int .i64 X9, .int .i64 Y9, .int .i64 bw9, .int .i64 bh9, .int .i64 vx9, .int .i64 vy9, .int .i64 kd9]) 0 hs22 rfl rfl rfl rfl S33 (Nat.le_of_ble_eq_true rfl) rfl (fun w23 hs23 => ?_) True.intro)
    replace hs23 : HS _ [.blk _ [_, _, _, _, _, _, _, _] _, .blk _ [_, _, _, _, _, _, _, _, _] _] _ := hs23
    refine Ops.nil ?_
    refine k21 _ _ ?_
    refine run_seq fun K24 k24 => ?_
    refine run_region ?_
    refine Ops.v (Yv.assign rfl) ?_
    refine Ops.nil ?_
    refine k24 _ _ ?_
    refine run_seq fun K25 k25 => ?_
    refine run_seq fun K26 k26 => ?_
    refine run_region ?_
    refine Ops.v (Yv.fld F33_0 rfl) ?_
    refine Ops.v (Yv.load A3 rfl (now (hs23.cell 0 rfl 0 rfl))) ?_
    refine Ops.v (Yv.eq rfl rfl) ?_
    refine Ops.nil ?_
    refine k26 _ _ ?_
    refine run_ifp rfl (fun h27 => ?_) (fun h27 => ?_)
    · -- yes n9 = (0 : Int)
      refine run_region ?_
      refine Ops.v (Yv.assign rfl) ?_
      refine Ops.nil ?_
      refine k25 _ _ ?_
      refine run_seq fun K28 k28 => ?_
      refine run_drawn [] (fun x => Below (w23.drew).heap.size (w23.drew) x) ?_ Tf.mixed (by kernel_rfl) (fun _ _ _ h => h)
      have hs29 := hs23.drew
      have hS30 := Below.refl (w23.drew).heap.size (w23.drew)
      refine Drw.a 0 rfl (by kernel_rfl) (Yv.fld F33_2 rfl) ?_
      refine Drw.a 1 rfl (by kernel_rfl) (Yv.fld F31_0 rfl) ?_
      refine Drw.l 2 rfl (by kernel_rfl) hS30 (Yv.load A3 rfl (fun _ hq_ => ((hs29.grow hq_).cell 0 rfl 5 rfl))) ?_
      refine Drw.a 3 rfl (by kernel_rfl) (Yv.move rfl) ?_
      have htx := tdiv_bd (v := vx9) (u := 8) hvx9 (by decide)
      refine Drw.a 4 rfl (by kernel_rfl) (Yv.quot rfl rfl (by omega) (by omega)) ?_
      refine Drw.a 5 rfl (by kernel_rfl) (Yv.fld F33_2 rfl) ?_
      refine Drw.a 6 rfl (by kernel_rfl) (Yv.fld F31_1 rfl) ?_
      refine Drw.l 7 rfl (by kernel_rfl) hS30 (Yv.load A3 rfl (fun _ hq_ => ((hs29.grow hq_).cell 0 rfl 6 rfl))) ?_
      refine Drw.a 8 rfl (by kernel_rfl) (Yv.move rfl) ?_
      have hty := tdiv_bd (v := vy9) (u := 8) hvy9 (by decide)
      refine Drw.a 9 rfl (by kernel_rfl) (Yv.quot rfl rfl (by omega) (by omega)) ?_
      refine Drw.a 10 rfl (by kernel_rfl) (Yv.assign rfl) ?_
      refine Drw.a 11 rfl (by kernel_rfl) (Yv.assign rfl) ?_
      refine Drw.done ?_ (by kernel_rfl)
      refine k28 _ _ ?_
      refine run_seq fun K31 k31 => ?_
      refine run_region ?_
      refine Ops.v (Yv.loadn (cs := [.int .i64 W0, .int .i64 H0, .slice A0 m0 c0, .int .i64 W1, .int .i64 H1, .slice A1 m1 c1, .int .i64 W2, .int .i64 H2, .slice A2 m2 c2]) A27 S27 rfl (now (hs29.cells 1 rfl 0 9))) ?_
      refine Ops.v (Yv.fld F33_0 rfl) ?_
      refine Ops.v (Yv.load A3 rfl (now (hs29.cell 0 rfl 0 rfl))) ?_
      refine Ops.v (Yv.fld F33_1 rfl) ?_
      refine Ops.v (Yv.loadn (cs := [.int .i64 X9, .int .i64 Y9, .int .i64 bw9, .int .i64 bh9]) A29 S29 rfl (now (hs29.cells 0 rfl 1 4))) ?_
      refine Ops.v (Yv.move rfl) ?_
      refine Ops.v (Yv.move rfl) ?_
      refine Ops.v (Yv.mul rfl rfl (by omega)) ?_
      refine Ops.v (Yv.move rfl) ?_
      refine Ops.v (Yv.move rfl) ?_
      refine Ops.v (Yv.mul rfl rfl (by omega)) ?_
      refine Ops.v (Yv.buildS (cs := #[.int .i64 ((Int.tdiv vx9 8) * 8), .int .i64 ((Int.tdiv vy9 8) * 8)]) T31 rfl rfl) ?_
      refine Ops.v (Yv.fld F33_3 rfl) ?_
      refine Ops.v (Yv.load A3 rfl (now (hs29.cell 0 rfl 7 rfl))) ?_
      refine Ops.s (Step.call rfl rfl (single_fun (hs29.rd hr0) hx0 (hs29.rd hr1) hx1 (hs29.rd hr2) hx2 (by omega) (by omega) (by omega)) (?_) True.intro (by rfl))
      rintro _ w35 ⟨Ad32, c33, rfl, hs35⟩
      replace hs35 := hs29.call hs35
      refine Ops.v (Yv.move rfl) ?_
      refine Ops.v (Yv.extract rfl rfl) ?_
      refine Ops.v (Yv.extract rfl rfl) ?_
      refine Ops.v (Yv.assign rfl) ?_
      refine Ops.v (Yv.assign rfl) ?_
      refine Ops.nil ?_
      refine k31 _ _ ?_
      refine run_seq fun K36 k36 => ?_
      refine run_seq fun K37 k37 => ?_
      refine run_region ?_
      have hfu : (n9 = 0 ∧ (8 : Int) = 8) ∨ (n9 ≠ 0 ∧ (8 : Int) = 16) := by omega
      have hf1 := single_fine (xs0 := xs0) (xs1 := xs1) (xs2 := xs2) (n := n9) (X := X9) (Y := Y9) (bw := bw9) (bh := bh9) (vx := ((Int.tdiv vx9 8) * 8)) (vy := ((Int.tdiv vy9 8) * 8)) (kd := kd9) hw0 hn9 (by omega) (by omega) (by omega) (by omega) (by omega) (by omega) hkd9
      refine Ops.v (Yv.move rfl) ?_
      refine Ops.v (Yv.ne rfl rfl) ?_
      refine Ops.dec0 (fun h_ => h_ hf1.1) ?_
      refine Ops.v (Yv.move rfl) ?_
      refine Ops.vg ⟨_, rfl, rfl⟩ (Yv.move rfl) ?_
      refine Ops.vg ⟨_, rfl, rfl⟩ (Yv.len (by rw [L22]; rfl) rfl) ?_
      refine Ops.vg ⟨_, rfl, rfl⟩ (Yv.fld F33_1 rfl) ?_
      refine Ops.vg ⟨_, rfl, rfl⟩ (Yv.fld F29_2 rfl) ?_
      refine Ops.vg ⟨_, rfl, rfl⟩ (Yv.load A3 rfl (now (hs35.cell 1 rfl 3 rfl))) ?_
      refine Ops.vg ⟨_, rfl, rfl⟩ (Yv.fld F33_1 rfl) ?_
      refine Ops.vg ⟨_, rfl, rfl⟩ (Yv.fld F29_3 rfl) ?_
      refine Ops.vg ⟨_, rfl, rfl⟩ (Yv.load A3 rfl (now (hs35.cell 1 rfl 4 rfl))) ?_
      have hbb := mul_bd (a := bw9) (b := bh9) (x := 64) (y := 64) (by omega) (by omega) (by omega) (by omega)
      refine Ops.vg ⟨_, rfl, rfl⟩ (Yv.mul rfl rfl (by omega)) ?_
      refine Ops.vg ⟨_, rfl, rfl⟩ (Yv.ne rfl rfl) ?_
      refine Ops.dec0 (fun h_ => h_ hf1.2.2) ?_
      refine Ops.v (Yv.pick0 rfl rfl) ?_
      refine Ops.nil ?_
      refine k37 _ _ ?_
      refine run_if0 rfl ?_
      refine run_skip ?_
      refine k36 _ _ ?_
      refine run_seq fun K38 k38 => ?_
      refine run_seq fun K39 k39 => ?_
      refine run_region ?_
      refine Ops.v (Yv.assign rfl) ?_
      refine Ops.nil ?_
      refine k39 _ _ ?_
      refine run_block ?_
      refine Run.sub [(0, _), (1, _), (2, _), (3, _), (7, _), (8, _), (9, _), (10, _), (11, _), (12, _), (14, _), (17, _), (31, _), (73, _)] ⟨rfl, rfl, rfl, rfl, rfl, rfl, rfl, rfl, rfl, rfl, rfl, rfl, rfl, rfl, trivial⟩ ?_
      refine run_loop (σ := Nat) (fun k e_ w_ => HS w [.row Ad32 ((singleOut W0 H0 m0 W1 H1 m1 W2 H2 m2 xs0 xs1 xs2 n9 X9 Y9 bw9 bh9 ((Int.tdiv vx9 8) * 8) ((Int.tdiv vy9 8) * 8) kd9).length) c33 (u8s (singleOut W0 H0 m0 W1 H1 m1 W2 H2 m2 xs0 xs1 xs2 n9 X9 Y9 bw9 bh9 ((Int.tdiv vx9 8) * 8) ((Int.tdiv vy9 8) * 8) kd9)) 5 1, .blk b5 [.int .i64 n9, .int .i64 X9, .int .i64 Y9, .int .i64 bw9, .int .i64 bh9, .int .i64 vx9, .int .i64 vy9, .int .i64 kd9] 33, .blk b2 [.int .i64 W0, .int .i64 H0, .slice A0 m0 c0, .int .i64 W1, .int .i64 H1, .slice A1 m1 c1, .int .i64 W2, .int .i64 H2, .slice A2 m2 c2] 27] w_ ∧ e_ = [(0, .agg #[.int .i64 W0, .int .i64 H0, .slice A0 m0 c0, .int .i64 W1, .int .i64 H1, .slice A1 m1 c1, .int .i64 W2, .int .i64 H2, .slice A2 m2 c2]), (1, .agg #[.int .i64 n, .int .i64 X, .int .i64 Y, .int .i64 bw, .int .i64 bh, .int .i64 vx, .int .i64 vy, .int .i64 kd]), (2, .pointer (some ⟨b2, 0, none⟩)), (3, .pointer (some ⟨b5, 0, none⟩)), (7, .int .i64 8), (8, .int .i64 (Int.tdiv vx9 8)), (9, .int .i64 (Int.tdiv vy9 8)), (10, .slice Ad32 ((singleOut W0 H0 m0 W1 H1 m1 W2 H2 m2 xs0 xs1 xs2 n9 X9 Y9 bw9 bh9 ((Int.tdiv vx9 8) * 8) ((Int.tdiv vy9 8) * 8) kd9).length) c33), (11, .int .i64 (singleE W0 H0 m0 W1 H1 m1 W2 H2 m2 n9 X9 Y9 bw9 bh9 ((Int.tdiv vx9 8) * 8) ((Int.tdiv vy9 8) * 8) kd9)), (12, .int .i64 (k : Int)), (14, .bool false), (17, .bool (decide ((wholeF W0 H0 m0 W1 H1 m1 W2 H2 m2) ≠ (0 : Int)))), (31, .bool (decide (n9 = (0 : Int)))), (73, .bool false)] ∧ (k : Int) ≤ bw9 * bh9)
        (fun k => (bw9 * bh9).toNat - k) 0 ?_ ?_
      · -- at the start
        refine ⟨hs35, rfl, by omega⟩
      · -- a round
        rintro k _ w40 ⟨hs40, rfl, f1⟩
        refine run_seq fun K41 k41 => ?_
        refine run_seq fun K42 k42 => ?_
        refine run_region ?_
        refine Ops.v (Yv.move rfl) ?_
        refine Ops.v (Yv.move rfl) ?_
        refine Ops.v (Yv.len (by rw [L22]; rfl) rfl) ?_
        refine Ops.v (Yv.lt rfl rfl) ?_
        refine Ops.nil ?_
        refine k42 _ _ ?_
        refine run_ifp rfl (fun h43 => ?_) (fun h43 => ?_)
        · -- yes (k : Int) < ((singleOut W0 H0 m0 W1 H1 m1 W2 H2 m2 xs0 xs1 xs2 n9 X9 Y9 bw9 bh9 ((Int.tdiv vx9 8) * 8) ((Int.tdiv vy9 8) * 8) kd9).length : Int)
          refine run_skip ?_
          refine k41 _ _ ?_
          refine run_seq fun K44 k44 => ?_
          refine run_block ?_
          refine run_seq fun K45 k45 => ?_
          refine run_drawn [] (fun x => Below (w40.drew).heap.size (w40.drew) x) ?_ Tf.mixed (by kernel_rfl) (fun _ _ _ h => h)
          have hs46 := hs40.drew
          have hS47 := Below.refl (w40.drew).heap.size (w40.drew)
          refine Drw.a 0 rfl (by kernel_rfl) (Yv.move rfl) ?_
          refine Drw.a 1 rfl (by kernel_rfl) (Yv.move rfl) ?_
          refine Drw.a 2 rfl (by kernel_rfl) (Yv.idx L22 rfl rfl ((hs46.rdRow 0 rfl).isSome (i := (k : Int)) (by omega) (by omega)) (by omega) (by omega)) ?_
          refine Drw.l 3 rfl (by kernel_rfl) hS47 (Yv.load A5 rfl (fun _ hq_ => (((hs46.grow hq_).rdRow 0 rfl).u8 (by omega) (by omega)))) ?_
          have g48 := gi_bytes (xs := singleOut W0 H0 m0 W1 H1 m1 W2 H2 m2 xs0 xs1 xs2 n9 X9 Y9 bw9 bh9 ((Int.tdiv vx9 8) * 8) ((Int.tdiv vy9 8) * 8) kd9) singleOut_bytes (k : Int)
          refine Drw.a 4 rfl (by kernel_rfl) (Yv.fld F33_0 rfl) ?_
          refine Drw.l 5 rfl (by kernel_rfl) hS47 (Yv.load A3 rfl (fun _ hq_ => ((hs46.grow hq_).cell 1 rfl 0 rfl))) ?_
          refine Drw.a 6 rfl (by kernel_rfl) (Yv.fld F27_0 rfl) ?_
          refine Drw.a 7 rfl (by kernel_rfl) (Yv.idxa (o' := (n9).toNat * 3) R25 rfl rfl (by omega) (by omega) (ho := by omega)) ?_
          refine Drw.l 8 rfl (by kernel_rfl) hS47 (Yv.loadn (cs := [.int .i64 (selI n9 W0 W1 W2), .int .i64 (selI n9 H0 H1 H2), .slice (selI n9 A0 A1 A2) (selI n9 m0 m1 m2) (selI n9 c0 c1 c2)]) A24 S24 rfl (fun _ hq_ => (cells3 ((hs46.grow hq_).cells 2 rfl ((n9).toNat * 3) 3) (sel3 (by omega) (by omega))))) ?_
          refine Drw.a 9 rfl (by kernel_rfl) (Yv.fld F33_1 rfl) ?_
          refine Drw.a 10 rfl (by kernel_rfl) (Yv.fld F29_0 rfl) ?_
          refine Drw.l 11 rfl (by kernel_rfl) hS47 (Yv.load A3 rfl (fun _ hq_ => ((hs46.grow hq_).cell 1 rfl 1 rfl))) ?_
          refine Drw.a 12 rfl (by kernel_rfl) (Yv.move rfl) ?_
          refine Drw.a 13 rfl (by kernel_rfl) (Yv.fld F33_1 rfl) ?_
          refine Drw.a 14 rfl (by kernel_rfl) (Yv.fld F29_2 rfl) ?_
          refine Drw.l 15 rfl (by kernel_rfl) hS47 (Yv.load A3 rfl (fun _ hq_ => ((hs46.grow hq_).cell 1 rfl 3 rfl))) ?_
          have hk1 : (k : Int) < bw9 * bh9 := by omega
          have hxy := rect_xy (W := bw9) (H := bh9) (k := k) (by omega) hk1
          refine Drw.a 16 rfl (by kernel_rfl) (Yv.rem rfl rfl (by omega) (by omega)) ?_
          refine Drw.a 17 rfl (by kernel_rfl) (Yv.add rfl rfl (by omega)) ?_
          refine Drw.a 18 rfl (by kernel_rfl) (Yv.move rfl) ?_
          refine Drw.a 19 rfl (by kernel_rfl) (Yv.add rfl rfl (by omega)) ?_
          refine Drw.a 20 rfl (by kernel_rfl) (Yv.fld F33_1 rfl) ?_
          refine Drw.a 21 rfl (by kernel_rfl) (Yv.fld F29_1 rfl) ?_
          refine Drw.l 22 rfl (by kernel_rfl) hS47 (Yv.load A3 rfl (fun _ hq_ => ((hs46.grow hq_).cell 1 rfl 2 rfl))) ?_
          refine Drw.a 23 rfl (by kernel_rfl) (Yv.move rfl) ?_
          refine Drw.a 24 rfl (by kernel_rfl) (Yv.fld F33_1 rfl) ?_
          refine Drw.a 25 rfl (by kernel_rfl) (Yv.fld F29_2 rfl) ?_
          refine Drw.l 26 rfl (by kernel_rfl) hS47 (Yv.load A3 rfl (fun _ hq_ => ((hs46.grow hq_).cell 1 rfl 3 rfl))) ?_
          refine Drw.a 27 rfl (by kernel_rfl) (Yv.quo rfl rfl (by omega) (by omega) (by omega)) ?_
          refine Drw.a 28 rfl (by kernel_rfl) (Yv.add rfl rfl (by omega)) ?_
          refine Drw.a 29 rfl (by kernel_rfl) (Yv.move rfl) ?_
          refine Drw.a 30 rfl (by kernel_rfl) (Yv.add rfl rfl (by omega)) ?_
          have hwl := whole_law (W0 := W0) (H0 := H0) (m0 := m0) (W1 := W1) (H1 := H1) (m1 := m1) (W2 := W2) (H2 := H2) (m2 := m2) (u := 8) (dx := (Int.tdiv vx9 8)) (dy := (Int.tdiv vy9 8)) (kd := kd9) hw0 (selBytes (n := n9) hx0 hx1 hx2) hfu hn9 (by omega) (by omega) (by omega) (by omega) (by omega) (by omega) hkd9 hk1 (X := X9) (Y := Y9)
          refine Drw.one 31 rfl (by kernel_rfl) (Step.call rfl rfl (at_fun (selRd (n := n9) (hs46.rd hr0) (hs46.rd hr1) (hs46.rd hr2)) (selBytes (n := n9) hx0 hx1 hx2)) (?_) True.intro (by rfl))
          rintro _ w50 ⟨rfl, hs50⟩
          have hS51 := HS.keepS hS47 (Nat.le_refl _) hs50
          refine ⟨fun _ _ => hS51, ?_⟩
          replace hs50 := hs46.call hs50
          have g49 := atF_byte (selBytes (n := n9) hx0 hx1 hx2) (selI n9 W0 W1 W2) (selI n9 H0 H1 H2) (selI n9 m0 m1 m2) ((X9 + ((k : Int) % bw9)) + (Int.tdiv vx9 8)) ((Y9 + ((k : Int) / bw9)) + (Int.tdiv vy9 8))
          refine Drw.a 32 rfl (by kernel_rfl) (Yv.ne rfl rfl) ?_
          refine Drw.dec0 (fun h_ => h_ hwl) ?_
          refine Drw.done ?_ (by kernel_rfl)
          refine k45 _ _ ?_
          refine run_if0 rfl ?_
          refine run_skip ?_
          refine k44 _ _ ?_
          refine run_region ?_
          refine Ops.v (Yv.move rfl) ?_
          refine Ops.v (Yv.add rfl rfl (by omega)) ?_
          refine Ops.v (Yv.assign rfl) ?_
          refine Ops.nil ?_
          refine ⟨k + 1, _, ⟨hs50, rfl, by omega⟩, Sub.le ⟨rfl, rfl, rfl, rfl, rfl, rfl, rfl, rfl, rfl, lookI rfl (by omega), rfl, rfl, rfl, rfl, trivial⟩, (by show (bw9 * bh9).toNat - (k + 1) < (bw9 * bh9).toNat - k; omega)⟩
        · -- no
          refine run_exit ?_
          refine k38 _ _ ?_
          refine run_seq fun K52 k52 => ?_
          refine run_region ?_
          refine Ops.v (Yv.assign rfl) ?_
          refine Ops.nil ?_
          refine k52 _ _ ?_
          refine run_ret ?_
          refine ⟨[.bool true], ⟨_, _, rfl, rfl, rfl⟩, ?_⟩
          exact ⟨rfl, hs40.pick [] _ (by decide) rfl⟩
    · -- no
      refine run_skip ?_
      refine k25 _ _ ?_
      refine run_seq fun K53 k53 => ?_
      refine run_drawn [] (fun x => Below (w23.drew).heap.size (w23.drew) x) ?_ Tf.mixed (by kernel_rfl) (fun _ _ _ h => h)
      have hs54 := hs23.drew
      have hS55 := Below.refl (w23.drew).heap.size (w23.drew)
      refine Drw.a 0 rfl (by kernel_rfl) (Yv.fld F33_2 rfl) ?_
      refine Drw.a 1 rfl (by kernel_rfl) (Yv.fld F31_0 rfl) ?_
      refine Drw.l 2 rfl (by kernel_rfl) hS55 (Yv.load A3 rfl (fun _ hq_ => ((hs54.grow hq_).cell 0 rfl 5 rfl))) ?_
      refine Drw.a 3 rfl (by kernel_rfl) (Yv.move rfl) ?_
      have htx := tdiv_bd (v := vx9) (u := 16) hvx9 (by decide)
      refine Drw.a 4 rfl (by kernel_rfl) (Yv.quot rfl rfl (by omega) (by omega)) ?_
      refine Drw.a 5 rfl (by kernel_rfl) (Yv.fld F33_2 rfl) ?_
      refine Drw.a 6 rfl (by kernel_rfl) (Yv.fld F31_1 rfl) ?_
      refine Drw.l 7 rfl (by kernel_rfl) hS55 (Yv.load A3 rfl (fun _ hq_ => ((hs54.grow hq_).cell 0 rfl 6 rfl))) ?_
      refine Drw.a 8 rfl (by kernel_rfl) (Yv.move rfl) ?_
      have hty := tdiv_bd (v := vy9) (u := 16) hvy9 (by decide)
      refine Drw.a 9 rfl (by kernel_rfl) (Yv.quot rfl rfl (by omega) (by omega)) ?_
      refine Drw.a 10 rfl (by kernel_rfl) (Yv.assign rfl) ?_
      refine Drw.a 11 rfl (by kernel_rfl) (Yv.assign rfl) ?_
      refine Drw.done ?_ (by kernel_rfl)
      refine k53 _ _ ?_
      refine run_seq fun K56 k56 => ?_
      refine run_region ?_
      refine Ops.v (Yv.loadn (cs := [.int .i64 W0, .int .i64 H0, .slice A0 m0 c0, .int .i64 W1, .int .i64 H1, .slice A1 m1 c1, .int .i64 W2, .int .i64 H2, .slice A2 m2 c2]) A27 S27 rfl (now (hs54.cells 1 rfl 0 9))) ?_
      refine Ops.v (Yv.fld F33_0 rfl) ?_
      refine Ops.v (Yv.load A3 rfl (now (hs54.cell 0 rfl 0 rfl))) ?_
      refine Ops.v (Yv.fld F33_1 rfl) ?_
      refine Ops.v (Yv.loadn (cs := [.int .i64 X9, .int .i64 Y9, .int .i64 bw9, .int .i64 bh9]) A29 S29 rfl (now (hs54.cells 0 rfl 1 4))) ?_
      refine Ops.v (Yv.move rfl) ?_
      refine Ops.v (Yv.move rfl) ?_
      refine Ops.v (Yv.mul rfl rfl (by omega)) ?_
      refine Ops.v (Yv.move rfl) ?_
      refine Ops.v (Yv.move rfl) ?_
      refine Ops.v (Yv.mul rfl rfl (by omega)) ?_
      refine Ops.v (Yv.buildS (cs := #[.int .i64 ((Int.tdiv vx9 16) * 16), .int .i64 ((Int.tdiv vy9 16) * 16)]) T31 rfl rfl) ?_
      refine Ops.v (Yv.fld F33_3 rfl) ?_
      refine Ops.v (Yv.load A3 rfl (now (hs54.cell 0 rfl 7 rfl))) ?_
      refine Ops.s (Step.call rfl rfl (single_fun (hs54.rd hr0) hx0 (hs54.rd hr1) hx1 (hs54.rd hr2) hx2 (by omega) (by omega) (by omega)) (?_) True.intro (by rfl))
      rintro _ w60 ⟨Ad57, c58, rfl, hs60⟩
      replace hs60 := hs54.call hs60
      refine Ops.v (Yv.move rfl) ?_
      refine Ops.v (Yv.extract rfl rfl) ?_
      refine Ops.v (Yv.extract rfl rfl) ?_
      refine Ops.v (Yv.assign rfl) ?_
      refine Ops.v (Yv.assign rfl) ?_
      refine Ops.nil ?_
      refine k56 _ _ ?_
      refine run_seq fun K61 k61 => ?_
      refine run_seq fun K62 k62 => ?_
      refine run_region ?_
      have hfu : (n9 = 0 ∧ (16 : Int) = 8) ∨ (n9 ≠ 0 ∧ (16 : Int) = 16) := by omega
      have hf1 := single_fine (xs0 := xs0) (xs1 := xs1) (xs2 := xs2) (n := n9) (X := X9) (Y := Y9) (bw := bw9) (bh := bh9) (vx := ((Int.tdiv vx9 16) * 16)) (vy := ((Int.tdiv vy9 16) * 16)) (kd := kd9) hw0 hn9 (by omega) (by omega) (by omega) (by omega) (by omega) (by omega) hkd9
      refine Ops.v (Yv.move rfl) ?_
      refine Ops.v (Yv.ne rfl rfl) ?_
      refine Ops.dec0 (fun h_ => h_ hf1.1) ?_
      refine Ops.v (Yv.move rfl) ?_
      refine Ops.vg ⟨_, rfl, rfl⟩ (Yv.move rfl) ?_
      refine Ops.vg ⟨_, rfl, rfl⟩ (Yv.len (by rw [L22]; rfl) rfl) ?_
      refine Ops.vg ⟨_, rfl, rfl⟩ (Yv.fld F33_1 rfl) ?_
      refine Ops.vg ⟨_, rfl, rfl⟩ (Yv.fld F29_2 rfl) ?_
      refine Ops.vg ⟨_, rfl, rfl⟩ (Yv.load A3 rfl (now (hs60.cell 1 rfl 3 rfl))) ?_
      refine Ops.vg ⟨_, rfl, rfl⟩ (Yv.fld F33_1 rfl) ?_
      refine Ops.vg ⟨_, rfl, rfl⟩ (Yv.fld F29_3 rfl) ?_
      refine Ops.vg ⟨_, rfl, rfl⟩ (Yv.load A3 rfl (now (hs60.cell 1 rfl 4 rfl))) ?_
      have hbb := mul_bd (a := bw9) (b := bh9) (x := 64) (y := 64) (by omega) (by omega) (by omega) (by omega)
      refine Ops.vg ⟨_, rfl, rfl⟩ (Yv.mul rfl rfl (by omega)) ?_
      refine Ops.vg ⟨_, rfl, rfl⟩ (Yv.ne rfl rfl) ?_
      refine Ops.dec0 (fun h_ => h_ hf1.2.2) ?_
      refine Ops.v (Yv.pick0 rfl rfl) ?_
      refine Ops.nil ?_
      refine k62 _ _ ?_
      refine run_if0 rfl ?_
      refine run_skip ?_
      refine k61 _ _ ?_
      refine run_seq fun K63 k63 => ?_
      refine run_seq fun K64 k64 => ?_
      refine run_region ?_
      refine Ops.v (Yv.assign rfl) ?_
      refine Ops.nil ?_
      refine k64 _ _ ?_
      refine run_block ?_
      refine Run.sub [(0, _), (1, _), (2, _), (3, _), (7, _), (8, _), (9, _), (10, _), (11, _), (12, _), (14, _), (17, _), (31, _), (73, _)] ⟨rfl, rfl, rfl, rfl, rfl, rfl, rfl, rfl, rfl, rfl, rfl, rfl, rfl, rfl, trivial⟩ ?_
      refine run_loop (σ := Nat) (fun k e_ w_ => HS w [.row Ad57 ((singleOut W0 H0 m0 W1 H1 m1 W2 H2 m2 xs0 xs1 xs2 n9 X9 Y9 bw9 bh9 ((Int.tdiv vx9 16) * 16) ((Int.tdiv vy9 16) * 16) kd9).length) c58 (u8s (singleOut W0 H0 m0 W1 H1 m1 W2 H2 m2 xs0 xs1 xs2 n9 X9 Y9 bw9 bh9 ((Int.tdiv vx9 16) * 16) ((Int.tdiv vy9 16) * 16) kd9)) 5 1, .blk b5 [.int .i64 n9, .int .i64 X9, .int .i64 Y9, .int .i64 bw9, .int .i64 bh9, .int .i64 vx9, .int .i64 vy9, .int .i64 kd9] 33, .blk b2 [.int .i64 W0, .int .i64 H0, .slice A0 m0 c0, .int .i64 W1, .int .i64 H1, .slice A1 m1 c1, .int .i64 W2, .int .i64 H2, .slice A2 m2 c2] 27] w_ ∧ e_ = [(0, .agg #[.int .i64 W0, .int .i64 H0, .slice A0 m0 c0, .int .i64 W1, .int .i64 H1, .slice A1 m1 c1, .int .i64 W2, .int .i64 H2, .slice A2 m2 c2]), (1, .agg #[.int .i64 n, .int .i64 X, .int .i64 Y, .int .i64 bw, .int .i64 bh, .int .i64 vx, .int .i64 vy, .int .i64 kd]), (2, .pointer (some ⟨b2, 0, none⟩)), (3, .pointer (some ⟨b5, 0, none⟩)), (7, .int .i64 16), (8, .int .i64 (Int.tdiv vx9 16)), (9, .int .i64 (Int.tdiv vy9 16)), (10, .slice Ad57 ((singleOut W0 H0 m0 W1 H1 m1 W2 H2 m2 xs0 xs1 xs2 n9 X9 Y9 bw9 bh9 ((Int.tdiv vx9 16) * 16) ((Int.tdiv vy9 16) * 16) kd9).length) c58), (11, .int .i64 (singleE W0 H0 m0 W1 H1 m1 W2 H2 m2 n9 X9 Y9 bw9 bh9 ((Int.tdiv vx9 16) * 16) ((Int.tdiv vy9 16) * 16) kd9)), (12, .int .i64 (k : Int)), (14, .bool false), (17, .bool (decide ((wholeF W0 H0 m0 W1 H1 m1 W2 H2 m2) ≠ (0 : Int)))), (31, .bool (decide (n9 = (0 : Int)))), (73, .bool false)] ∧ (k : Int) ≤ bw9 * bh9)
        (fun k => (bw9 * bh9).toNat - k) 0 ?_ ?_
      · -- at the start
        refine ⟨hs60, rfl, by omega⟩
      · -- a round
        rintro k _ w65 ⟨hs65, rfl, f1⟩
        refine run_seq fun K66 k66 => ?_
        refine run_seq fun K67 k67 => ?_
        refine run_region ?_
        refine Ops.v (Yv.move rfl) ?_
        refine Ops.v (Yv.move rfl) ?_
        refine Ops.v (Yv.len (by rw [L22]; rfl) rfl) ?_
        refine Ops.v (Yv.lt rfl rfl) ?_
        refine Ops.nil ?_
        refine k67 _ _ ?_
        refine run_ifp rfl (fun h68 => ?_) (fun h68 => ?_)
        · -- yes (k : Int) < ((singleOut W0 H0 m0 W1 H1 m1 W2 H2 m2 xs0 xs1 xs2 n9 X9 Y9 bw9 bh9 ((Int.tdiv vx9 16) * 16) ((Int.tdiv vy9 16) * 16) kd9).length : Int)
          refine run_skip ?_
          refine k66 _ _ ?_
          refine run_seq fun K69 k69 => ?_
          refine run_block ?_
          refine run_seq fun K70 k70 => ?_
          refine run_drawn [] (fun x => Below (w65.drew).heap.size (w65.drew) x) ?_ Tf.mixed (by kernel_rfl) (fun _ _ _ h => h)
          have hs71 := hs65.drew
          have hS72 := Below.refl (w65.drew).heap.size (w65.drew)
          refine Drw.a 0 rfl (by kernel_rfl) (Yv.move rfl) ?_
          refine Drw.a 1 rfl (by kernel_rfl) (Yv.move rfl) ?_
          refine Drw.a 2 rfl (by kernel_rfl) (Yv.idx L22 rfl rfl ((hs71.rdRow 0 rfl).isSome (i := (k : Int)) (by omega) (by omega)) (by omega) (by omega)) ?_
          refine Drw.l 3 rfl (by kernel_rfl) hS72 (Yv.load A5 rfl (fun _ hq_ => (((hs71.grow hq_).rdRow 0 rfl).u8 (by omega) (by omega)))) ?_
          have g73 := gi_bytes (xs := singleOut W0 H0 m0 W1 H1 m1 W2 H2 m2 xs0 xs1 xs2 n9 X9 Y9 bw9 bh9 ((Int.tdiv vx9 16) * 16) ((Int.tdiv vy9 16) * 16) kd9) singleOut_bytes (k : Int)
          refine Drw.a 4 rfl (by kernel_rfl) (Yv.fld F33_0 rfl) ?_
          refine Drw.l 5 rfl (by kernel_rfl) hS72 (Yv.load A3 rfl (fun _ hq_ => ((hs71.grow hq_).cell 1 rfl 0 rfl))) ?_
          refine Drw.a 6 rfl (by kernel_rfl) (Yv.fld F27_0 rfl) ?_
          refine Drw.a 7 rfl (by kernel_rfl) (Yv.idxa (o' := (n9).toNat * 3) R25 rfl rfl (by omega) (by omega) (ho := by omega)) ?_
          refine Drw.l 8 rfl (by kernel_rfl) hS72 (Yv.loadn (cs := [.int .i64 (selI n9 W0 W1 W2), .int .i64 (selI n9 H0 H1 H2), .slice (selI n9 A0 A1 A2) (selI n9 m0 m1 m2) (selI n9 c0 c1 c2)]) A24 S24 rfl (fun _ hq_ => (cells3 ((hs71.grow hq_).cells 2 rfl ((n9).toNat * 3) 3) (sel3 (by omega) (by omega))))) ?_
          refine Drw.a 9 rfl (by kernel_rfl) (Yv.fld F33_1 rfl) ?_
          refine Drw.a 10 rfl (by kernel_rfl) (Yv.fld F29_0 rfl) ?_
          refine Drw.l 11 rfl (by kernel_rfl) hS72 (Yv.load A3 rfl (fun _ hq_ => ((hs71.grow hq_).cell 1 rfl 1 rfl))) ?_
          refine Drw.a 12 rfl (by kernel_rfl) (Yv.move rfl) ?_
          refine Drw.a 13 rfl (by kernel_rfl) (Yv.fld F33_1 rfl) ?_
          refine Drw.a 14 rfl (by kernel_rfl) (Yv.fld F29_2 rfl) ?_
          refine Drw.l 15 rfl (by kernel_rfl) hS72 (Yv.load A3 rfl (fun _ hq_ => ((hs71.grow hq_).cell 1 rfl 3 rfl))) ?_
          have hk1 : (k : Int) < bw9 * bh9 := by omega
          have hxy := rect_xy (W := bw9) (H := bh9) (k := k) (by omega) hk1
          refine Drw.a 16 rfl (by kernel_rfl) (Yv.rem rfl rfl (by omega) (by omega)) ?_
          refine Drw.a 17 rfl (by kernel_rfl) (Yv.add rfl rfl (by omega)) ?_
          refine Drw.a 18 rfl (by kernel_rfl) (Yv.move rfl) ?_
          refine Drw.a 19 rfl (by kernel_rfl) (Yv.add rfl rfl (by omega)) ?_
          refine Drw.a 20 rfl (by kernel_rfl) (Yv.fld F33_1 rfl) ?_
          refine Drw.a 21 rfl (by kernel_rfl) (Yv.fld F29_1 rfl) ?_
          refine Drw.l 22 rfl (by kernel_rfl) hS72 (Yv.load A3 rfl (fun _ hq_ => ((hs71.grow hq_).cell 1 rfl 2 rfl))) ?_
          refine Drw.a 23 rfl (by kernel_rfl) (Yv.move rfl) ?_
          refine Drw.a 24 rfl (by kernel_rfl) (Yv.fld F33_1 rfl) ?_
          refine Drw.a 25 rfl (by kernel_rfl) (Yv.fld F29_2 rfl) ?_
          refine Drw.l 26 rfl (by kernel_rfl) hS72 (Yv.load A3 rfl (fun _ hq_ => ((hs71.grow hq_).cell 1 rfl 3 rfl))) ?_
          refine Drw.a 27 rfl (by kernel_rfl) (Yv.quo rfl rfl (by omega) (by omega) (by omega)) ?_
          refine Drw.a 28 rfl (by kernel_rfl) (Yv.add rfl rfl (by omega)) ?_
          refine Drw.a 29 rfl (by kernel_rfl) (Yv.move rfl) ?_
          refine Drw.a 30 rfl (by kernel_rfl) (Yv.add rfl rfl (by omega)) ?_
          have hwl := whole_law (W0 := W0) (H0 := H0) (m0 := m0) (W1 := W1) (H1 := H1) (m1 := m1) (W2 := W2) (H2 := H2) (m2 := m2) (u := 16) (dx := (Int.tdiv vx9 16)) (dy := (Int.tdiv vy9 16)) (kd := kd9) hw0 (selBytes (n := n9) hx0 hx1 hx2) hfu hn9 (by omega) (by omega) (by omega) (by omega) (by omega) (by omega) hkd9 hk1 (X := X9) (Y := Y9)
          refine Drw.one 31 rfl (by kernel_rfl) (Step.call rfl rfl (at_fun (selRd (n := n9) (hs71.rd hr0) (hs71.rd hr1) (hs71.rd hr2)) (selBytes (n := n9) hx0 hx1 hx2)) (?_) True.intro (by rfl))
          rintro _ w75 ⟨rfl, hs75⟩
          have hS76 := HS.keepS hS72 (Nat.le_refl _) hs75
          refine ⟨fun _ _ => hS76, ?_⟩
          replace hs75 := hs71.call hs75
          have g74 := atF_byte (selBytes (n := n9) hx0 hx1 hx2) (selI n9 W0 W1 W2) (selI n9 H0 H1 H2) (selI n9 m0 m1 m2) ((X9 + ((k : Int) % bw9)) + (Int.tdiv vx9 16)) ((Y9 + ((k : Int) / bw9)) + (Int.tdiv vy9 16))
          refine Drw.a 32 rfl (by kernel_rfl) (Yv.ne rfl rfl) ?_
          refine Drw.dec0 (fun h_ => h_ hwl) ?_
          refine Drw.done ?_ (by kernel_rfl)
          refine k70 _ _ ?_
          refine run_if0 rfl ?_
          refine run_skip ?_
          refine k69 _ _ ?_
          refine run_region ?_
          refine Ops.v (Yv.move rfl) ?_
          refine Ops.v (Yv.add rfl rfl (by omega)) ?_
          refine Ops.v (Yv.assign rfl) ?_
          refine Ops.nil ?_
          refine ⟨k + 1, _, ⟨hs75, rfl, by omega⟩, Sub.le ⟨rfl, rfl, rfl, rfl, rfl, rfl, rfl, rfl, rfl, lookI rfl (by omega), rfl, rfl, rfl, rfl, trivial⟩, (by show (bw9 * bh9).toNat - (k + 1) < (bw9 * bh9).toNat - k; omega)⟩
        · -- no
          refine run_exit ?_
          refine k63 _ _ ?_
          refine run_seq fun K77 k77 => ?_
          refine run_region ?_
          refine Ops.v (Yv.assign rfl) ?_
          refine Ops.nil ?_
          refine k77 _ _ ?_
          refine run_ret ?_
          refine ⟨[.bool true], ⟨_, _, rfl, rfl, rfl⟩, ?_⟩
          exact ⟨rfl, hs65.pick [] _ (by decide) rfl⟩

end Go.Proofs.Zed
