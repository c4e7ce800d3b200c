/- The walk of MotionFurther. -/
import Derived.Test.YtobfcnfkcmhmaaaMz
set_option linter.unusedVariables false
set_option linter.unusedSimpArgs false
namespace Go.Proofs.Zed
open Go Go.RowKit Tf
attribute [local irreducible] Try.prog

set_option maxHeartbeats 4000000 in
theorem MotionFurther_fun {w : World} {W0 H0 W1 H1 W2 H2 : Int} {A0 A1 A2 : Option Addr} {m0 m1 m2 c0 c1 c2 : Nat} {xs0 xs1 xs2 : List Int} (hr0 : Rd w A0 m0 1 (u8s xs0)) (hx0 : Bytes xs0) (hr1 : Rd w A1 m1 1 (u8s xs1)) (hx1 : Bytes xs1) (hr2 : Rd w A2 m2 1 (u8s xs2)) (hx2 : Bytes xs2) (hc0 : m0 ≤ c0) (hc1 : m1 ≤ c1) (hc2 : m2 ≤ c2) {n X Y bw bh vx vy kd a b : Int} : Fun Try.prog 6 [.agg #[.int .i64 W0, .int .i64 H0, .slice A0 m0 c0, .int .i64 W1, .int .i64 H1, .slice A1 m1 c1, .int .i64 W2, .int .i64 H2, .slice A2 m2 c2], .agg #[.int .i64 n, .int .i64 X, .int .i64 Y, .int .i64 bw, .int .i64 bh, .int .i64 vx, .int .i64 vy, .int .i64 kd], .agg #[.int .i64 a, .int .i64 b]] w fun v w' => v = .bool true ∧ HS w [] w' := by
  refine fun_run (m := 114) (rs := [.tmp 6]) Try.func6 rfl rfl rfl rfl rfl ?_
  have hs0 := HS.start w
  have hbig0 := hr0.big
  have hlen_xs0 : xs0.length = m0 := by have := hr0.len; rw [u8s_length] at this; omega
  have hbig1 := hr1.big
  have hlen_xs1 : xs1.length = m1 := by have := hr1.len; rw [u8s_length] at this; omega
  have hbig2 := hr2.big
  have hlen_xs2 : xs2.length = m2 := by have := hr2.len; rw [u8s_length] at this; omega
  refine run_seq fun K1 k1 => ?_
  refine run_region ?_
  refine Ops.s (Step.box (cs := [.int .i64 W0, .int .i64 H0, .slice A0 m0 c0, .int .i64 W1, .int .i64 H1, .slice A1 m1 c1, .int .i64 W2, .int .i64 H2, .slice A2 m2 c2]) hs0 rfl rfl (fun b2 w3 hs3 hb3 => ?_) True.intro (by rfl))
  refine Ops.s (Step.box (cs := [.int .i64 n, .int .i64 X, .int .i64 Y, .int .i64 bw, .int .i64 bh, .int .i64 vx, .int .i64 vy, .int .i64 kd]) hs3 rfl rfl (fun b5 w6 hs6 hb6 => ?_) True.intro (by rfl))
  refine Ops.s (Step.box (cs := [.int .i64 a, .int .i64 b]) hs6 rfl rfl (fun b8 w9 hs9 hb9 => ?_) True.intro (by rfl))
  refine Ops.v (Yv.assign rfl) ?_
  refine Ops.nil ?_
  refine k1 _ _ ?_
  refine run_seq fun K11 k11 => ?_
  refine run_seq fun K12 k12 => ?_
  refine run_region ?_
  refine Ops.s (Step.call rfl rfl (works_fun) (?_) True.intro (by rfl))
  rintro _ w13 ⟨rfl, hs13⟩
  replace hs13 := hs9.call hs13
  refine Ops.v (Yv.not rfl) ?_
  refine Ops.nil ?_
  refine k12 _ _ ?_
  refine run_if0 rfl ?_
  refine run_skip ?_
  refine k11 _ _ ?_
  refine run_seq fun K14 k14 => ?_
  refine run_seq fun K15 k15 => ?_
  refine run_region ?_
  refine Ops.v (Yv.loadn (cs := [.int .i64 W0, .int .i64 H0, .slice A0 m0 c0, .int .i64 W1, .int .i64 H1, .slice A1 m1 c1, .int .i64 W2, .int .i64 H2, .slice A2 m2 c2]) A27 S27 rfl (now (hs13.cells 2 rfl 0 9))) ?_
  refine Ops.s (Step.call rfl rfl (whole_fun) (?_) True.intro (by rfl))
  rintro _ w16 ⟨rfl, hs16⟩
  replace hs16 := hs13.call hs16
  refine Ops.v (Yv.ne rfl rfl) ?_
  refine Ops.nil ?_
  refine k15 _ _ ?_
  refine run_ifp rfl (fun h17 => ?_) (fun h17 => ?_)
  · -- yes (wholeF W0 H0 m0 W1 H1 m1 W2 H2 m2) ≠ (0 : Int)
    refine run_seq fun K18 k18 => ?_
    refine run_region ?_
    refine Ops.v (Yv.assign rfl) ?_
    refine Ops.nil ?_
    refine k18 _ _ ?_
    refine run_ret ?_
    refine ⟨[.bool true], ⟨_, _, rfl, rfl, rfl⟩, ?_⟩
    exact ⟨rfl, hs16.pick [] _ (by decide) rfl⟩
  · -- no
    have hw0 : wholeF W0 H0 m0 W1 H1 m1 W2 H2 m2 = 0 := by omega
    refine run_skip ?_
    refine k14 _ _ ?_
    refine run_seq fun K19 k19 => ?_
    refine run_region ?_
    refine Ops.v (Yv.loadn (cs := [.int .i64 n, .int .i64 X, .int .i64 Y, .int .i64 bw, .int .i64 bh, .int .i64 vx, .int .i64 vy, .int .i64 kd]) A33 S33 rfl (now (hs16.cells 1 rfl 0 8))) ?_
    refine Ops.s (Step.call rfl rfl (may_fun) (?_) True.intro (by rfl))
    rintro _ w20 ⟨n9, X9, Y9, bw9, bh9, vx9, vy9, kd9, hn9, hX9, hY9, hbw9, hbh9, hvx9, hvy9, hkd9, rfl, hs20⟩
    replace hs20 := hs16.call hs20
    refine Ops.s (Step.store (vs := [.int .i64 n9, .int .i64 X9, .int .i64 Y9, .int .i64 bw9, .int .i64 bh9, .int .i64 vx9, .int .i64 vy9, .int .i64 kd9]) 1 hs20 rfl rfl rfl rfl S33 (Nat.le_of_ble_eq_true rfl) rfl (fun w21 hs21 => ?_) True.intro)
    replace hs21 : HS _ [.blk _ [_, _] _, .blk _ [_, _, _, _, _, _, _, _] _, .blk _ [_, _, _, _, _, _, _, _, _] _] _ := hs21
    refine Ops.nil ?_
    refine k19 _ _ ?_
    refine run_seq fun K22 k22 => ?_
    refine run_region ?_
    refine Ops.v (Yv.assign rfl) ?_
    refine Ops.nil ?_
    refine k22 _ _ ?_
    refine run_seq fun K23 k23 => ?_
    refine run_seq fun K24 k24 => ?_
    refine run_region ?_
    refine Ops.v (Yv.fld F33_0 rfl) ?_
    refine Ops.v (Yv.load A3 rfl (now (hs21.cell 1 rfl 0 rfl))) ?_
    refine Ops.v (Yv.eq rfl rfl) ?_
    refine Ops.nil ?_
    refine k24 _ _ ?_
    refine run_ifp rfl (fun h25 => ?_) (fun h25 => ?_)
    · -- yes n9 = (0 : Int)
      refine run_region ?_
      refine Ops.v (Yv.assign rfl) ?_
      refine Ops.nil ?_
      refine k23 _ _ ?_
      refine run_seq fun K26 k26 => ?_
      refine run_drawn [] (fun x => Below (w21.drew).heap.size (w21.drew) x) ?_ Tf.mixed (by kernel_rfl) (fun _ _ _ h => h)
      have hs27 := hs21.drew
      have hS28 := Below.refl (w21.drew).heap.size (w21.drew)
      refine Drw.a 0 rfl (by kernel_rfl) (Yv.idxa R54 rfl rfl (by decide) (by decide)) ?_
      refine Drw.l 1 rfl (by kernel_rfl) hS28 (Yv.load A3 rfl (fun _ hq_ => ((hs27.grow hq_).cell 0 rfl 0 rfl))) ?_
      refine Drw.a 3 rfl (by kernel_rfl) (Yv.idxa R54 rfl rfl (by decide) (by decide)) ?_
      refine Drw.l 4 rfl (by kernel_rfl) hS28 (Yv.load A3 rfl (fun _ hq_ => ((hs27.grow hq_).cell 0 rfl 1 rfl))) ?_
      refine Drw.one 2 rfl (by kernel_rfl) (Step.call rfl rfl (bring_fun (by omega)) (?_) True.intro (by rfl))
      rintro _ _ ⟨rfl, rfl⟩
      refine ⟨fun _ h => h, ?_⟩
      have g29 := bringF_bd (i := a) (n := 40) (by omega)
      refine Drw.one 5 rfl (by kernel_rfl) (Step.call rfl rfl (bring_fun (by omega)) (?_) True.intro (by rfl))
      rintro _ _ ⟨rfl, rfl⟩
      refine ⟨fun _ h => h, ?_⟩
      have g31 := bringF_bd (i := b) (n := 40) (by omega)
      refine Drw.a 6 rfl (by kernel_rfl) (Yv.assign rfl) ?_
      refine Drw.a 7 rfl (by kernel_rfl) (Yv.assign rfl) ?_
      refine Drw.done ?_ (by kernel_rfl)
      refine k26 _ _ ?_
      refine run_seq fun K33 k33 => ?_
      refine run_region ?_
      refine Ops.v (Yv.fld F33_2 rfl) ?_
      refine Ops.v (Yv.fld F31_0 rfl) ?_
      refine Ops.v (Yv.load A3 rfl (now (hs27.cell 1 rfl 5 rfl))) ?_
      have htx := tdiv_bd (u := 2) hvx9 (.inl rfl)
      refine Ops.v (Yv.quot rfl rfl (by omega) (by omega)) ?_
      refine Ops.v (Yv.fld F33_2 rfl) ?_
      refine Ops.v (Yv.fld F31_1 rfl) ?_
      refine Ops.v (Yv.load A3 rfl (now (hs27.cell 1 rfl 6 rfl))) ?_
      have hty := tdiv_bd (u := 2) hvy9 (.inl rfl)
      refine Ops.v (Yv.quot rfl rfl (by omega) (by omega)) ?_
      refine Ops.v (Yv.buildS (cs := #[.int .i64 (Int.tdiv vx9 2), .int .i64 (Int.tdiv vy9 2)]) T31 rfl rfl) ?_
      refine Ops.s (Step.alloc (cs := [.int .i64 0, .int .i64 0]) hs27 Z31 rfl (fun b34 w35 hs35 hb35 => ?_) True.intro (by rfl))
      refine Ops.s (Step.store (vs := [.int .i64 (Int.tdiv vx9 2), .int .i64 (Int.tdiv vy9 2)]) 0 hs35 rfl rfl rfl rfl S31 (Nat.le_of_ble_eq_true rfl) rfl (fun w37 hs37 => ?_) True.intro)
      replace hs37 : HS _ [.blk _ [_, _] _, .blk _ [_, _] _, .blk _ [_, _, _, _, _, _, _, _] _, .blk _ [_, _, _, _, _, _, _, _, _] _] _ := hs37
      refine Ops.nil ?_
      refine k33 _ _ ?_
      refine run_seq fun K38 k38 => ?_
      refine run_region ?_
      refine Ops.v (Yv.loadn (cs := [.int .i64 W0, .int .i64 H0, .slice A0 m0 c0, .int .i64 W1, .int .i64 H1, .slice A1 m1 c1, .int .i64 W2, .int .i64 H2, .slice A2 m2 c2]) A27 S27 rfl (now (hs37.cells 3 rfl 0 9))) ?_
      refine Ops.v (Yv.fld F33_0 rfl) ?_
      refine Ops.v (Yv.load A3 rfl (now (hs37.cell 2 rfl 0 rfl))) ?_
      refine Ops.v (Yv.fld F33_1 rfl) ?_
      refine Ops.v (Yv.loadn (cs := [.int .i64 X9, .int .i64 Y9, .int .i64 bw9, .int .i64 bh9]) A29 S29 rfl (now (hs37.cells 2 rfl 1 4))) ?_
      refine Ops.v (Yv.fld F31_0 rfl) ?_
      refine Ops.v (Yv.load A3 rfl (now (hs37.cell 0 rfl 0 rfl))) ?_
      refine Ops.v (Yv.move rfl) ?_
      refine Ops.v (Yv.move rfl) ?_
      refine Ops.v (Yv.mul rfl rfl (by omega)) ?_
      refine Ops.v (Yv.add rfl rfl (by omega)) ?_
      refine Ops.v (Yv.fld F31_1 rfl) ?_
      refine Ops.v (Yv.load A3 rfl (now (hs37.cell 0 rfl 1 rfl))) ?_
      refine Ops.v (Yv.move rfl) ?_
      refine Ops.v (Yv.move rfl) ?_
      refine Ops.v (Yv.mul rfl rfl (by omega)) ?_
      refine Ops.v (Yv.add rfl rfl (by omega)) ?_
      refine Ops.v (Yv.buildS (cs := #[.int .i64 ((Int.tdiv vx9 2) + ((8 : Int) * (bringF a 40))), .int .i64 ((Int.tdiv vy9 2) + ((8 : Int) * (bringF b 40)))]) T31 rfl rfl) ?_
      refine Ops.v (Yv.fld F33_3 rfl) ?_
      refine Ops.v (Yv.load A3 rfl (now (hs37.cell 2 rfl 7 rfl))) ?_
      refine Ops.s (Step.call rfl rfl (single_fun (hs37.rd hr0) hx0 (hs37.rd hr1) hx1 (hs37.rd hr2) hx2 (by omega) (by omega) (by omega)) (?_) True.intro (by rfl))
      rintro _ w42 ⟨Ad39, c40, rfl, hs42⟩
      replace hs42 := hs37.call hs42
      refine Ops.v (Yv.move rfl) ?_
      refine Ops.v (Yv.extract rfl rfl) ?_
      refine Ops.v (Yv.extract rfl rfl) ?_
      refine Ops.v (Yv.assign rfl) ?_
      refine Ops.v (Yv.assign rfl) ?_
      refine Ops.nil ?_
      refine k38 _ _ ?_
      refine run_seq fun K43 k43 => ?_
      refine run_region ?_
      refine Ops.v (Yv.loadn (cs := [.int .i64 W0, .int .i64 H0, .slice A0 m0 c0, .int .i64 W1, .int .i64 H1, .slice A1 m1 c1, .int .i64 W2, .int .i64 H2, .slice A2 m2 c2]) A27 S27 rfl (now (hs42.cells 4 rfl 0 9))) ?_
      refine Ops.v (Yv.fld F33_0 rfl) ?_
      refine Ops.v (Yv.load A3 rfl (now (hs42.cell 3 rfl 0 rfl))) ?_
      refine Ops.v (Yv.fld F33_1 rfl) ?_
      refine Ops.v (Yv.fld F29_0 rfl) ?_
      refine Ops.v (Yv.load A3 rfl (now (hs42.cell 3 rfl 1 rfl))) ?_
      refine Ops.v (Yv.move rfl) ?_
      refine Ops.v (Yv.add rfl rfl (by omega)) ?_
      refine Ops.v (Yv.fld F33_1 rfl) ?_
      refine Ops.v (Yv.fld F29_1 rfl) ?_
      refine Ops.v (Yv.load A3 rfl (now (hs42.cell 3 rfl 2 rfl))) ?_
      refine Ops.v (Yv.move rfl) ?_
      refine Ops.v (Yv.add rfl rfl (by omega)) ?_
      refine Ops.v (Yv.fld F33_1 rfl) ?_
      refine Ops.v (Yv.fld F29_2 rfl) ?_
      refine Ops.v (Yv.load A3 rfl (now (hs42.cell 3 rfl 3 rfl))) ?_
      refine Ops.v (Yv.fld F33_1 rfl) ?_
      refine Ops.v (Yv.fld F29_3 rfl) ?_
      refine Ops.v (Yv.load A3 rfl (now (hs42.cell 3 rfl 4 rfl))) ?_
      refine Ops.v (Yv.buildS (cs := #[.int .i64 (X9 + (bringF a 40)), .int .i64 (Y9 + (bringF b 40)), .int .i64 bw9, .int .i64 bh9]) T29 rfl rfl) ?_
      refine Ops.v (Yv.loadn (cs := [.int .i64 (Int.tdiv vx9 2), .int .i64 (Int.tdiv vy9 2)]) A31 S31 rfl (now (hs42.cells 1 rfl 0 2))) ?_
      refine Ops.v (Yv.fld F33_3 rfl) ?_
      refine Ops.v (Yv.load A3 rfl (now (hs42.cell 3 rfl 7 rfl))) ?_
      refine Ops.s (Step.call rfl rfl (single_fun (hs42.rd hr0) hx0 (hs42.rd hr1) hx1 (hs42.rd hr2) hx2 (by omega) (by omega) (by omega)) (?_) True.intro (by rfl))
      rintro _ w47 ⟨Ad44, c45, rfl, hs47⟩
      replace hs47 := hs42.call hs47
      refine Ops.v (Yv.move rfl) ?_
      refine Ops.v (Yv.extract rfl rfl) ?_
      refine Ops.v (Yv.extract rfl rfl) ?_
      refine Ops.v (Yv.assign rfl) ?_
      refine Ops.v (Yv.assign rfl) ?_
      refine Ops.nil ?_
      refine k43 _ _ ?_
      refine run_seq fun K48 k48 => ?_
      refine run_region ?_
      have hfu : (n9 = 0 ∧ (8 : Int) = 8) ∨ (n9 ≠ 0 ∧ (8 : Int) = 16) := by omega
      have hf1 := single_fine (xs0 := xs0) (xs1 := xs1) (xs2 := xs2) (n := n9) (X := X9) (Y := Y9) (bw := bw9) (bh := bh9) (vx := (Int.tdiv vx9 2 + 8 * (bringF a 40))) (vy := (Int.tdiv vy9 2 + 8 * (bringF b 40))) (kd := kd9) hw0 hn9 (by omega) (by omega) (by omega) (by omega) (by omega) (by omega) hkd9
      have hf2 := single_fine (xs0 := xs0) (xs1 := xs1) (xs2 := xs2) (n := n9) (X := (X9 + bringF a 40)) (Y := (Y9 + bringF b 40)) (bw := bw9) (bh := bh9) (vx := (Int.tdiv vx9 2)) (vy := (Int.tdiv vy9 2)) (kd := kd9) hw0 hn9 (by omega) (by omega) (by omega) (by omega) (by omega) (by omega) hkd9
      refine Ops.v (Yv.move rfl) ?_
      refine Ops.v (Yv.eq rfl rfl) ?_
      refine Ops.dec1 (hf1.1) ?_
      refine Ops.v (Yv.move rfl) ?_
      refine Ops.vg ⟨_, rfl, rfl⟩ (Yv.move rfl) ?_
      refine Ops.vg ⟨_, rfl, rfl⟩ (Yv.eq rfl rfl) ?_
      refine Ops.dec1 (hf2.1) ?_
      refine Ops.v (Yv.pick1 rfl rfl) ?_
      refine Ops.v (Yv.move rfl) ?_
      refine Ops.vg ⟨_, rfl, rfl⟩ (Yv.move rfl) ?_
      refine Ops.vg ⟨_, rfl, rfl⟩ (Yv.move rfl) ?_
      refine Ops.s (Step.call rfl rfl (eqBytes_fun (hs47.rdRow 1 rfl) (hs47.rdRow 0 rfl)) (?_) ⟨_, rfl, rfl⟩ (by rfl))
      rintro _ w49 ⟨rfl, hs49⟩
      replace hs49 := hs47.call hs49
      refine Ops.dec1 (by rw [hf1.2.1, hf2.2.1, by_u hfu, by_u hfu]) ?_
      refine Ops.v (Yv.pick1 rfl rfl) ?_
      refine Ops.v (Yv.move rfl) ?_
      refine Ops.vg ⟨_, rfl, rfl⟩ (Yv.move rfl) ?_
      refine Ops.vg ⟨_, rfl, rfl⟩ (Yv.len (by rw [L22]; rfl) rfl) ?_
      refine Ops.vg ⟨_, rfl, rfl⟩ (Yv.fld F33_1 rfl) ?_
      refine Ops.vg ⟨_, rfl, rfl⟩ (Yv.fld F29_2 rfl) ?_
      refine Ops.vg ⟨_, rfl, rfl⟩ (Yv.load A3 rfl (now (hs49.cell 4 rfl 3 rfl))) ?_
      refine Ops.vg ⟨_, rfl, rfl⟩ (Yv.fld F33_1 rfl) ?_
      refine Ops.vg ⟨_, rfl, rfl⟩ (Yv.fld F29_3 rfl) ?_
      refine Ops.vg ⟨_, rfl, rfl⟩ (Yv.load A3 rfl (now (hs49.cell 4 rfl 4 rfl))) ?_
      have hbb := mul_bd (a := bw9) (b := bh9) (x := 64) (y := 64) (by omega) (by omega) (by omega) (by omega)
      refine Ops.vg ⟨_, rfl, rfl⟩ (Yv.mul rfl rfl (by omega)) ?_
      refine Ops.vg ⟨_, rfl, rfl⟩ (Yv.eq rfl rfl) ?_
      refine Ops.dec1 (hf1.2.2) ?_
      refine Ops.v (Yv.pick1 rfl rfl) ?_
      refine Ops.v (Yv.assign rfl) ?_
      refine Ops.nil ?_
      refine k48 _ _ ?_
      refine run_ret ?_
      refine ⟨[.bool true], ⟨_, _, rfl, rfl, rfl⟩, ?_⟩
      exact ⟨rfl, hs49.pick [] _ (by decide) rfl⟩
    · -- no
      refine run_skip ?_
      refine k23 _ _ ?_
      refine run_seq fun K50 k50 => ?_
      refine run_drawn [] (fun x => Below (w21.drew).heap.size (w21.drew) x) ?_ Tf.mixed (by kernel_rfl) (fun _ _ _ h => h)
      have hs51 := hs21.drew
      have hS52 := Below.refl (w21.drew).heap.size (w21.drew)
      refine Drw.a 0 rfl (by kernel_rfl) (Yv.idxa R54 rfl rfl (by decide) (by decide)) ?_
      refine Drw.l 1 rfl (by kernel_rfl) hS52 (Yv.load A3 rfl (fun _ hq_ => ((hs51.grow hq_).cell 0 rfl 0 rfl))) ?_
      refine Drw.a 3 rfl (by kernel_rfl) (Yv.idxa R54 rfl rfl (by decide) (by decide)) ?_
      refine Drw.l 4 rfl (by kernel_rfl) hS52 (Yv.load A3 rfl (fun _ hq_ => ((hs51.grow hq_).cell 0 rfl 1 rfl))) ?_
      refine Drw.one 2 rfl (by kernel_rfl) (Step.call rfl rfl (bring_fun (by omega)) (?_) True.intro (by rfl))
      rintro _ _ ⟨rfl, rfl⟩
      refine ⟨fun _ h => h, ?_⟩
      have g53 := bringF_bd (i := a) (n := 40) (by omega)
      refine Drw.one 5 rfl (by kernel_rfl) (Step.call rfl rfl (bring_fun (by omega)) (?_) True.intro (by rfl))
      rintro _ _ ⟨rfl, rfl⟩
      refine ⟨fun _ h => h, ?_⟩
      have g55 := bringF_bd (i := b) (n := 40) (by omega)
      refine Drw.a 6 rfl (by kernel_rfl) (Yv.assign rfl) ?_
      refine Drw.a 7 rfl (by kernel_rfl) (Yv.assign rfl) ?_
      refine Drw.done ?_ (by kernel_rfl)
      refine k50 _ _ ?_
      refine run_seq fun K57 k57 => ?_
      refine run_region ?_
      refine Ops.v (Yv.fld F33_2 rfl) ?_
      refine Ops.v (Yv.fld F31_0 rfl) ?_
      refine Ops.v (Yv.load A3 rfl (now (hs51.cell 1 rfl 5 rfl))) ?_
      have htx := tdiv_bd (u := 2) hvx9 (.inl rfl)
      refine Ops.v (Yv.quot rfl rfl (by omega) (by omega)) ?_
      refine Ops.v (Yv.fld F33_2 rfl) ?_
      refine Ops.v (Yv.fld F31_1 rfl) ?_
      refine Ops.v (Yv.load A3 rfl (now (hs51.cell 1 rfl 6 rfl))) ?_
      have hty := tdiv_bd (u := 2) hvy9 (.inl rfl)
      refine Ops.v (Yv.quot rfl rfl (by omega) (by omega)) ?_
      refine Ops.v (Yv.buildS (cs := #[.int .i64 (Int.tdiv vx9 2), .int .i64 (Int.tdiv vy9 2)]) T31 rfl rfl) ?_
      refine Ops.s (Step.alloc (cs := [.int .i64 0, .int .i64 0]) hs51 Z31 rfl (fun b58 w59 hs59 hb59 => ?_) True.intro (by rfl))
      refine Ops.s (Step.store (vs := [.int .i64 (Int.tdiv vx9 2), .int .i64 (Int.tdiv vy9 2)]) 0 hs59 rfl rfl rfl rfl S31 (Nat.le_of_ble_eq_true rfl) rfl (fun w61 hs61 => ?_) True.intro)
      replace hs61 : HS _ [.blk _ [_, _] _, .blk _ [_, _] _, .blk _ [_, _, _, _, _, _, _, _] _, .blk _ [_, _, _, _, _, _, _, _, _] _] _ := hs61
      refine Ops.nil ?_
      refine k57 _ _ ?_
      refine run_seq fun K62 k62 => ?_
      refine run_region ?_
      refine Ops.v (Yv.loadn (cs := [.int .i64 W0, .int .i64 H0, .slice A0 m0 c0, .int .i64 W1, .int .i64 H1, .slice A1 m1 c1, .int .i64 W2, .int .i64 H2, .slice A2 m2 c2]) A27 S27 rfl (now (hs61.cells 3 rfl 0 9))) ?_
      refine Ops.v (Yv.fld F33_0 rfl) ?_
      refine Ops.v (Yv.load A3 rfl (now (hs61.cell 2 rfl 0 rfl))) ?_
      refine Ops.v (Yv.fld F33_1 rfl) ?_
      refine Ops.v (Yv.loadn (cs := [.int .i64 X9, .int .i64 Y9, .int .i64 bw9, .int .i64 bh9]) A29 S29 rfl (now (hs61.cells 2 rfl 1 4))) ?_
      refine Ops.v (Yv.fld F31_0 rfl) ?_
      refine Ops.v (Yv.load A3 rfl (now (hs61.cell 0 rfl 0 rfl))) ?_
      refine Ops.v (Yv.move rfl) ?_
      refine Ops.v (Yv.move rfl) ?_
      refine Ops.v (Yv.mul rfl rfl (by omega)) ?_
      refine Ops.v (Yv.add rfl rfl (by omega)) ?_
      refine Ops.v (Yv.fld F31_1 rfl) ?_
      refine Ops.v (Yv.load A3 rfl (now (hs61.cell 0 rfl 1 rfl))) ?_
      refine Ops.v (Yv.move rfl) ?_
      refine Ops.v (Yv.move rfl) ?_
      refine Ops.v (Yv.mul rfl rfl (by omega)) ?_
      refine Ops.v (Yv.add rfl rfl (by omega)) ?_
      refine Ops.v (Yv.buildS (cs := #[.int .i64 ((Int.tdiv vx9 2) + ((16 : Int) * (bringF a 40))), .int .i64 ((Int.tdiv vy9 2) + ((16 : Int) * (bringF b 40)))]) T31 rfl rfl) ?_
      refine Ops.v (Yv.fld F33_3 rfl) ?_
      refine Ops.v (Yv.load A3 rfl (now (hs61.cell 2 rfl 7 rfl))) ?_
      refine Ops.s (Step.call rfl rfl (single_fun (hs61.rd hr0) hx0 (hs61.rd hr1) hx1 (hs61.rd hr2) hx2 (by omega) (by omega) (by omega)) (?_) True.intro (by rfl))
      rintro _ w66 ⟨Ad63, c64, rfl, hs66⟩
      replace hs66 := hs61.call hs66
      refine Ops.v (Yv.move rfl) ?_
      refine Ops.v (Yv.extract rfl rfl) ?_
      refine Ops.v (Yv.extract rfl rfl) ?_
      refine Ops.v (Yv.assign rfl) ?_
      refine Ops.v (Yv.assign rfl) ?_
      refine Ops.nil ?_
      refine k62 _ _ ?_
      refine run_seq fun K67 k67 => ?_
      refine run_region ?_
      refine Ops.v (Yv.loadn (cs := [.int .i64 W0, .int .i64 H0, .slice A0 m0 c0, .int .i64 W1, .int .i64 H1, .slice A1 m1 c1, .int .i64 W2, .int .i64 H2, .slice A2 m2 c2]) A27 S27 rfl (now (hs66.cells 4 rfl 0 9))) ?_
      refine Ops.v (Yv.fld F33_0 rfl) ?_
      refine Ops.v (Yv.load A3 rfl (now (hs66.cell 3 rfl 0 rfl))) ?_
      refine Ops.v (Yv.fld F33_1 rfl) ?_
      refine Ops.v (Yv.fld F29_0 rfl) ?_
      refine Ops.v (Yv.load A3 rfl (now (hs66.cell 3 rfl 1 rfl))) ?_
      refine Ops.v (Yv.move rfl) ?_
      refine Ops.v (Yv.add rfl rfl (by omega)) ?_
      refine Ops.v (Yv.fld F33_1 rfl) ?_
      refine Ops.v (Yv.fld F29_1 rfl) ?_
      refine Ops.v (Yv.load A3 rfl (now (hs66.cell 3 rfl 2 rfl))) ?_
      refine Ops.v (Yv.move rfl) ?_
      refine Ops.v (Yv.add rfl rfl (by omega)) ?_
      refine Ops.v (Yv.fld F33_1 rfl) ?_
      refine Ops.v (Yv.fld F29_2 rfl) ?_
      refine Ops.v (Yv.load A3 rfl (now (hs66.cell 3 rfl 3 rfl))) ?_
      refine Ops.v (Yv.fld F33_1 rfl) ?_
      refine Ops.v (Yv.fld F29_3 rfl) ?_
      refine Ops.v (Yv.load A3 rfl (now (hs66.cell 3 rfl 4 rfl))) ?_
      refine Ops.v (Yv.buildS (cs := #[.int .i64 (X9 + (bringF a 40)), .int .i64 (Y9 + (bringF b 40)), .int .i64 bw9, .int .i64 bh9]) T29 rfl rfl) ?_
      refine Ops.v (Yv.loadn (cs := [.int .i64 (Int.tdiv vx9 2), .int .i64 (Int.tdiv vy9 2)]) A31 S31 rfl (now (hs66.cells 1 rfl 0 2))) ?_
      refine Ops.v (Yv.fld F33_3 rfl) ?_
      refine Ops.v (Yv.load A3 rfl (now (hs66.cell 3 rfl 7 rfl))) ?_
      refine Ops.s (Step.call rfl rfl (single_fun (hs66.rd hr0) hx0 (hs66.rd hr1) hx1 (hs66.rd hr2) hx2 (by omega) (by omega) (by omega)) (?_) True.intro (by rfl))
      rintro _ w71 ⟨Ad68, c69, rfl, hs71⟩
      replace hs71 := hs66.call hs71
      refine Ops.v (Yv.move rfl) ?_
      refine Ops.v (Yv.extract rfl rfl) ?_
      refine Ops.v (Yv.extract rfl rfl) ?_
      refine Ops.v (Yv.assign rfl) ?_
      refine Ops.v (Yv.assign rfl) ?_
      refine Ops.nil ?_
      refine k67 _ _ ?_
      refine run_seq fun K72 k72 => ?_
      refine run_region ?_
      have hfu : (n9 = 0 ∧ (16 : Int) = 8) ∨ (n9 ≠ 0 ∧ (16 : Int) = 16) := by omega
      have hf1 := single_fine (xs0 := xs0) (xs1 := xs1) (xs2 := xs2) (n := n9) (X := X9) (Y := Y9) (bw := bw9) (bh := bh9) (vx := (Int.tdiv vx9 2 + 16 * (bringF a 40))) (vy := (Int.tdiv vy9 2 + 16 * (bringF b 40))) (kd := kd9) hw0 hn9 (by omega) (by omega) (by omega) (by omega) (by omega) (by omega) hkd9
      have hf2 := single_fine (xs0 := xs0) (xs1 := xs1) (xs2 := xs2) (n := n9) (X := (X9 + bringF a 40)) (Y := (Y9 + bringF b 40)) (bw := bw9) (bh := bh9) (vx := (Int.tdiv vx9 2)) (vy := (Int.tdiv vy9 2)) (kd := kd9) hw0 hn9 (by omega) (by omega) (by omega) (by omega) (by omega) (by omega) hkd9
      refine Ops.v (Yv.move rfl) ?_
      refine Ops.v (Yv.eq rfl rfl) ?_
      refine Ops.dec1 (hf1.1) ?_
      refine Ops.v (Yv.move rfl) ?_
      refine Ops.vg ⟨_, rfl, rfl⟩ (Yv.move rfl) ?_
      refine Ops.vg ⟨_, rfl, rfl⟩ (Yv.eq rfl rfl) ?_
      refine Ops.dec1 (hf2.1) ?_
      refine Ops.v (Yv.pick1 rfl rfl) ?_
      refine Ops.v (Yv.move rfl) ?_
      refine Ops.vg ⟨_, rfl, rfl⟩ (Yv.move rfl) ?_
      refine Ops.vg ⟨_, rfl, rfl⟩ (Yv.move rfl) ?_
      refine Ops.s (Step.call rfl rfl (eqBytes_fun (hs71.rdRow 1 rfl) (hs71.rdRow 0 rfl)) (?_) ⟨_, rfl, rfl⟩ (by rfl))
      rintro _ w73 ⟨rfl, hs73⟩
      replace hs73 := hs71.call hs73
      refine Ops.dec1 (by rw [hf1.2.1, hf2.2.1, by_u hfu, by_u hfu]) ?_
      refine Ops.v (Yv.pick1 rfl rfl) ?_
      refine Ops.v (Yv.move rfl) ?_
      refine Ops.vg ⟨_, rfl, rfl⟩ (Yv.move rfl) ?_
      refine Ops.vg ⟨_, rfl, rfl⟩ (Yv.len (by rw [L22]; rfl) rfl) ?_
      refine Ops.vg ⟨_, rfl, rfl⟩ (Yv.fld F33_1 rfl) ?_
      refine Ops.vg ⟨_, rfl, rfl⟩ (Yv.fld F29_2 rfl) ?_
      refine Ops.vg ⟨_, rfl, rfl⟩ (Yv.load A3 rfl (now (hs73.cell 4 rfl 3 rfl))) ?_
      refine Ops.vg ⟨_, rfl, rfl⟩ (Yv.fld F33_1 rfl) ?_
      refine Ops.vg ⟨_, rfl, rfl⟩ (Yv.fld F29_3 rfl) ?_
      refine Ops.vg ⟨_, rfl, rfl⟩ (Yv.load A3 rfl (now (hs73.cell 4 rfl 4 rfl))) ?_
      have hbb := mul_bd (a := bw9) (b := bh9) (x := 64) (y := 64) (by omega) (by omega) (by omega) (by omega)
      refine Ops.vg ⟨_, rfl, rfl⟩ (Yv.mul rfl rfl (by omega)) ?_
      refine Ops.vg ⟨_, rfl, rfl⟩ (Yv.eq rfl rfl) ?_
      refine Ops.dec1 (hf1.2.2) ?_
      refine Ops.v (Yv.pick1 rfl rfl) ?_
      refine Ops.v (Yv.assign rfl) ?_
      refine Ops.nil ?_
      refine k72 _ _ ?_
      refine run_ret ?_
      refine ⟨[.bool true], ⟨_, _, rfl, rfl, rfl⟩, ?_⟩
      exact ⟨rfl, hs73.pick [] _ (by decide) rfl⟩

end Go.Proofs.Zed
