/- The walks of Single (chapter 15), the program's and the reference's. -/
import Derived.Test.YtobfcnfkcmhmaaaMw
import Derived.Test.YtobfcnfkcmhmaaaMc
set_option linter.unusedVariables false
set_option linter.unusedSimpArgs false
namespace Go.Proofs.Zed
open Go Go.RowKit Tf
attribute [local irreducible] Try.prog

theorem part_fun {w : World} {n : Int} : Fun Try.prog 40 [.int .i64 n] w fun v w' => v = .bool (decide (-4095 ≤ n ∧ n ≤ 4095)) ∧ w = w' := by
  refine fun_run (m := 9) (rs := [.tmp 2]) Try.func40 rfl rfl rfl rfl rfl ?_
  have hs0 := HS.start w
  refine run_seq fun K1 k1 => ?_
  refine run_region ?_
  refine Ops.v (Yv.assign rfl) ?_
  refine Ops.nil ?_
  refine k1 _ _ ?_
  refine run_seq fun K2 k2 => ?_
  refine Run.cut (fun e_ w_ => w = w_ ∧ Le [(0, .int .i64 n), (2, .bool (decide ((((-4095) : Int) ≤ n) ∧ (n ≤ (4095 : Int)))))] e_) ?_ ?_
  · -- region 1: its ways meet again
    refine run_region ?_
    refine Ops.v (Yv.move rfl) ?_
    refine Ops.v (Yv.ge rfl rfl) ?_
    refine Ops.dec (fun h3 => ?_) (fun h3 => ?_)
    · -- yes
      refine Ops.v (Yv.move rfl) ?_
      refine Ops.vg ⟨_, rfl, rfl⟩ (Yv.move rfl) ?_
      refine Ops.vg ⟨_, rfl, rfl⟩ (Yv.le rfl rfl) ?_
      refine Ops.v (Yv.pick1 rfl rfl) ?_
      refine Ops.v (Yv.assign rfl) ?_
      refine Ops.nil ?_
      refine ⟨rfl, Sub.le ⟨rfl, lookB rfl (by first | (simp only [h3, ne_eq, not_true_eq_false, not_false_eq_true, or_true, true_or, or_false, false_or, and_true, true_and, and_false, false_and, decide_true, decide_false, or_self, and_self, Bool.decide_eq_true]; done) | simp [h3]), trivial⟩⟩
    · -- no
      refine Ops.v (Yv.move rfl) ?_
      refine Ops.skip ⟨_, rfl, rfl⟩ ?_
      refine Ops.skip ⟨_, rfl, rfl⟩ ?_
      refine Ops.v (Yv.pick0 rfl rfl) ?_
      refine Ops.v (Yv.assign rfl) ?_
      refine Ops.nil ?_
      refine ⟨rfl, Sub.le ⟨rfl, lookB rfl (by first | (simp only [h3, ne_eq, not_true_eq_false, not_false_eq_true, or_true, true_or, or_false, false_or, and_true, true_and, and_false, false_and, decide_true, decide_false, or_self, and_self, Bool.decide_eq_true]; done) | simp [h3]), trivial⟩⟩
  rintro e4 _ ⟨rfl, he4⟩
  refine k2 _ _ ?_
  refine Run.le he4 ?_
  refine run_ret ?_
  refine ⟨[.bool (decide ((((-4095) : Int) ≤ n) ∧ (n ≤ (4095 : Int))))], ⟨_, _, rfl, rfl, rfl⟩, ?_⟩
  exact ⟨rfl, rfl⟩

set_option maxHeartbeats 2000000 in
theorem single_0 {w : World} {W0 H0 W1 H1 W2 H2 : Int} {A0 A1 A2 : Option Addr} {m0 m1 m2 c0 c1 c2 : Nat} {xs0 xs1 xs2 : List Int} (hr0 : Rd w A0 m0 1 (u8s xs0)) (hx0 : Bytes xs0) (hr1 : Rd w A1 m1 1 (u8s xs1)) (hx1 : Bytes xs1) (hr2 : Rd w A2 m2 1 (u8s xs2)) (hx2 : Bytes xs2) (hc0 : m0 ≤ c0) (hc1 : m1 ≤ c1) (hc2 : m2 ≤ c2) {X Y bw bh vx vy kd : Int} : Fun Try.prog 12 [.agg #[.int .i64 W0, .int .i64 H0, .slice A0 m0 c0, .int .i64 W1, .int .i64 H1, .slice A1 m1 c1, .int .i64 W2, .int .i64 H2, .slice A2 m2 c2], .int .i64 0, .agg #[.int .i64 X, .int .i64 Y, .int .i64 bw, .int .i64 bh], .agg #[.int .i64 vx, .int .i64 vy], .int .i64 kd] w fun v w' => ∃ A' c', v = .tuple #[.slice A' (singleOut W0 H0 m0 W1 H1 m1 W2 H2 m2 xs0 xs1 xs2 0 X Y bw bh vx vy kd).length c', .int .i64 (singleE W0 H0 m0 W1 H1 m1 W2 H2 m2 0 X Y bw bh vx vy kd)] ∧ HS w [.row A' (singleOut W0 H0 m0 W1 H1 m1 W2 H2 m2 xs0 xs1 xs2 0 X Y bw bh vx vy kd).length c' (u8s (singleOut W0 H0 m0 W1 H1 m1 W2 H2 m2 xs0 xs1 xs2 0 X Y bw bh vx vy kd)) 5 1] w' := by
  refine fun_run (m := 78) (rs := [.tmp 10, .tmp 11]) Try.func12 rfl rfl rfl rfl rfl ?_
  have hs0 := HS.start w
  have hbig0 := hr0.big
  have hlen_xs0 : xs0.length = m0 := by have := hr0.len; rw [u8s_length] at this; omega
  have hbig1 := hr1.big
  have hlen_xs1 : xs1.length = m1 := by have := hr1.len; rw [u8s_length] at this; omega
  have hbig2 := hr2.big
  have hlen_xs2 : xs2.length = m2 := by have := hr2.len; rw [u8s_length] at this; omega
  refine run_seq fun K1 k1 => ?_
  refine run_region ?_
  refine Ops.s (Step.box (cs := [.int .i64 W0, .int .i64 H0, .slice A0 m0 c0, .int .i64 W1, .int .i64 H1, .slice A1 m1 c1, .int .i64 W2, .int .i64 H2, .slice A2 m2 c2]) hs0 rfl rfl (fun b2 w3 hs3 hb3 => ?_) True.intro (by rfl))
  refine Ops.s (Step.box (cs := [.int .i64 X, .int .i64 Y, .int .i64 bw, .int .i64 bh]) hs3 rfl rfl (fun b5 w6 hs6 hb6 => ?_) True.intro (by rfl))
  refine Ops.s (Step.box (cs := [.int .i64 vx, .int .i64 vy]) hs6 rfl rfl (fun b8 w9 hs9 hb9 => ?_) True.intro (by rfl))
  refine Ops.v (Yv.assign rfl) ?_
  refine Ops.v (Yv.assign rfl) ?_
  refine Ops.nil ?_
  refine k1 _ _ ?_
  refine run_seq fun K11 k11 => ?_
  refine run_block ?_
  refine run_seq fun K12 k12 => ?_
  refine run_seq fun K13 k13 => ?_
  refine run_region ?_
  refine Ops.v (Yv.loadn (cs := [.int .i64 W0, .int .i64 H0, .slice A0 m0 c0, .int .i64 W1, .int .i64 H1, .slice A1 m1 c1, .int .i64 W2, .int .i64 H2, .slice A2 m2 c2]) A27 S27 rfl (now (hs9.cells 2 rfl 0 9))) ?_
  refine Ops.s (Step.call rfl rfl (whole_fun) (?_) True.intro (by rfl))
  rintro _ w14 ⟨rfl, hs14⟩
  replace hs14 := hs9.call hs14
  refine Ops.v (Yv.ne rfl rfl) ?_
  refine Ops.v (Yv.assign rfl) ?_
  refine Ops.nil ?_
  refine k13 _ _ ?_
  refine run_ifp rfl (fun h15 => ?_) (fun h15 => ?_)
  · -- yes (wholeF W0 H0 m0 W1 H1 m1 W2 H2 m2) ≠ (0 : Int)
    refine run_skip ?_
    refine k12 _ _ ?_
    refine run_ifp rfl (fun _ => ?_) (fun hx => absurd h15 hx)
    refine run_seq fun K16 k16 => ?_
    refine run_region ?_
    refine Ops.v (Yv.assign rfl) ?_
    refine Ops.v (Yv.assign rfl) ?_
    refine Ops.nil ?_
    refine k16 _ _ ?_
    refine run_ret ?_
    refine ⟨[.slice none 0 0, .int .i64 2], ⟨_, _, rfl, rfl, ⟨_, _, rfl, rfl, rfl⟩⟩, ?_⟩
    obtain ⟨e1, e2⟩ := single_bad (W0 := W0) (H0 := H0) (m0 := m0) (W1 := W1) (H1 := H1) (m1 := m1) (W2 := W2) (H2 := H2) (m2 := m2) (xs0 := xs0) (xs1 := xs1) (xs2 := xs2) (n := 0) (X := X) (Y := Y) (bw := bw) (bh := bh) (vx := vx) (vy := vy) (kd := kd) (by unfold singleOk; omega)
    rw [e1, e2]
    exact ⟨none, 0, rfl, (hs14.pick [] [] (by decide) rfl).nilRow 5 1⟩
  · -- no
    refine run_region ?_
    refine Ops.v (Yv.move rfl) ?_
    refine Ops.s (Step.call rfl rfl (within_fun) (?_) True.intro (by rfl))
    rintro _ _ ⟨rfl, rfl⟩
    refine Ops.v (Yv.notp rfl) ?_
    refine Ops.v (Yv.assign rfl) ?_
    refine Ops.nil ?_
    refine k12 _ _ ?_
    refine run_ifp rfl (fun h18 => ?_) (fun h18 => ?_)
    · -- yes ¬ ((0 : Int) ≤ 0 ∧ (0 : Int) ≤ 2)
      refine run_seq fun K19 k19 => ?_
      refine run_region ?_
      refine Ops.v (Yv.assign rfl) ?_
      refine Ops.v (Yv.assign rfl) ?_
      refine Ops.nil ?_
      refine k19 _ _ ?_
      refine run_ret ?_
      refine ⟨[.slice none 0 0, .int .i64 2], ⟨_, _, rfl, rfl, ⟨_, _, rfl, rfl, rfl⟩⟩, ?_⟩
      obtain ⟨e1, e2⟩ := single_bad (W0 := W0) (H0 := H0) (m0 := m0) (W1 := W1) (H1 := H1) (m1 := m1) (W2 := W2) (H2 := H2) (m2 := m2) (xs0 := xs0) (xs1 := xs1) (xs2 := xs2) (n := 0) (X := X) (Y := Y) (bw := bw) (bh := bh) (vx := vx) (vy := vy) (kd := kd) (by unfold singleOk; omega)
      rw [e1, e2]
      exact ⟨none, 0, rfl, (hs14.pick [] [] (by decide) rfl).nilRow 5 1⟩
    · -- no
      refine run_seq fun K20 k20 => ?_
      refine run_seq fun K21 k21 => ?_
      refine run_region ?_
      refine Ops.v (Yv.fld F29_0 rfl) ?_
      refine Ops.v (Yv.load A3 rfl (now (hs14.cell 1 rfl 0 rfl))) ?_
      refine Ops.s (Step.call rfl rfl (within_fun) (?_) True.intro (by rfl))
      rintro _ _ ⟨rfl, rfl⟩
      refine Ops.v (Yv.notp rfl) ?_
      refine Ops.v (Yv.assign rfl) ?_
      refine Ops.nil ?_
      refine k21 _ _ ?_
      refine run_ifp rfl (fun h23 => ?_) (fun h23 => ?_)
      · -- yes ¬ ((0 : Int) ≤ X ∧ X ≤ 1024)
        refine run_skip ?_
        refine k20 _ _ ?_
        refine run_ifp rfl (fun _ => ?_) (fun hx => absurd h23 hx)
        refine run_seq fun K24 k24 => ?_
        refine run_region ?_
        refine Ops.v (Yv.assign rfl) ?_
        refine Ops.v (Yv.assign rfl) ?_
        refine Ops.nil ?_
        refine k24 _ _ ?_
        refine run_ret ?_
        refine ⟨[.slice none 0 0, .int .i64 2], ⟨_, _, rfl, rfl, ⟨_, _, rfl, rfl, rfl⟩⟩, ?_⟩
        obtain ⟨e1, e2⟩ := single_bad (W0 := W0) (H0 := H0) (m0 := m0) (W1 := W1) (H1 := H1) (m1 := m1) (W2 := W2) (H2 := H2) (m2 := m2) (xs0 := xs0) (xs1 := xs1) (xs2 := xs2) (n := 0) (X := X) (Y := Y) (bw := bw) (bh := bh) (vx := vx) (vy := vy) (kd := kd) (by unfold singleOk; omega)
        rw [e1, e2]
        exact ⟨none, 0, rfl, (hs14.pick [] [] (by decide) rfl).nilRow 5 1⟩
      · -- no
        refine run_seq fun K25 k25 => ?_
        refine run_region ?_
        refine Ops.v (Yv.fld F29_1 rfl) ?_
        refine Ops.v (Yv.load A3 rfl (now (hs14.cell 1 rfl 1 rfl))) ?_
        refine Ops.s (Step.call rfl rfl (within_fun) (?_) True.intro (by rfl))
        rintro _ _ ⟨rfl, rfl⟩
        refine Ops.v (Yv.notp rfl) ?_
        refine Ops.v (Yv.assign rfl) ?_
        refine Ops.nil ?_
        refine k25 _ _ ?_
        refine run_ifp rfl (fun h27 => ?_) (fun h27 => ?_)
        · -- yes ¬ ((0 : Int) ≤ Y ∧ Y ≤ 1024)
          refine run_skip ?_
          refine k20 _ _ ?_
          refine run_ifp rfl (fun _ => ?_) (fun hx => absurd h27 hx)
          refine run_seq fun K28 k28 => ?_
          refine run_region ?_
          refine Ops.v (Yv.assign rfl) ?_
          refine Ops.v (Yv.assign rfl) ?_
          refine Ops.nil ?_
          refine k28 _ _ ?_
          refine run_ret ?_
          refine ⟨[.slice none 0 0, .int .i64 2], ⟨_, _, rfl, rfl, ⟨_, _, rfl, rfl, rfl⟩⟩, ?_⟩
          obtain ⟨e1, e2⟩ := single_bad (W0 := W0) (H0 := H0) (m0 := m0) (W1 := W1) (H1 := H1) (m1 := m1) (W2 := W2) (H2 := H2) (m2 := m2) (xs0 := xs0) (xs1 := xs1) (xs2 := xs2) (n := 0) (X := X) (Y := Y) (bw := bw) (bh := bh) (vx := vx) (vy := vy) (kd := kd) (by unfold singleOk; omega)
          rw [e1, e2]
          exact ⟨none, 0, rfl, (hs14.pick [] [] (by decide) rfl).nilRow 5 1⟩
        · -- no
          refine run_seq fun K29 k29 => ?_
          refine run_region ?_
          refine Ops.v (Yv.fld F29_2 rfl) ?_
          refine Ops.v (Yv.load A3 rfl (now (hs14.cell 1 rfl 2 rfl))) ?_
          refine Ops.s (Step.call rfl rfl (within_fun) (?_) True.intro (by rfl))
          rintro _ _ ⟨rfl, rfl⟩
          refine Ops.v (Yv.notp rfl) ?_
          refine Ops.v (Yv.assign rfl) ?_
          refine Ops.nil ?_
          refine k29 _ _ ?_
          refine run_ifp rfl (fun h31 => ?_) (fun h31 => ?_)
          · -- yes ¬ ((4 : Int) ≤ bw ∧ bw ≤ 64)
            refine run_skip ?_
            refine k20 _ _ ?_
            refine run_ifp rfl (fun _ => ?_) (fun hx => absurd h31 hx)
            refine run_seq fun K32 k32 => ?_
            refine run_region ?_
            refine Ops.v (Yv.assign rfl) ?_
            refine Ops.v (Yv.assign rfl) ?_
            refine Ops.nil ?_
            refine k32 _ _ ?_
            refine run_ret ?_
            refine ⟨[.slice none 0 0, .int .i64 2], ⟨_, _, rfl, rfl, ⟨_, _, rfl, rfl, rfl⟩⟩, ?_⟩
            obtain ⟨e1, e2⟩ := single_bad (W0 := W0) (H0 := H0) (m0 := m0) (W1 := W1) (H1 := H1) (m1 := m1) (W2 := W2) (H2 := H2) (m2 := m2) (xs0 := xs0) (xs1 := xs1) (xs2 := xs2) (n := 0) (X := X) (Y := Y) (bw := bw) (bh := bh) (vx := vx) (vy := vy) (kd := kd) (by unfold singleOk; omega)
            rw [e1, e2]
            exact ⟨none, 0, rfl, (hs14.pick [] [] (by decide) rfl).nilRow 5 1⟩
          · -- no
            refine run_region ?_
            refine Ops.v (Yv.fld F29_3 rfl) ?_
            refine Ops.v (Yv.load A3 rfl (now (hs14.cell 1 rfl 3 rfl))) ?_
            refine Ops.s (Step.call rfl rfl (within_fun) (?_) True.intro (by rfl))
            rintro _ _ ⟨rfl, rfl⟩
            refine Ops.v (Yv.notp rfl) ?_
            refine Ops.v (Yv.assign rfl) ?_
            refine Ops.nil ?_
            refine k20 _ _ ?_
            refine run_ifp rfl (fun h34 => ?_) (fun h34 => ?_)
            · -- yes ¬ ((4 : Int) ≤ bh ∧ bh ≤ 64)
              refine run_seq fun K35 k35 => ?_
              refine run_region ?_
              refine Ops.v (Yv.assign rfl) ?_
              refine Ops.v (Yv.assign rfl) ?_
              refine Ops.nil ?_
              refine k35 _ _ ?_
              refine run_ret ?_
              refine ⟨[.slice none 0 0, .int .i64 2], ⟨_, _, rfl, rfl, ⟨_, _, rfl, rfl, rfl⟩⟩, ?_⟩
              obtain ⟨e1, e2⟩ := single_bad (W0 := W0) (H0 := H0) (m0 := m0) (W1 := W1) (H1 := H1) (m1 := m1) (W2 := W2) (H2 := H2) (m2 := m2) (xs0 := xs0) (xs1 := xs1) (xs2 := xs2) (n := 0) (X := X) (Y := Y) (bw := bw) (bh := bh) (vx := vx) (vy := vy) (kd := kd) (by unfold singleOk; omega)
              rw [e1, e2]
              exact ⟨none, 0, rfl, (hs14.pick [] [] (by decide) rfl).nilRow 5 1⟩
            · -- no
              refine run_seq fun K36 k36 => ?_
              refine run_seq fun K37 k37 => ?_
              refine run_region ?_
              refine Ops.v (Yv.fld F31_0 rfl) ?_
              refine Ops.v (Yv.load A3 rfl (now (hs14.cell 0 rfl 0 rfl))) ?_
              refine Ops.s (Step.call rfl rfl (within_fun) (?_) True.intro (by rfl))
              rintro _ _ ⟨rfl, rfl⟩
              refine Ops.v (Yv.notp rfl) ?_
              refine Ops.v (Yv.assign rfl) ?_
              refine Ops.nil ?_
              refine k37 _ _ ?_
              refine run_ifp rfl (fun h39 => ?_) (fun h39 => ?_)
              · -- yes ¬ (((-4095) : Int) ≤ vx ∧ vx ≤ 4095)
                refine run_skip ?_
                refine k36 _ _ ?_
                refine run_ifp rfl (fun _ => ?_) (fun hx => absurd h39 hx)
                refine run_seq fun K40 k40 => ?_
                refine run_region ?_
                refine Ops.v (Yv.assign rfl) ?_
                refine Ops.v (Yv.assign rfl) ?_
                refine Ops.nil ?_
                refine k40 _ _ ?_
                refine run_ret ?_
                refine ⟨[.slice none 0 0, .int .i64 2], ⟨_, _, rfl, rfl, ⟨_, _, rfl, rfl, rfl⟩⟩, ?_⟩
                obtain ⟨e1, e2⟩ := single_bad (W0 := W0) (H0 := H0) (m0 := m0) (W1 := W1) (H1 := H1) (m1 := m1) (W2 := W2) (H2 := H2) (m2 := m2) (xs0 := xs0) (xs1 := xs1) (xs2 := xs2) (n := 0) (X := X) (Y := Y) (bw := bw) (bh := bh) (vx := vx) (vy := vy) (kd := kd) (by unfold singleOk; omega)
                rw [e1, e2]
                exact ⟨none, 0, rfl, (hs14.pick [] [] (by decide) rfl).nilRow 5 1⟩
              · -- no
                refine run_region ?_
                refine Ops.v (Yv.fld F31_1 rfl) ?_
                refine Ops.v (Yv.load A3 rfl (now (hs14.cell 0 rfl 1 rfl))) ?_
                refine Ops.s (Step.call rfl rfl (within_fun) (?_) True.intro (by rfl))
                rintro _ _ ⟨rfl, rfl⟩
                refine Ops.v (Yv.notp rfl) ?_
                refine Ops.v (Yv.assign rfl) ?_
                refine Ops.nil ?_
                refine k36 _ _ ?_
                refine run_ifp rfl (fun h42 => ?_) (fun h42 => ?_)
                · -- yes ¬ (((-4095) : Int) ≤ vy ∧ vy ≤ 4095)
                  refine run_seq fun K43 k43 => ?_
                  refine run_region ?_
                  refine Ops.v (Yv.assign rfl) ?_
                  refine Ops.v (Yv.assign rfl) ?_
                  refine Ops.nil ?_
                  refine k43 _ _ ?_
                  refine run_ret ?_
                  refine ⟨[.slice none 0 0, .int .i64 2], ⟨_, _, rfl, rfl, ⟨_, _, rfl, rfl, rfl⟩⟩, ?_⟩
                  obtain ⟨e1, e2⟩ := single_bad (W0 := W0) (H0 := H0) (m0 := m0) (W1 := W1) (H1 := H1) (m1 := m1) (W2 := W2) (H2 := H2) (m2 := m2) (xs0 := xs0) (xs1 := xs1) (xs2 := xs2) (n := 0) (X := X) (Y := Y) (bw := bw) (bh := bh) (vx := vx) (vy := vy) (kd := kd) (by unfold singleOk; omega)
                  rw [e1, e2]
                  exact ⟨none, 0, rfl, (hs14.pick [] [] (by decide) rfl).nilRow 5 1⟩
                · -- no
                  refine run_skip ?_
                  refine k11 _ _ ?_
                  refine run_seq fun K44 k44 => ?_
                  refine run_seq fun K45 k45 => ?_
                  refine run_region ?_
                  refine Ops.v (Yv.move rfl) ?_
                  refine Ops.v ((Yv.eq rfl rfl).to (v := .bool true) (by rfl)) ?_
                  refine Ops.nil ?_
                  refine k45 _ _ ?_
                  refine run_if1 rfl ?_
                  refine run_region ?_
                  refine Ops.v (Yv.fld F31_0 rfl) ?_
                  refine Ops.v (Yv.load A3 rfl (now (hs14.cell 0 rfl 0 rfl))) ?_
                  refine Ops.v (Yv.mul rfl rfl (by omega)) ?_
                  refine Ops.v (Yv.fld F31_1 rfl) ?_
                  refine Ops.v (Yv.load A3 rfl (now (hs14.cell 0 rfl 1 rfl))) ?_
                  refine Ops.v (Yv.mul rfl rfl (by omega)) ?_
                  refine Ops.v (Yv.buildS (cs := #[.int .i64 ((2 : Int) * vx), .int .i64 ((2 : Int) * vy)]) T31 rfl rfl) ?_
                  refine Ops.s (Step.store (vs := [.int .i64 ((2 : Int) * vx), .int .i64 ((2 : Int) * vy)]) 0 hs14 rfl rfl rfl rfl S31 (Nat.le_of_ble_eq_true rfl) rfl (fun w46 hs46 => ?_) True.intro)
                  replace hs46 : HS _ [.blk _ [_, _] _, .blk _ [_, _, _, _] _, .blk _ [_, _, _, _, _, _, _, _, _] _] _ := hs46
                  refine Ops.nil ?_
                  refine k44 _ _ ?_
                  refine run_seq fun K47 k47 => ?_
                  refine run_drawn [] (fun x => Below (w46.drew).heap.size (w46.drew) x) ?_ Tf.mixed (by kernel_rfl) (fun _ _ _ h => h)
                  have hs48 := hs46.drew
                  have hS49 := Below.refl (w46.drew).heap.size (w46.drew)
                  refine Drw.a 0 rfl (by kernel_rfl) (Yv.move rfl) ?_
                  refine Drw.a 1 rfl (by kernel_rfl) (Yv.fld F27_0 rfl) ?_
                  refine Drw.a 2 rfl (by kernel_rfl) (Yv.idxa R25 rfl rfl (by decide) (by decide)) ?_
                  refine Drw.l 3 rfl (by kernel_rfl) hS49 (Yv.loadn (cs := [.int .i64 W0, .int .i64 H0, .slice A0 m0 c0]) A24 S24 rfl (fun _ hq_ => ((hs48.grow hq_).cells 2 rfl 0 3))) ?_
                  refine Drw.a 4 rfl (by kernel_rfl) (Yv.fld F29_0 rfl) ?_
                  refine Drw.l 5 rfl (by kernel_rfl) hS49 (Yv.load A3 rfl (fun _ hq_ => ((hs48.grow hq_).cell 1 rfl 0 rfl))) ?_
                  refine Drw.a 6 rfl (by kernel_rfl) (Yv.mul rfl rfl (by omega)) ?_
                  refine Drw.a 7 rfl (by kernel_rfl) (Yv.fld F31_0 rfl) ?_
                  refine Drw.l 8 rfl (by kernel_rfl) hS49 (Yv.load A3 rfl (fun _ hq_ => ((hs48.grow hq_).cell 0 rfl 0 rfl))) ?_
                  refine Drw.a 9 rfl (by kernel_rfl) (Yv.add rfl rfl (by omega)) ?_
                  refine Drw.a 10 rfl (by kernel_rfl) (Yv.fld F29_1 rfl) ?_
                  refine Drw.l 11 rfl (by kernel_rfl) hS49 (Yv.load A3 rfl (fun _ hq_ => ((hs48.grow hq_).cell 1 rfl 1 rfl))) ?_
                  refine Drw.a 12 rfl (by kernel_rfl) (Yv.mul rfl rfl (by omega)) ?_
                  refine Drw.a 13 rfl (by kernel_rfl) (Yv.fld F31_1 rfl) ?_
                  refine Drw.l 14 rfl (by kernel_rfl) hS49 (Yv.load A3 rfl (fun _ hq_ => ((hs48.grow hq_).cell 0 rfl 1 rfl))) ?_
                  refine Drw.a 15 rfl (by kernel_rfl) (Yv.add rfl rfl (by omega)) ?_
                  refine Drw.a 16 rfl (by kernel_rfl) (Yv.fld F29_2 rfl) ?_
                  refine Drw.l 17 rfl (by kernel_rfl) hS49 (Yv.load A3 rfl (fun _ hq_ => ((hs48.grow hq_).cell 1 rfl 2 rfl))) ?_
                  refine Drw.a 18 rfl (by kernel_rfl) (Yv.fld F29_3 rfl) ?_
                  refine Drw.l 19 rfl (by kernel_rfl) hS49 (Yv.load A3 rfl (fun _ hq_ => ((hs48.grow hq_).cell 1 rfl 3 rfl))) ?_
                  refine Drw.a 20 rfl (by kernel_rfl) (Yv.move rfl) ?_
                  refine Drw.one 21 rfl (by kernel_rfl) (Step.call rfl rfl (fetch_fun (hs48.rd hr0) hx0 (by omega)) (?_) True.intro (by rfl))
                  rintro _ w53 ⟨Ad50, c51, rfl, hs53⟩
                  have hS54 := HS.keepS hS49 (Nat.le_refl _) hs53
                  refine ⟨fun _ _ => hS54, ?_⟩
                  replace hs53 := hs48.call hs53
                  refine Drw.a 22 rfl (by kernel_rfl) (Yv.extract rfl rfl) ?_
                  refine Drw.a 23 rfl (by kernel_rfl) (Yv.extract rfl rfl) ?_
                  refine Drw.a 24 rfl (by kernel_rfl) (Yv.assign rfl) ?_
                  refine Drw.a 25 rfl (by kernel_rfl) (Yv.assign rfl) ?_
                  refine Drw.done ?_ (by kernel_rfl)
                  refine k47 _ _ ?_
                  refine run_ret ?_
                  refine ⟨[.slice Ad50 ((fetchOut xs0 W0 H0 m0 (((16 : Int) * X) + ((2 : Int) * vx)) (((16 : Int) * Y) + ((2 : Int) * vy)) bw bh kd).length) c51, .int .i64 (fetchE W0 H0 m0 (((16 : Int) * X) + ((2 : Int) * vx)) (((16 : Int) * Y) + ((2 : Int) * vy)) bw bh kd)], ⟨_, _, rfl, rfl, ⟨_, _, rfl, rfl, rfl⟩⟩, ?_⟩
                  obtain ⟨e1, e2⟩ := single_ok (W0 := W0) (H0 := H0) (m0 := m0) (W1 := W1) (H1 := H1) (m1 := m1) (W2 := W2) (H2 := H2) (m2 := m2) (xs0 := xs0) (xs1 := xs1) (xs2 := xs2) (n := 0) (X := X) (Y := Y) (bw := bw) (bh := bh) (vx := vx) (vy := vy) (kd := kd) (by unfold singleOk; omega)
                  rw [e1, e2]
                  have hz := hs53.pick [0] [.row Ad50 ((fetchOut xs0 W0 H0 m0 (((16 : Int) * X) + ((2 : Int) * vx)) (((16 : Int) * Y) + ((2 : Int) * vy)) bw bh kd).length) c51 (u8s (fetchOut xs0 W0 H0 m0 (((16 : Int) * X) + ((2 : Int) * vx)) (((16 : Int) * Y) + ((2 : Int) * vy)) bw bh kd)) 5 1] (by decide) rfl
                  exact ⟨Ad50, c51, (by rfl), hz.to (by rfl)⟩

set_option maxHeartbeats 2000000 in
theorem single_1 {w : World} {W0 H0 W1 H1 W2 H2 : Int} {A0 A1 A2 : Option Addr} {m0 m1 m2 c0 c1 c2 : Nat} {xs0 xs1 xs2 : List Int} (hr0 : Rd w A0 m0 1 (u8s xs0)) (hx0 : Bytes xs0) (hr1 : Rd w A1 m1 1 (u8s xs1)) (hx1 : Bytes xs1) (hr2 : Rd w A2 m2 1 (u8s xs2)) (hx2 : Bytes xs2) (hc0 : m0 ≤ c0) (hc1 : m1 ≤ c1) (hc2 : m2 ≤ c2) {X Y bw bh vx vy kd : Int} : Fun Try.prog 12 [.agg #[.int .i64 W0, .int .i64 H0, .slice A0 m0 c0, .int .i64 W1, .int .i64 H1, .slice A1 m1 c1, .int .i64 W2, .int .i64 H2, .slice A2 m2 c2], .int .i64 1, .agg #[.int .i64 X, .int .i64 Y, .int .i64 bw, .int .i64 bh], .agg #[.int .i64 vx, .int .i64 vy], .int .i64 kd] w fun v w' => ∃ A' c', v = .tuple #[.slice A' (singleOut W0 H0 m0 W1 H1 m1 W2 H2 m2 xs0 xs1 xs2 1 X Y bw bh vx vy kd).length c', .int .i64 (singleE W0 H0 m0 W1 H1 m1 W2 H2 m2 1 X Y bw bh vx vy kd)] ∧ HS w [.row A' (singleOut W0 H0 m0 W1 H1 m1 W2 H2 m2 xs0 xs1 xs2 1 X Y bw bh vx vy kd).length c' (u8s (singleOut W0 H0 m0 W1 H1 m1 W2 H2 m2 xs0 xs1 xs2 1 X Y bw bh vx vy kd)) 5 1] w' := by
  refine fun_run (m := 78) (rs := [.tmp 10, .tmp 11]) Try.func12 rfl rfl rfl rfl rfl ?_
  have hs0 := HS.start w
  have hbig0 := hr0.big
  have hlen_xs0 : xs0.length = m0 := by have := hr0.len; rw [u8s_length] at this; omega
  have hbig1 := hr1.big
  have hlen_xs1 : xs1.length = m1 := by have := hr1.len; rw [u8s_length] at this; omega
  have hbig2 := hr2.big
  have hlen_xs2 : xs2.length = m2 := by have := hr2.len; rw [u8s_length] at this; omega
  refine run_seq fun K1 k1 => ?_
  refine run_region ?_
  refine Ops.s (Step.box (cs := [.int .i64 W0, .int .i64 H0, .slice A0 m0 c0, .int .i64 W1, .int .i64 H1, .slice A1 m1 c1, .int .i64 W2, .int .i64 H2, .slice A2 m2 c2]) hs0 rfl rfl (fun b2 w3 hs3 hb3 => ?_) True.intro (by rfl))
  refine Ops.s (Step.box (cs := [.int .i64 X, .int .i64 Y, .int .i64 bw, .int .i64 bh]) hs3 rfl rfl (fun b5 w6 hs6 hb6 => ?_) True.intro (by rfl))
  refine Ops.s (Step.box (cs := [.int .i64 vx, .int .i64 vy]) hs6 rfl rfl (fun b8 w9 hs9 hb9 => ?_) True.intro (by rfl))
  refine Ops.v (Yv.assign rfl) ?_
  refine Ops.v (Yv.assign rfl) ?_
  refine Ops.nil ?_
  refine k1 _ _ ?_
  refine run_seq fun K11 k11 => ?_
  refine run_block ?_
  refine run_seq fun K12 k12 => ?_
  refine run_seq fun K13 k13 => ?_
  refine run_region ?_
  refine Ops.v (Yv.loadn (cs := [.int .i64 W0, .int .i64 H0, .slice A0 m0 c0, .int .i64 W1, .int .i64 H1, .slice A1 m1 c1, .int .i64 W2, .int .i64 H2, .slice A2 m2 c2]) A27 S27 rfl (now (hs9.cells 2 rfl 0 9))) ?_
  refine Ops.s (Step.call rfl rfl (whole_fun) (?_) True.intro (by rfl))
  rintro _ w14 ⟨rfl, hs14⟩
  replace hs14 := hs9.call hs14
  refine Ops.v (Yv.ne rfl rfl) ?_
  refine Ops.v (Yv.assign rfl) ?_
  refine Ops.nil ?_
  refine k13 _ _ ?_
  refine run_ifp rfl (fun h15 => ?_) (fun h15 => ?_)
  · -- yes (wholeF W0 H0 m0 W1 H1 m1 W2 H2 m2) ≠ (0 : Int)
    refine run_skip ?_
    refine k12 _ _ ?_
    refine run_ifp rfl (fun _ => ?_) (fun hx => absurd h15 hx)
    refine run_seq fun K16 k16 => ?_
    refine run_region ?_
    refine Ops.v (Yv.assign rfl) ?_
    refine Ops.v (Yv.assign rfl) ?_
    refine Ops.nil ?_
    refine k16 _ _ ?_
    refine run_ret ?_
    refine ⟨[.slice none 0 0, .int .i64 2], ⟨_, _, rfl, rfl, ⟨_, _, rfl, rfl, rfl⟩⟩, ?_⟩
    obtain ⟨e1, e2⟩ := single_bad (W0 := W0) (H0 := H0) (m0 := m0) (W1 := W1) (H1 := H1) (m1 := m1) (W2 := W2) (H2 := H2) (m2 := m2) (xs0 := xs0) (xs1 := xs1) (xs2 := xs2) (n := 1) (X := X) (Y := Y) (bw := bw) (bh := bh) (vx := vx) (vy := vy) (kd := kd) (by unfold singleOk; omega)
    rw [e1, e2]
    exact ⟨none, 0, rfl, (hs14.pick [] [] (by decide) rfl).nilRow 5 1⟩
  · -- no
    refine run_region ?_
    refine Ops.v (Yv.move rfl) ?_
    refine Ops.s (Step.call rfl rfl (within_fun) (?_) True.intro (by rfl))
    rintro _ _ ⟨rfl, rfl⟩
    refine Ops.v (Yv.notp rfl) ?_
    refine Ops.v (Yv.assign rfl) ?_
    refine Ops.nil ?_
    refine k12 _ _ ?_
    refine run_ifp rfl (fun h18 => ?_) (fun h18 => ?_)
    · -- yes ¬ ((0 : Int) ≤ 1 ∧ (1 : Int) ≤ 2)
      refine run_seq fun K19 k19 => ?_
      refine run_region ?_
      refine Ops.v (Yv.assign rfl) ?_
      refine Ops.v (Yv.assign rfl) ?_
      refine Ops.nil ?_
      refine k19 _ _ ?_
      refine run_ret ?_
      refine ⟨[.slice none 0 0, .int .i64 2], ⟨_, _, rfl, rfl, ⟨_, _, rfl, rfl, rfl⟩⟩, ?_⟩
      obtain ⟨e1, e2⟩ := single_bad (W0 := W0) (H0 := H0) (m0 := m0) (W1 := W1) (H1 := H1) (m1 := m1) (W2 := W2) (H2 := H2) (m2 := m2) (xs0 := xs0) (xs1 := xs1) (xs2 := xs2) (n := 1) (X := X) (Y := Y) (bw := bw) (bh := bh) (vx := vx) (vy := vy) (kd := kd) (by unfold singleOk; omega)
      rw [e1, e2]
      exact ⟨none, 0, rfl, (hs14.pick [] [] (by decide) rfl).nilRow 5 1⟩
    · -- no
      refine run_seq fun K20 k20 => ?_
      refine run_seq fun K21 k21 => ?_
      refine run_region ?_
      refine Ops.v (Yv.fld F29_0 rfl) ?_
      refine Ops.v (Yv.load A3 rfl (now (hs14.cell 1 rfl 0 rfl))) ?_
      refine Ops.s (Step.call rfl rfl (within_fun) (?_) True.intro (by rfl))
      rintro _ _ ⟨rfl, rfl⟩
      refine Ops.v (Yv.notp rfl) ?_
      refine Ops.v (Yv.assign rfl) ?_
      refine Ops.nil ?_
      refine k21 _ _ ?_
      refine run_ifp rfl (fun h23 => ?_) (fun h23 => ?_)
      · -- yes ¬ ((0 : Int) ≤ X ∧ X ≤ 1024)
        refine run_skip ?_
        refine k20 _ _ ?_
        refine run_ifp rfl (fun _ => ?_) (fun hx => absurd h23 hx)
        refine run_seq fun K24 k24 => ?_
        refine run_region ?_
        refine Ops.v (Yv.assign rfl) ?_
        refine Ops.v (Yv.assign rfl) ?_
        refine Ops.nil ?_
        refine k24 _ _ ?_
        refine run_ret ?_
        refine ⟨[.slice none 0 0, .int .i64 2], ⟨_, _, rfl, rfl, ⟨_, _, rfl, rfl, rfl⟩⟩, ?_⟩
        obtain ⟨e1, e2⟩ := single_bad (W0 := W0) (H0 := H0) (m0 := m0) (W1 := W1) (H1 := H1) (m1 := m1) (W2 := W2) (H2 := H2) (m2 := m2) (xs0 := xs0) (xs1 := xs1) (xs2 := xs2) (n := 1) (X := X) (Y := Y) (bw := bw) (bh := bh) (vx := vx) (vy := vy) (kd := kd) (by unfold singleOk; omega)
        rw [e1, e2]
        exact ⟨none, 0, rfl, (hs14.pick [] [] (by decide) rfl).nilRow 5 1⟩
      · -- no
        refine run_seq fun K25 k25 => ?_
        refine run_region ?_
        refine Ops.v (Yv.fld F29_1 rfl) ?_
        refine Ops.v (Yv.load A3 rfl (now (hs14.cell 1 rfl 1 rfl))) ?_
        refine Ops.s (Step.call rfl rfl (within_fun) (?_) True.intro (by rfl))
        rintro _ _ ⟨rfl, rfl⟩
        refine Ops.v (Yv.notp rfl) ?_
        refine Ops.v (Yv.assign rfl) ?_
        refine Ops.nil ?_
        refine k25 _ _ ?_
        refine run_ifp rfl (fun h27 => ?_) (fun h27 => ?_)
        · -- yes ¬ ((0 : Int) ≤ Y ∧ Y ≤ 1024)
          refine run_skip ?_
          refine k20 _ _ ?_
          refine run_ifp rfl (fun _ => ?_) (fun hx => absurd h27 hx)
          refine run_seq fun K28 k28 => ?_
          refine run_region ?_
          refine Ops.v (Yv.assign rfl) ?_
          refine Ops.v (Yv.assign rfl) ?_
          refine Ops.nil ?_
          refine k28 _ _ ?_
          refine run_ret ?_
          refine ⟨[.slice none 0 0, .int .i64 2], ⟨_, _, rfl, rfl, ⟨_, _, rfl, rfl, rfl⟩⟩, ?_⟩
          obtain ⟨e1, e2⟩ := single_bad (W0 := W0) (H0 := H0) (m0 := m0) (W1 := W1) (H1 := H1) (m1 := m1) (W2 := W2) (H2 := H2) (m2 := m2) (xs0 := xs0) (xs1 := xs1) (xs2 := xs2) (n := 1) (X := X) (Y := Y) (bw := bw) (bh := bh) (vx := vx) (vy := vy) (kd := kd) (by unfold singleOk; omega)
          rw [e1, e2]
          exact ⟨none, 0, rfl, (hs14.pick [] [] (by decide) rfl).nilRow 5 1⟩
        · -- no
          refine run_seq fun K29 k29 => ?_
          refine run_region ?_
          refine Ops.v (Yv.fld F29_2 rfl) ?_
          refine Ops.v (Yv.load A3 rfl (now (hs14.cell 1 rfl 2 rfl))) ?_
          refine Ops.s (Step.call rfl rfl (within_fun) (?_) True.intro (by rfl))
          rintro _ _ ⟨rfl, rfl⟩
          refine Ops.v (Yv.notp rfl) ?_
          refine Ops.v (Yv.assign rfl) ?_
          refine Ops.nil ?_
          refine k29 _ _ ?_
          refine run_ifp rfl (fun h31 => ?_) (fun h31 => ?_)
          · -- yes ¬ ((4 : Int) ≤ bw ∧ bw ≤ 64)
            refine run_skip ?_
            refine k20 _ _ ?_
            refine run_ifp rfl (fun _ => ?_) (fun hx => absurd h31 hx)
            refine run_seq fun K32 k32 => ?_
            refine run_region ?_
            refine Ops.v (Yv.assign rfl) ?_
            refine Ops.v (Yv.assign rfl) ?_
            refine Ops.nil ?_
            refine k32 _ _ ?_
            refine run_ret ?_
            refine ⟨[.slice none 0 0, .int .i64 2], ⟨_, _, rfl, rfl, ⟨_, _, rfl, rfl, rfl⟩⟩, ?_⟩
            obtain ⟨e1, e2⟩ := single_bad (W0 := W0) (H0 := H0) (m0 := m0) (W1 := W1) (H1 := H1) (m1 := m1) (W2 := W2) (H2 := H2) (m2 := m2) (xs0 := xs0) (xs1 := xs1) (xs2 := xs2) (n := 1) (X := X) (Y := Y) (bw := bw) (bh := bh) (vx := vx) (vy := vy) (kd := kd) (by unfold singleOk; omega)
            rw [e1, e2]
            exact ⟨none, 0, rfl, (hs14.pick [] [] (by decide) rfl).nilRow 5 1⟩
          · -- no
            refine run_region ?_
            refine Ops.v (Yv.fld F29_3 rfl) ?_
            refine Ops.v (Yv.load A3 rfl (now (hs14.cell 1 rfl 3 rfl))) ?_
            refine Ops.s (Step.call rfl rfl (within_fun) (?_) True.intro (by rfl))
            rintro _ _ ⟨rfl, rfl⟩
            refine Ops.v (Yv.notp rfl) ?_
            refine Ops.v (Yv.assign rfl) ?_
            refine Ops.nil ?_
            refine k20 _ _ ?_
            refine run_ifp rfl (fun h34 => ?_) (fun h34 => ?_)
            · -- yes ¬ ((4 : Int) ≤ bh ∧ bh ≤ 64)
              refine run_seq fun K35 k35 => ?_
              refine run_region ?_
              refine Ops.v (Yv.assign rfl) ?_
              refine Ops.v (Yv.assign rfl) ?_
              refine Ops.nil ?_
              refine k35 _ _ ?_
              refine run_ret ?_
              refine ⟨[.slice none 0 0, .int .i64 2], ⟨_, _, rfl, rfl, ⟨_, _, rfl, rfl, rfl⟩⟩, ?_⟩
              obtain ⟨e1, e2⟩ := single_bad (W0 := W0) (H0 := H0) (m0 := m0) (W1 := W1) (H1 := H1) (m1 := m1) (W2 := W2) (H2 := H2) (m2 := m2) (xs0 := xs0) (xs1 := xs1) (xs2 := xs2) (n := 1) (X := X) (Y := Y) (bw := bw) (bh := bh) (vx := vx) (vy := vy) (kd := kd) (by unfold singleOk; omega)
              rw [e1, e2]
              exact ⟨none, 0, rfl, (hs14.pick [] [] (by decide) rfl).nilRow 5 1⟩
            · -- no
              refine run_seq fun K36 k36 => ?_
              refine run_seq fun K37 k37 => ?_
              refine run_region ?_
              refine Ops.v (Yv.fld F31_0 rfl) ?_
              refine Ops.v (Yv.load A3 rfl (now (hs14.cell 0 rfl 0 rfl))) ?_
              refine Ops.s (Step.call rfl rfl (within_fun) (?_) True.intro (by rfl))
              rintro _ _ ⟨rfl, rfl⟩
              refine Ops.v (Yv.notp rfl) ?_
              refine Ops.v (Yv.assign rfl) ?_
              refine Ops.nil ?_
              refine k37 _ _ ?_
              refine run_ifp rfl (fun h39 => ?_) (fun h39 => ?_)
              · -- yes ¬ (((-4095) : Int) ≤ vx ∧ vx ≤ 4095)
                refine run_skip ?_
                refine k36 _ _ ?_
                refine run_ifp rfl (fun _ => ?_) (fun hx => absurd h39 hx)
                refine run_seq fun K40 k40 => ?_
                refine run_region ?_
                refine Ops.v (Yv.assign rfl) ?_
                refine Ops.v (Yv.assign rfl) ?_
                refine Ops.nil ?_
                refine k40 _ _ ?_
                refine run_ret ?_
                refine ⟨[.slice none 0 0, .int .i64 2], ⟨_, _, rfl, rfl, ⟨_, _, rfl, rfl, rfl⟩⟩, ?_⟩
                obtain ⟨e1, e2⟩ := single_bad (W0 := W0) (H0 := H0) (m0 := m0) (W1 := W1) (H1 := H1) (m1 := m1) (W2 := W2) (H2 := H2) (m2 := m2) (xs0 := xs0) (xs1 := xs1) (xs2 := xs2) (n := 1) (X := X) (Y := Y) (bw := bw) (bh := bh) (vx := vx) (vy := vy) (kd := kd) (by unfold singleOk; omega)
                rw [e1, e2]
                exact ⟨none, 0, rfl, (hs14.pick [] [] (by decide) rfl).nilRow 5 1⟩
              · -- no
                refine run_region ?_
                refine Ops.v (Yv.fld F31_1 rfl) ?_
                refine Ops.v (Yv.load A3 rfl (now (hs14.cell 0 rfl 1 rfl))) ?_
                refine Ops.s (Step.call rfl rfl (within_fun) (?_) True.intro (by rfl))
                rintro _ _ ⟨rfl, rfl⟩
                refine Ops.v (Yv.notp rfl) ?_
                refine Ops.v (Yv.assign rfl) ?_
                refine Ops.nil ?_
                refine k36 _ _ ?_
                refine run_ifp rfl (fun h42 => ?_) (fun h42 => ?_)
                · -- yes ¬ (((-4095) : Int) ≤ vy ∧ vy ≤ 4095)
                  refine run_seq fun K43 k43 => ?_
                  refine run_region ?_
                  refine Ops.v (Yv.assign rfl) ?_
                  refine Ops.v (Yv.assign rfl) ?_
                  refine Ops.nil ?_
                  refine k43 _ _ ?_
                  refine run_ret ?_
                  refine ⟨[.slice none 0 0, .int .i64 2], ⟨_, _, rfl, rfl, ⟨_, _, rfl, rfl, rfl⟩⟩, ?_⟩
                  obtain ⟨e1, e2⟩ := single_bad (W0 := W0) (H0 := H0) (m0 := m0) (W1 := W1) (H1 := H1) (m1 := m1) (W2 := W2) (H2 := H2) (m2 := m2) (xs0 := xs0) (xs1 := xs1) (xs2 := xs2) (n := 1) (X := X) (Y := Y) (bw := bw) (bh := bh) (vx := vx) (vy := vy) (kd := kd) (by unfold singleOk; omega)
                  rw [e1, e2]
                  exact ⟨none, 0, rfl, (hs14.pick [] [] (by decide) rfl).nilRow 5 1⟩
                · -- no
                  refine run_skip ?_
                  refine k11 _ _ ?_
                  refine run_seq fun K44 k44 => ?_
                  refine run_seq fun K45 k45 => ?_
                  refine run_region ?_
                  refine Ops.v (Yv.move rfl) ?_
                  refine Ops.v ((Yv.eq rfl rfl).to (v := .bool false) (by rfl)) ?_
                  refine Ops.nil ?_
                  refine k45 _ _ ?_
                  refine run_if0 rfl ?_
                  refine run_skip ?_
                  refine k44 _ _ ?_
                  refine run_seq fun K46 k46 => ?_
                  refine run_drawn [] (fun x => Below (w14.drew).heap.size (w14.drew) x) ?_ Tf.mixed (by kernel_rfl) (fun _ _ _ h => h)
                  have hs47 := hs14.drew
                  have hS48 := Below.refl (w14.drew).heap.size (w14.drew)
                  refine Drw.a 0 rfl (by kernel_rfl) (Yv.move rfl) ?_
                  refine Drw.a 1 rfl (by kernel_rfl) (Yv.fld F27_0 rfl) ?_
                  refine Drw.a 2 rfl (by kernel_rfl) (Yv.idxa R25 rfl rfl (by decide) (by decide)) ?_
                  refine Drw.l 3 rfl (by kernel_rfl) hS48 (Yv.loadn (cs := [.int .i64 W1, .int .i64 H1, .slice A1 m1 c1]) A24 S24 rfl (fun _ hq_ => ((hs47.grow hq_).cells 2 rfl 3 3))) ?_
                  refine Drw.a 4 rfl (by kernel_rfl) (Yv.fld F29_0 rfl) ?_
                  refine Drw.l 5 rfl (by kernel_rfl) hS48 (Yv.load A3 rfl (fun _ hq_ => ((hs47.grow hq_).cell 1 rfl 0 rfl))) ?_
                  refine Drw.a 6 rfl (by kernel_rfl) (Yv.mul rfl rfl (by omega)) ?_
                  refine Drw.a 7 rfl (by kernel_rfl) (Yv.fld F31_0 rfl) ?_
                  refine Drw.l 8 rfl (by kernel_rfl) hS48 (Yv.load A3 rfl (fun _ hq_ => ((hs47.grow hq_).cell 0 rfl 0 rfl))) ?_
                  refine Drw.a 9 rfl (by kernel_rfl) (Yv.add rfl rfl (by omega)) ?_
                  refine Drw.a 10 rfl (by kernel_rfl) (Yv.fld F29_1 rfl) ?_
                  refine Drw.l 11 rfl (by kernel_rfl) hS48 (Yv.load A3 rfl (fun _ hq_ => ((hs47.grow hq_).cell 1 rfl 1 rfl))) ?_
                  refine Drw.a 12 rfl (by kernel_rfl) (Yv.mul rfl rfl (by omega)) ?_
                  refine Drw.a 13 rfl (by kernel_rfl) (Yv.fld F31_1 rfl) ?_
                  refine Drw.l 14 rfl (by kernel_rfl) hS48 (Yv.load A3 rfl (fun _ hq_ => ((hs47.grow hq_).cell 0 rfl 1 rfl))) ?_
                  refine Drw.a 15 rfl (by kernel_rfl) (Yv.add rfl rfl (by omega)) ?_
                  refine Drw.a 16 rfl (by kernel_rfl) (Yv.fld F29_2 rfl) ?_
                  refine Drw.l 17 rfl (by kernel_rfl) hS48 (Yv.load A3 rfl (fun _ hq_ => ((hs47.grow hq_).cell 1 rfl 2 rfl))) ?_
                  refine Drw.a 18 rfl (by kernel_rfl) (Yv.fld F29_3 rfl) ?_
                  refine Drw.l 19 rfl (by kernel_rfl) hS48 (Yv.load A3 rfl (fun _ hq_ => ((hs47.grow hq_).cell 1 rfl 3 rfl))) ?_
                  refine Drw.a 20 rfl (by kernel_rfl) (Yv.move rfl) ?_
                  refine Drw.one 21 rfl (by kernel_rfl) (Step.call rfl rfl (fetch_fun (hs47.rd hr1) hx1 (by omega)) (?_) True.intro (by rfl))
                  rintro _ w52 ⟨Ad49, c50, rfl, hs52⟩
                  have hS53 := HS.keepS hS48 (Nat.le_refl _) hs52
                  refine ⟨fun _ _ => hS53, ?_⟩
                  replace hs52 := hs47.call hs52
                  refine Drw.a 22 rfl (by kernel_rfl) (Yv.extract rfl rfl) ?_
                  refine Drw.a 23 rfl (by kernel_rfl) (Yv.extract rfl rfl) ?_
                  refine Drw.a 24 rfl (by kernel_rfl) (Yv.assign rfl) ?_
                  refine Drw.a 25 rfl (by kernel_rfl) (Yv.assign rfl) ?_
                  refine Drw.done ?_ (by kernel_rfl)
                  refine k46 _ _ ?_
                  refine run_ret ?_
                  refine ⟨[.slice Ad49 ((fetchOut xs1 W1 H1 m1 (((16 : Int) * X) + vx) (((16 : Int) * Y) + vy) bw bh kd).length) c50, .int .i64 (fetchE W1 H1 m1 (((16 : Int) * X) + vx) (((16 : Int) * Y) + vy) bw bh kd)], ⟨_, _, rfl, rfl, ⟨_, _, rfl, rfl, rfl⟩⟩, ?_⟩
                  obtain ⟨e1, e2⟩ := single_ok (W0 := W0) (H0 := H0) (m0 := m0) (W1 := W1) (H1 := H1) (m1 := m1) (W2 := W2) (H2 := H2) (m2 := m2) (xs0 := xs0) (xs1 := xs1) (xs2 := xs2) (n := 1) (X := X) (Y := Y) (bw := bw) (bh := bh) (vx := vx) (vy := vy) (kd := kd) (by unfold singleOk; omega)
                  rw [e1, e2]
                  have hz := hs52.pick [0] [.row Ad49 ((fetchOut xs1 W1 H1 m1 (((16 : Int) * X) + vx) (((16 : Int) * Y) + vy) bw bh kd).length) c50 (u8s (fetchOut xs1 W1 H1 m1 (((16 : Int) * X) + vx) (((16 : Int) * Y) + vy) bw bh kd)) 5 1] (by decide) rfl
                  exact ⟨Ad49, c50, (by rfl), hz.to (by rfl)⟩

set_option maxHeartbeats 2000000 in
theorem single_2 {w : World} {W0 H0 W1 H1 W2 H2 : Int} {A0 A1 A2 : Option Addr} {m0 m1 m2 c0 c1 c2 : Nat} {xs0 xs1 xs2 : List Int} (hr0 : Rd w A0 m0 1 (u8s xs0)) (hx0 : Bytes xs0) (hr1 : Rd w A1 m1 1 (u8s xs1)) (hx1 : Bytes xs1) (hr2 : Rd w A2 m2 1 (u8s xs2)) (hx2 : Bytes xs2) (hc0 : m0 ≤ c0) (hc1 : m1 ≤ c1) (hc2 : m2 ≤ c2) {X Y bw bh vx vy kd : Int} : Fun Try.prog 12 [.agg #[.int .i64 W0, .int .i64 H0, .slice A0 m0 c0, .int .i64 W1, .int .i64 H1, .slice A1 m1 c1, .int .i64 W2, .int .i64 H2, .slice A2 m2 c2], .int .i64 2, .agg #[.int .i64 X, .int .i64 Y, .int .i64 bw, .int .i64 bh], .agg #[.int .i64 vx, .int .i64 vy], .int .i64 kd] w fun v w' => ∃ A' c', v = .tuple #[.slice A' (singleOut W0 H0 m0 W1 H1 m1 W2 H2 m2 xs0 xs1 xs2 2 X Y bw bh vx vy kd).length c', .int .i64 (singleE W0 H0 m0 W1 H1 m1 W2 H2 m2 2 X Y bw bh vx vy kd)] ∧ HS w [.row A' (singleOut W0 H0 m0 W1 H1 m1 W2 H2 m2 xs0 xs1 xs2 2 X Y bw bh vx vy kd).length c' (u8s (singleOut W0 H0 m0 W1 H1 m1 W2 H2 m2 xs0 xs1 xs2 2 X Y bw bh vx vy kd)) 5 1] w' := by
  refine fun_run (m := 78) (rs := [.tmp 10, .tmp 11]) Try.func12 rfl rfl rfl rfl rfl ?_
  have hs0 := HS.start w
  have hbig0 := hr0.big
  have hlen_xs0 : xs0.length = m0 := by have := hr0.len; rw [u8s_length] at this; omega
  have hbig1 := hr1.big
  have hlen_xs1 : xs1.length = m1 := by have := hr1.len; rw [u8s_length] at this; omega
  have hbig2 := hr2.big
  have hlen_xs2 : xs2.length = m2 := by have := hr2.len; rw [u8s_length] at this; omega
  refine run_seq fun K1 k1 => ?_
  refine run_region ?_
  refine Ops.s (Step.box (cs := [.int .i64 W0, .int .i64 H0, .slice A0 m0 c0, .int .i64 W1, .int .i64 H1, .slice A1 m1 c1, .int .i64 W2, .int .i64 H2, .slice A2 m2 c2]) hs0 rfl rfl (fun b2 w3 hs3 hb3 => ?_) True.intro (by rfl))
  refine Ops.s (Step.box (cs := [.int .i64 X, .int .i64 Y, .int .i64 bw, .int .i64 bh]) hs3 rfl rfl (fun b5 w6 hs6 hb6 => ?_) True.intro (by rfl))
  refine Ops.s (Step.box (cs := [.int .i64 vx, .int .i64 vy]) hs6 rfl rfl (fun b8 w9 hs9 hb9 => ?_) True.intro (by rfl))
  refine Ops.v (Yv.assign rfl) ?_
  refine Ops.v (Yv.assign rfl) ?_
  refine Ops.nil ?_
  refine k1 _ _ ?_
  refine run_seq fun K11 k11 => ?_
  refine run_block ?_
  refine run_seq fun K12 k12 => ?_
  refine run_seq fun K13 k13 => ?_
  refine run_region ?_
  refine Ops.v (Yv.loadn (cs := [.int .i64 W0, .int .i64 H0, .slice A0 m0 c0, .int .i64 W1, .int .i64 H1, .slice A1 m1 c1, .int .i64 W2, .int .i64 H2, .slice A2 m2 c2]) A27 S27 rfl (now (hs9.cells 2 rfl 0 9))) ?_
  refine Ops.s (Step.call rfl rfl (whole_fun) (?_) True.intro (by rfl))
  rintro _ w14 ⟨rfl, hs14⟩
  replace hs14 := hs9.call hs14
  refine Ops.v (Yv.ne rfl rfl) ?_
  refine Ops.v (Yv.assign rfl) ?_
  refine Ops.nil ?_
  refine k13 _ _ ?_
  refine run_ifp rfl (fun h15 => ?_) (fun h15 => ?_)
  · -- yes (wholeF W0 H0 m0 W1 H1 m1 W2 H2 m2) ≠ (0 : Int)
    refine run_skip ?_
    refine k12 _ _ ?_
    refine run_ifp rfl (fun _ => ?_) (fun hx => absurd h15 hx)
    refine run_seq fun K16 k16 => ?_
    refine run_region ?_
    refine Ops.v (Yv.assign rfl) ?_
    refine Ops.v (Yv.assign rfl) ?_
    refine Ops.nil ?_
    refine k16 _ _ ?_
    refine run_ret ?_
    refine ⟨[.slice none 0 0, .int .i64 2], ⟨_, _, rfl, rfl, ⟨_, _, rfl, rfl, rfl⟩⟩, ?_⟩
    obtain ⟨e1, e2⟩ := single_bad (W0 := W0) (H0 := H0) (m0 := m0) (W1 := W1) (H1 := H1) (m1 := m1) (W2 := W2) (H2 := H2) (m2 := m2) (xs0 := xs0) (xs1 := xs1) (xs2 := xs2) (n := 2) (X := X) (Y := Y) (bw := bw) (bh := bh) (vx := vx) (vy := vy) (kd := kd) (by unfold singleOk; omega)
    rw [e1, e2]
    exact ⟨none, 0, rfl, (hs14.pick [] [] (by decide) rfl).nilRow 5 1⟩
  · -- no
    refine run_region ?_
    refine Ops.v (Yv.move rfl) ?_
    refine Ops.s (Step.call rfl rfl (within_fun) (?_) True.intro (by rfl))
    rintro _ _ ⟨rfl, rfl⟩
    refine Ops.v (Yv.notp rfl) ?_
    refine Ops.v (Yv.assign rfl) ?_
    refine Ops.nil ?_
    refine k12 _ _ ?_
    refine run_ifp rfl (fun h18 => ?_) (fun h18 => ?_)
    · -- yes ¬ ((0 : Int) ≤ 2 ∧ (2 : Int) ≤ 2)
      refine run_seq fun K19 k19 => ?_
      refine run_region ?_
      refine Ops.v (Yv.assign rfl) ?_
      refine Ops.v (Yv.assign rfl) ?_
      refine Ops.nil ?_
      refine k19 _ _ ?_
      refine run_ret ?_
      refine ⟨[.slice none 0 0, .int .i64 2], ⟨_, _, rfl, rfl, ⟨_, _, rfl, rfl, rfl⟩⟩, ?_⟩
      obtain ⟨e1, e2⟩ := single_bad (W0 := W0) (H0 := H0) (m0 := m0) (W1 := W1) (H1 := H1) (m1 := m1) (W2 := W2) (H2 := H2) (m2 := m2) (xs0 := xs0) (xs1 := xs1) (xs2 := xs2) (n := 2) (X := X) (Y := Y) (bw := bw) (bh := bh) (vx := vx) (vy := vy) (kd := kd) (by unfold singleOk; omega)
      rw [e1, e2]
      exact ⟨none, 0, rfl, (hs14.pick [] [] (by decide) rfl).nilRow 5 1⟩
    · -- no
      refine run_seq fun K20 k20 => ?_
      refine run_seq fun K21 k21 => ?_
      refine run_region ?_
      refine Ops.v (Yv.fld F29_0 rfl) ?_
      refine Ops.v (Yv.load A3 rfl (now (hs14.cell 1 rfl 0 rfl))) ?_
      refine Ops.s (Step.call rfl rfl (within_fun) (?_) True.intro (by rfl))
      rintro _ _ ⟨rfl, rfl⟩
      refine Ops.v (Yv.notp rfl) ?_
      refine Ops.v (Yv.assign rfl) ?_
      refine Ops.nil ?_
      refine k21 _ _ ?_
      refine run_ifp rfl (fun h23 => ?_) (fun h23 => ?_)
      · -- yes ¬ ((0 : Int) ≤ X ∧ X ≤ 1024)
        refine run_skip ?_
        refine k20 _ _ ?_
        refine run_ifp rfl (fun _ => ?_) (fun hx => absurd h23 hx)
        refine run_seq fun K24 k24 => ?_
        refine run_region ?_
        refine Ops.v (Yv.assign rfl) ?_
        refine Ops.v (Yv.assign rfl) ?_
        refine Ops.nil ?_
        refine k24 _ _ ?_
        refine run_ret ?_
        refine ⟨[.slice none 0 0, .int .i64 2], ⟨_, _, rfl, rfl, ⟨_, _, rfl, rfl, rfl⟩⟩, ?_⟩
        obtain ⟨e1, e2⟩ := single_bad (W0 := W0) (H0 := H0) (m0 := m0) (W1 := W1) (H1 := H1) (m1 := m1) (W2 := W2) (H2 := H2) (m2 := m2) (xs0 := xs0) (xs1 := xs1) (xs2 := xs2) (n := 2) (X := X) (Y := Y) (bw := bw) (bh := bh) (vx := vx) (vy := vy) (kd := kd) (by unfold singleOk; omega)
        rw [e1, e2]
        exact ⟨none, 0, rfl, (hs14.pick [] [] (by decide) rfl).nilRow 5 1⟩
      · -- no
        refine run_seq fun K25 k25 => ?_
        refine run_region ?_
        refine Ops.v (Yv.fld F29_1 rfl) ?_
        refine Ops.v (Yv.load A3 rfl (now (hs14.cell 1 rfl 1 rfl))) ?_
        refine Ops.s (Step.call rfl rfl (within_fun) (?_) True.intro (by rfl))
        rintro _ _ ⟨rfl, rfl⟩
        refine Ops.v (Yv.notp rfl) ?_
        refine Ops.v (Yv.assign rfl) ?_
        refine Ops.nil ?_
        refine k25 _ _ ?_
        refine run_ifp rfl (fun h27 => ?_) (fun h27 => ?_)
        · -- yes ¬ ((0 : Int) ≤ Y ∧ Y ≤ 1024)
          refine run_skip ?_
          refine k20 _ _ ?_
          refine run_ifp rfl (fun _ => ?_) (fun hx => absurd h27 hx)
          refine run_seq fun K28 k28 => ?_
          refine run_region ?_
          refine Ops.v (Yv.assign rfl) ?_
          refine Ops.v (Yv.assign rfl) ?_
          refine Ops.nil ?_
          refine k28 _ _ ?_
          refine run_ret ?_
          refine ⟨[.slice none 0 0, .int .i64 2], ⟨_, _, rfl, rfl, ⟨_, _, rfl, rfl, rfl⟩⟩, ?_⟩
          obtain ⟨e1, e2⟩ := single_bad (W0 := W0) (H0 := H0) (m0 := m0) (W1 := W1) (H1 := H1) (m1 := m1) (W2 := W2) (H2 := H2) (m2 := m2) (xs0 := xs0) (xs1 := xs1) (xs2 := xs2) (n := 2) (X := X) (Y := Y) (bw := bw) (bh := bh) (vx := vx) (vy := vy) (kd := kd) (by unfold singleOk; omega)
          rw [e1, e2]
          exact ⟨none, 0, rfl, (hs14.pick [] [] (by decide) rfl).nilRow 5 1⟩
        · -- no
          refine run_seq fun K29 k29 => ?_
          refine run_region ?_
          refine Ops.v (Yv.fld F29_2 rfl) ?_
          refine Ops.v (Yv.load A3 rfl (now (hs14.cell 1 rfl 2 rfl))) ?_
          refine Ops.s (Step.call rfl rfl (within_fun) (?_) True.intro (by rfl))
          rintro _ _ ⟨rfl, rfl⟩
          refine Ops.v (Yv.notp rfl) ?_
          refine Ops.v (Yv.assign rfl) ?_
          refine Ops.nil ?_
          refine k29 _ _ ?_
          refine run_ifp rfl (fun h31 => ?_) (fun h31 => ?_)
          · -- yes ¬ ((4 : Int) ≤ bw ∧ bw ≤ 64)
            refine run_skip ?_
            refine k20 _ _ ?_
            refine run_ifp rfl (fun _ => ?_) (fun hx => absurd h31 hx)
            refine run_seq fun K32 k32 => ?_
            refine run_region ?_
            refine Ops.v (Yv.assign rfl) ?_
            refine Ops.v (Yv.assign rfl) ?_
            refine Ops.nil ?_
            refine k32 _ _ ?_
            refine run_ret ?_
            refine ⟨[.slice none 0 0, .int .i64 2], ⟨_, _, rfl, rfl, ⟨_, _, rfl, rfl, rfl⟩⟩, ?_⟩
            obtain ⟨e1, e2⟩ := single_bad (W0 := W0) (H0 := H0) (m0 := m0) (W1 := W1) (H1 := H1) (m1 := m1) (W2 := W2) (H2 := H2) (m2 := m2) (xs0 := xs0) (xs1 := xs1) (xs2 := xs2) (n := 2) (X := X) (Y := Y) (bw := bw) (bh := bh) (vx := vx) (vy := vy) (kd := kd) (by unfold singleOk; omega)
            rw [e1, e2]
            exact ⟨none, 0, rfl, (hs14.pick [] [] (by decide) rfl).nilRow 5 1⟩
          · -- no
            refine run_region ?_
            refine Ops.v (Yv.fld F29_3 rfl) ?_
            refine Ops.v (Yv.load A3 rfl (now (hs14.cell 1 rfl 3 rfl))) ?_
            refine Ops.s (Step.call rfl rfl (within_fun) (?_) True.intro (by rfl))
            rintro _ _ ⟨rfl, rfl⟩
            refine Ops.v (Yv.notp rfl) ?_
            refine Ops.v (Yv.assign rfl) ?_
            refine Ops.nil ?_
            refine k20 _ _ ?_
            refine run_ifp rfl (fun h34 => ?_) (fun h34 => ?_)
            · -- yes ¬ ((4 : Int) ≤ bh ∧ bh ≤ 64)
              refine run_seq fun K35 k35 => ?_
              refine run_region ?_
              refine Ops.v (Yv.assign rfl) ?_
              refine Ops.v (Yv.assign rfl) ?_
              refine Ops.nil ?_
              refine k35 _ _ ?_
              refine run_ret ?_
              refine ⟨[.slice none 0 0, .int .i64 2], ⟨_, _, rfl, rfl, ⟨_, _, rfl, rfl, rfl⟩⟩, ?_⟩
              obtain ⟨e1, e2⟩ := single_bad (W0 := W0) (H0 := H0) (m0 := m0) (W1 := W1) (H1 := H1) (m1 := m1) (W2 := W2) (H2 := H2) (m2 := m2) (xs0 := xs0) (xs1 := xs1) (xs2 := xs2) (n := 2) (X := X) (Y := Y) (bw := bw) (bh := bh) (vx := vx) (vy := vy) (kd := kd) (by unfold singleOk; omega)
              rw [e1, e2]
              exact ⟨none, 0, rfl, (hs14.pick [] [] (by decide) rfl).nilRow 5 1⟩
            · -- no
              refine run_seq fun K36 k36 => ?_
              refine run_seq fun K37 k37 => ?_
              refine run_region ?_
              refine Ops.v (Yv.fld F31_0 rfl) ?_
              refine Ops.v (Yv.load A3 rfl (now (hs14.cell 0 rfl 0 rfl))) ?_
              refine Ops.s (Step.call rfl rfl (within_fun) (?_) True.intro (by rfl))
              rintro _ _ ⟨rfl, rfl⟩
              refine Ops.v (Yv.notp rfl) ?_
              refine Ops.v (Yv.assign rfl) ?_
              refine Ops.nil ?_
              refine k37 _ _ ?_
              refine run_ifp rfl (fun h39 => ?_) (fun h39 => ?_)
              · -- yes ¬ (((-4095) : Int) ≤ vx ∧ vx ≤ 4095)
                refine run_skip ?_
                refine k36 _ _ ?_
                refine run_ifp rfl (fun _ => ?_) (fun hx => absurd h39 hx)
                refine run_seq fun K40 k40 => ?_
                refine run_region ?_
                refine Ops.v (Yv.assign rfl) ?_
                refine Ops.v (Yv.assign rfl) ?_
                refine Ops.nil ?_
                refine k40 _ _ ?_
                refine run_ret ?_
                refine ⟨[.slice none 0 0, .int .i64 2], ⟨_, _, rfl, rfl, ⟨_, _, rfl, rfl, rfl⟩⟩, ?_⟩
                obtain ⟨e1, e2⟩ := single_bad (W0 := W0) (H0 := H0) (m0 := m0) (W1 := W1) (H1 := H1) (m1 := m1) (W2 := W2) (H2 := H2) (m2 := m2) (xs0 := xs0) (xs1 := xs1) (xs2 := xs2) (n := 2) (X := X) (Y := Y) (bw := bw) (bh := bh) (vx := vx) (vy := vy) (kd := kd) (by unfold singleOk; omega)
                rw [e1, e2]
                exact ⟨none, 0, rfl, (hs14.pick [] [] (by decide) rfl).nilRow 5 1⟩
              · -- no
                refine run_region ?_
                refine Ops.v (Yv.fld F31_1 rfl) ?_
                refine Ops.v (Yv.load A3 rfl (now (hs14.cell 0 rfl 1 rfl))) ?_
                refine Ops.s (Step.call rfl rfl (within_fun) (?_) True.intro (by rfl))
                rintro _ _ ⟨rfl, rfl⟩
                refine Ops.v (Yv.notp rfl) ?_
                refine Ops.v (Yv.assign rfl) ?_
                refine Ops.nil ?_
                refine k36 _ _ ?_
                refine run_ifp rfl (fun h42 => ?_) (fun h42 => ?_)
                · -- yes ¬ (((-4095) : Int) ≤ vy ∧ vy ≤ 4095)
                  refine run_seq fun K43 k43 => ?_
                  refine run_region ?_
                  refine Ops.v (Yv.assign rfl) ?_
                  refine Ops.v (Yv.assign rfl) ?_
                  refine Ops.nil ?_
                  refine k43 _ _ ?_
                  refine run_ret ?_
                  refine ⟨[.slice none 0 0, .int .i64 2], ⟨_, _, rfl, rfl, ⟨_, _, rfl, rfl, rfl⟩⟩, ?_⟩
                  obtain ⟨e1, e2⟩ := single_bad (W0 := W0) (H0 := H0) (m0 := m0) (W1 := W1) (H1 := H1) (m1 := m1) (W2 := W2) (H2 := H2) (m2 := m2) (xs0 := xs0) (xs1 := xs1) (xs2 := xs2) (n := 2) (X := X) (Y := Y) (bw := bw) (bh := bh) (vx := vx) (vy := vy) (kd := kd) (by unfold singleOk; omega)
                  rw [e1, e2]
                  exact ⟨none, 0, rfl, (hs14.pick [] [] (by decide) rfl).nilRow 5 1⟩
                · -- no
                  refine run_skip ?_
                  refine k11 _ _ ?_
                  refine run_seq fun K44 k44 => ?_
                  refine run_seq fun K45 k45 => ?_
                  refine run_region ?_
                  refine Ops.v (Yv.move rfl) ?_
                  refine Ops.v ((Yv.eq rfl rfl).to (v := .bool false) (by rfl)) ?_
                  refine Ops.nil ?_
                  refine k45 _ _ ?_
                  refine run_if0 rfl ?_
                  refine run_skip ?_
                  refine k44 _ _ ?_
                  refine run_seq fun K46 k46 => ?_
                  refine run_drawn [] (fun x => Below (w14.drew).heap.size (w14.drew) x) ?_ Tf.mixed (by kernel_rfl) (fun _ _ _ h => h)
                  have hs47 := hs14.drew
                  have hS48 := Below.refl (w14.drew).heap.size (w14.drew)
                  refine Drw.a 0 rfl (by kernel_rfl) (Yv.move rfl) ?_
                  refine Drw.a 1 rfl (by kernel_rfl) (Yv.fld F27_0 rfl) ?_
                  refine Drw.a 2 rfl (by kernel_rfl) (Yv.idxa R25 rfl rfl (by decide) (by decide)) ?_
                  refine Drw.l 3 rfl (by kernel_rfl) hS48 (Yv.loadn (cs := [.int .i64 W2, .int .i64 H2, .slice A2 m2 c2]) A24 S24 rfl (fun _ hq_ => ((hs47.grow hq_).cells 2 rfl 6 3))) ?_
                  refine Drw.a 4 rfl (by kernel_rfl) (Yv.fld F29_0 rfl) ?_
                  refine Drw.l 5 rfl (by kernel_rfl) hS48 (Yv.load A3 rfl (fun _ hq_ => ((hs47.grow hq_).cell 1 rfl 0 rfl))) ?_
                  refine Drw.a 6 rfl (by kernel_rfl) (Yv.mul rfl rfl (by omega)) ?_
                  refine Drw.a 7 rfl (by kernel_rfl) (Yv.fld F31_0 rfl) ?_
                  refine Drw.l 8 rfl (by kernel_rfl) hS48 (Yv.load A3 rfl (fun _ hq_ => ((hs47.grow hq_).cell 0 rfl 0 rfl))) ?_
                  refine Drw.a 9 rfl (by kernel_rfl) (Yv.add rfl rfl (by omega)) ?_
                  refine Drw.a 10 rfl (by kernel_rfl) (Yv.fld F29_1 rfl) ?_
                  refine Drw.l 11 rfl (by kernel_rfl) hS48 (Yv.load A3 rfl (fun _ hq_ => ((hs47.grow hq_).cell 1 rfl 1 rfl))) ?_
                  refine Drw.a 12 rfl (by kernel_rfl) (Yv.mul rfl rfl (by omega)) ?_
                  refine Drw.a 13 rfl (by kernel_rfl) (Yv.fld F31_1 rfl) ?_
                  refine Drw.l 14 rfl (by kernel_rfl) hS48 (Yv.load A3 rfl (fun _ hq_ => ((hs47.grow hq_).cell 0 rfl 1 rfl))) ?_
                  refine Drw.a 15 rfl (by kernel_rfl) (Yv.add rfl rfl (by omega)) ?_
                  refine Drw.a 16 rfl (by kernel_rfl) (Yv.fld F29_2 rfl) ?_
                  refine Drw.l 17 rfl (by kernel_rfl) hS48 (Yv.load A3 rfl (fun _ hq_ => ((hs47.grow hq_).cell 1 rfl 2 rfl))) ?_
                  refine Drw.a 18 rfl (by kernel_rfl) (Yv.fld F29_3 rfl) ?_
                  refine Drw.l 19 rfl (by kernel_rfl) hS48 (Yv.load A3 rfl (fun _ hq_ => ((hs47.grow hq_).cell 1 rfl 3 rfl))) ?_
                  refine Drw.a 20 rfl (by kernel_rfl) (Yv.move rfl) ?_
                  refine Drw.one 21 rfl (by kernel_rfl) (Step.call rfl rfl (fetch_fun (hs47.rd hr2) hx2 (by omega)) (?_) True.intro (by rfl))
                  rintro _ w52 ⟨Ad49, c50, rfl, hs52⟩
                  have hS53 := HS.keepS hS48 (Nat.le_refl _) hs52
                  refine ⟨fun _ _ => hS53, ?_⟩
                  replace hs52 := hs47.call hs52
                  refine Drw.a 22 rfl (by kernel_rfl) (Yv.extract rfl rfl) ?_
                  refine Drw.a 23 rfl (by kernel_rfl) (Yv.extract rfl rfl) ?_
                  refine Drw.a 24 rfl (by kernel_rfl) (Yv.assign rfl) ?_
                  refine Drw.a 25 rfl (by kernel_rfl) (Yv.assign rfl) ?_
                  refine Drw.done ?_ (by kernel_rfl)
                  refine k46 _ _ ?_
                  refine run_ret ?_
                  refine ⟨[.slice Ad49 ((fetchOut xs2 W2 H2 m2 (((16 : Int) * X) + vx) (((16 : Int) * Y) + vy) bw bh kd).length) c50, .int .i64 (fetchE W2 H2 m2 (((16 : Int) * X) + vx) (((16 : Int) * Y) + vy) bw bh kd)], ⟨_, _, rfl, rfl, ⟨_, _, rfl, rfl, rfl⟩⟩, ?_⟩
                  obtain ⟨e1, e2⟩ := single_ok (W0 := W0) (H0 := H0) (m0 := m0) (W1 := W1) (H1 := H1) (m1 := m1) (W2 := W2) (H2 := H2) (m2 := m2) (xs0 := xs0) (xs1 := xs1) (xs2 := xs2) (n := 2) (X := X) (Y := Y) (bw := bw) (bh := bh) (vx := vx) (vy := vy) (kd := kd) (by unfold singleOk; omega)
                  rw [e1, e2]
                  have hz := hs52.pick [0] [.row Ad49 ((fetchOut xs2 W2 H2 m2 (((16 : Int) * X) + vx) (((16 : Int) * Y) + vy) bw bh kd).length) c50 (u8s (fetchOut xs2 W2 H2 m2 (((16 : Int) * X) + vx) (((16 : Int) * Y) + vy) bw bh kd)) 5 1] (by decide) rfl
                  exact ⟨Ad49, c50, (by rfl), hz.to (by rfl)⟩

set_option maxHeartbeats 2000000 in
theorem single_x {w : World} {W0 H0 W1 H1 W2 H2 : Int} {A0 A1 A2 : Option Addr} {m0 m1 m2 c0 c1 c2 : Nat} {xs0 xs1 xs2 : List Int} (hr0 : Rd w A0 m0 1 (u8s xs0)) (hx0 : Bytes xs0) (hr1 : Rd w A1 m1 1 (u8s xs1)) (hx1 : Bytes xs1) (hr2 : Rd w A2 m2 1 (u8s xs2)) (hx2 : Bytes xs2) (hc0 : m0 ≤ c0) (hc1 : m1 ≤ c1) (hc2 : m2 ≤ c2) {X Y bw bh vx vy kd : Int} {n : Int} (hn : ¬ (0 ≤ n ∧ n ≤ 2)) : Fun Try.prog 12 [.agg #[.int .i64 W0, .int .i64 H0, .slice A0 m0 c0, .int .i64 W1, .int .i64 H1, .slice A1 m1 c1, .int .i64 W2, .int .i64 H2, .slice A2 m2 c2], .int .i64 n, .agg #[.int .i64 X, .int .i64 Y, .int .i64 bw, .int .i64 bh], .agg #[.int .i64 vx, .int .i64 vy], .int .i64 kd] w fun v w' => ∃ A' c', v = .tuple #[.slice A' (singleOut W0 H0 m0 W1 H1 m1 W2 H2 m2 xs0 xs1 xs2 n X Y bw bh vx vy kd).length c', .int .i64 (singleE W0 H0 m0 W1 H1 m1 W2 H2 m2 n X Y bw bh vx vy kd)] ∧ HS w [.row A' (singleOut W0 H0 m0 W1 H1 m1 W2 H2 m2 xs0 xs1 xs2 n X Y bw bh vx vy kd).length c' (u8s (singleOut W0 H0 m0 W1 H1 m1 W2 H2 m2 xs0 xs1 xs2 n X Y bw bh vx vy kd)) 5 1] w' := by
  refine fun_run (m := 78) (rs := [.tmp 10, .tmp 11]) Try.func12 rfl rfl rfl rfl rfl ?_
  have hs0 := HS.start w
  have hbig0 := hr0.big
  have hlen_xs0 : xs0.length = m0 := by have := hr0.len; rw [u8s_length] at this; omega
  have hbig1 := hr1.big
  have hlen_xs1 : xs1.length = m1 := by have := hr1.len; rw [u8s_length] at this; omega
  have hbig2 := hr2.big
  have hlen_xs2 : xs2.length = m2 := by have := hr2.len; rw [u8s_length] at this; omega
  refine run_seq fun K1 k1 => ?_
  refine run_region ?_
  refine Ops.s (Step.box (cs := [.int .i64 W0, .int .i64 H0, .slice A0 m0 c0, .int .i64 W1, .int .i64 H1, .slice A1 m1 c1, .int .i64 W2, .int .i64 H2, .slice A2 m2 c2]) hs0 rfl rfl (fun b2 w3 hs3 hb3 => ?_) True.intro (by rfl))
  refine Ops.s (Step.box (cs := [.int .i64 X, .int .i64 Y, .int .i64 bw, .int .i64 bh]) hs3 rfl rfl (fun b5 w6 hs6 hb6 => ?_) True.intro (by rfl))
  refine Ops.s (Step.box (cs := [.int .i64 vx, .int .i64 vy]) hs6 rfl rfl (fun b8 w9 hs9 hb9 => ?_) True.intro (by rfl))
  refine Ops.v (Yv.assign rfl) ?_
  refine Ops.v (Yv.assign rfl) ?_
  refine Ops.nil ?_
  refine k1 _ _ ?_
  refine run_seq fun K11 k11 => ?_
  refine run_block ?_
  refine run_seq fun K12 k12 => ?_
  refine run_seq fun K13 k13 => ?_
  refine run_region ?_
  refine Ops.v (Yv.loadn (cs := [.int .i64 W0, .int .i64 H0, .slice A0 m0 c0, .int .i64 W1, .int .i64 H1, .slice A1 m1 c1, .int .i64 W2, .int .i64 H2, .slice A2 m2 c2]) A27 S27 rfl (now (hs9.cells 2 rfl 0 9))) ?_
  refine Ops.s (Step.call rfl rfl (whole_fun) (?_) True.intro (by rfl))
  rintro _ w14 ⟨rfl, hs14⟩
  replace hs14 := hs9.call hs14
  refine Ops.v (Yv.ne rfl rfl) ?_
  refine Ops.v (Yv.assign rfl) ?_
  refine Ops.nil ?_
  refine k13 _ _ ?_
  refine run_ifp rfl (fun h15 => ?_) (fun h15 => ?_)
  · -- yes (wholeF W0 H0 m0 W1 H1 m1 W2 H2 m2) ≠ (0 : Int)
    refine run_skip ?_
    refine k12 _ _ ?_
    refine run_ifp rfl (fun _ => ?_) (fun hx => absurd h15 hx)
    refine run_seq fun K16 k16 => ?_
    refine run_region ?_
    refine Ops.v (Yv.assign rfl) ?_
    refine Ops.v (Yv.assign rfl) ?_
    refine Ops.nil ?_
    refine k16 _ _ ?_
    refine run_ret ?_
    refine ⟨[.slice none 0 0, .int .i64 2], ⟨_, _, rfl, rfl, ⟨_, _, rfl, rfl, rfl⟩⟩, ?_⟩
    obtain ⟨e1, e2⟩ := single_bad (W0 := W0) (H0 := H0) (m0 := m0) (W1 := W1) (H1 := H1) (m1 := m1) (W2 := W2) (H2 := H2) (m2 := m2) (xs0 := xs0) (xs1 := xs1) (xs2 := xs2) (n := n) (X := X) (Y := Y) (bw := bw) (bh := bh) (vx := vx) (vy := vy) (kd := kd) (by unfold singleOk; omega)
    rw [e1, e2]
    exact ⟨none, 0, rfl, (hs14.pick [] [] (by decide) rfl).nilRow 5 1⟩
  · -- no
    refine run_region ?_
    refine Ops.v (Yv.move rfl) ?_
    refine Ops.s (Step.call rfl rfl (within_fun) (?_) True.intro (by rfl))
    rintro _ _ ⟨rfl, rfl⟩
    refine Ops.v (Yv.notp rfl) ?_
    refine Ops.v (Yv.assign rfl) ?_
    refine Ops.nil ?_
    refine k12 _ _ ?_
    refine run_ifp rfl (fun _ => ?_) (fun hx => absurd (hn) hx)
    refine run_seq fun K18 k18 => ?_
    refine run_region ?_
    refine Ops.v (Yv.assign rfl) ?_
    refine Ops.v (Yv.assign rfl) ?_
    refine Ops.nil ?_
    refine k18 _ _ ?_
    refine run_ret ?_
    refine ⟨[.slice none 0 0, .int .i64 2], ⟨_, _, rfl, rfl, ⟨_, _, rfl, rfl, rfl⟩⟩, ?_⟩
    obtain ⟨e1, e2⟩ := single_bad (W0 := W0) (H0 := H0) (m0 := m0) (W1 := W1) (H1 := H1) (m1 := m1) (W2 := W2) (H2 := H2) (m2 := m2) (xs0 := xs0) (xs1 := xs1) (xs2 := xs2) (n := n) (X := X) (Y := Y) (bw := bw) (bh := bh) (vx := vx) (vy := vy) (kd := kd) (by unfold singleOk; omega)
    rw [e1, e2]
    exact ⟨none, 0, rfl, (hs14.pick [] [] (by decide) rfl).nilRow 5 1⟩

theorem single_fun {w : World} {W0 H0 W1 H1 W2 H2 : Int} {A0 A1 A2 : Option Addr} {m0 m1 m2 c0 c1 c2 : Nat} {xs0 xs1 xs2 : List Int} (hr0 : Rd w A0 m0 1 (u8s xs0)) (hx0 : Bytes xs0) (hr1 : Rd w A1 m1 1 (u8s xs1)) (hx1 : Bytes xs1) (hr2 : Rd w A2 m2 1 (u8s xs2)) (hx2 : Bytes xs2) (hc0 : m0 ≤ c0) (hc1 : m1 ≤ c1) (hc2 : m2 ≤ c2) {X Y bw bh vx vy kd : Int} {n : Int} : Fun Try.prog 12 [.agg #[.int .i64 W0, .int .i64 H0, .slice A0 m0 c0, .int .i64 W1, .int .i64 H1, .slice A1 m1 c1, .int .i64 W2, .int .i64 H2, .slice A2 m2 c2], .int .i64 n, .agg #[.int .i64 X, .int .i64 Y, .int .i64 bw, .int .i64 bh], .agg #[.int .i64 vx, .int .i64 vy], .int .i64 kd] w fun v w' => ∃ A' c', v = .tuple #[.slice A' (singleOut W0 H0 m0 W1 H1 m1 W2 H2 m2 xs0 xs1 xs2 n X Y bw bh vx vy kd).length c', .int .i64 (singleE W0 H0 m0 W1 H1 m1 W2 H2 m2 n X Y bw bh vx vy kd)] ∧ HS w [.row A' (singleOut W0 H0 m0 W1 H1 m1 W2 H2 m2 xs0 xs1 xs2 n X Y bw bh vx vy kd).length c' (u8s (singleOut W0 H0 m0 W1 H1 m1 W2 H2 m2 xs0 xs1 xs2 n X Y bw bh vx vy kd)) 5 1] w' := by
  by_cases h : 0 ≤ n ∧ n ≤ 2
  · have h3 : n = 0 ∨ n = 1 ∨ n = 2 := by omega
    rcases h3 with rfl | rfl | rfl
    · exact single_0 hr0 hx0 hr1 hx1 hr2 hx2 hc0 hc1 hc2
    · exact single_1 hr0 hx0 hr1 hx1 hr2 hx2 hc0 hc1 hc2
    · exact single_2 hr0 hx0 hr1 hx1 hr2 hx2 hc0 hc1 hc2
  · exact single_x hr0 hx0 hr1 hx1 hr2 hx2 hc0 hc1 hc2 h

set_option maxHeartbeats 2000000 in
theorem rsingle_0 {w : World} {W0 H0 W1 H1 W2 H2 : Int} {A0 A1 A2 : Option Addr} {m0 m1 m2 c0 c1 c2 : Nat} {xs0 xs1 xs2 : List Int} (hr0 : Rd w A0 m0 1 (u8s xs0)) (hx0 : Bytes xs0) (hr1 : Rd w A1 m1 1 (u8s xs1)) (hx1 : Bytes xs1) (hr2 : Rd w A2 m2 1 (u8s xs2)) (hx2 : Bytes xs2) (hc0 : m0 ≤ c0) (hc1 : m1 ≤ c1) (hc2 : m2 ≤ c2) {X Y bw bh vx vy kd : Int} : Fun Try.prog 13 [.agg #[.int .i64 W0, .int .i64 H0, .slice A0 m0 c0, .int .i64 W1, .int .i64 H1, .slice A1 m1 c1, .int .i64 W2, .int .i64 H2, .slice A2 m2 c2], .int .i64 0, .agg #[.int .i64 X, .int .i64 Y, .int .i64 bw, .int .i64 bh], .agg #[.int .i64 vx, .int .i64 vy], .int .i64 kd] w fun v w' => ∃ A' c', v = .tuple #[.slice A' (singleOut W0 H0 m0 W1 H1 m1 W2 H2 m2 xs0 xs1 xs2 0 X Y bw bh vx vy kd).length c', .int .i64 (singleE W0 H0 m0 W1 H1 m1 W2 H2 m2 0 X Y bw bh vx vy kd)] ∧ HS w [.row A' (singleOut W0 H0 m0 W1 H1 m1 W2 H2 m2 xs0 xs1 xs2 0 X Y bw bh vx vy kd).length c' (u8s (singleOut W0 H0 m0 W1 H1 m1 W2 H2 m2 xs0 xs1 xs2 0 X Y bw bh vx vy kd)) 5 1] w' := by
  refine fun_run (m := 106) (rs := [.tmp 10, .tmp 11]) Try.func13 rfl rfl rfl rfl rfl ?_
  have hs0 := HS.start w
  have hbig0 := hr0.big
  have hlen_xs0 : xs0.length = m0 := by have := hr0.len; rw [u8s_length] at this; omega
  have hbig1 := hr1.big
  have hlen_xs1 : xs1.length = m1 := by have := hr1.len; rw [u8s_length] at this; omega
  have hbig2 := hr2.big
  have hlen_xs2 : xs2.length = m2 := by have := hr2.len; rw [u8s_length] at this; omega
  refine run_seq fun K1 k1 => ?_
  refine run_region ?_
  refine Ops.s (Step.box (cs := [.int .i64 W0, .int .i64 H0, .slice A0 m0 c0, .int .i64 W1, .int .i64 H1, .slice A1 m1 c1, .int .i64 W2, .int .i64 H2, .slice A2 m2 c2]) hs0 rfl rfl (fun b2 w3 hs3 hb3 => ?_) True.intro (by rfl))
  refine Ops.s (Step.box (cs := [.int .i64 X, .int .i64 Y, .int .i64 bw, .int .i64 bh]) hs3 rfl rfl (fun b5 w6 hs6 hb6 => ?_) True.intro (by rfl))
  refine Ops.s (Step.box (cs := [.int .i64 vx, .int .i64 vy]) hs6 rfl rfl (fun b8 w9 hs9 hb9 => ?_) True.intro (by rfl))
  refine Ops.v (Yv.assign rfl) ?_
  refine Ops.v (Yv.assign rfl) ?_
  refine Ops.nil ?_
  refine k1 _ _ ?_
  refine run_seq fun K11 k11 => ?_
  refine run_seq fun K12 k12 => ?_
  refine Run.cut (fun e_ w_ => HS w [.blk b8 [.int .i64 vx, .int .i64 vy] 31, .blk b5 [.int .i64 X, .int .i64 Y, .int .i64 bw, .int .i64 bh] 29, .blk b2 [.int .i64 W0, .int .i64 H0, .slice A0 m0 c0, .int .i64 W1, .int .i64 H1, .slice A1 m1 c1, .int .i64 W2, .int .i64 H2, .slice A2 m2 c2] 27] w_ ∧ Le [(0, .agg #[.int .i64 W0, .int .i64 H0, .slice A0 m0 c0, .int .i64 W1, .int .i64 H1, .slice A1 m1 c1, .int .i64 W2, .int .i64 H2, .slice A2 m2 c2]), (1, .int .i64 0), (2, .agg #[.int .i64 X, .int .i64 Y, .int .i64 bw, .int .i64 bh]), (3, .agg #[.int .i64 vx, .int .i64 vy]), (4, .int .i64 kd), (5, .pointer (some ⟨b2, 0, none⟩)), (7, .pointer (some ⟨b5, 0, none⟩)), (8, .pointer (some ⟨b8, 0, none⟩)), (10, .slice none 0 0), (11, .int .i64 0), (75, .bool (decide ((((((((((((wholeF W0 H0 m0 W1 H1 m1 W2 H2 m2) ≠ (0 : Int)) ∨ (X < (0 : Int))) ∨ ((1024 : Int) < X)) ∨ (Y < (0 : Int))) ∨ ((1024 : Int) < Y)) ∨ (bw < (4 : Int))) ∨ ((64 : Int) < bw)) ∨ (bh < (4 : Int))) ∨ ((64 : Int) < bh)) ∨ (¬ (-4095 ≤ vx ∧ vx ≤ 4095))) ∨ (¬ (-4095 ≤ vy ∧ vy ≤ 4095)))))] e_) ?_ ?_
  · -- region 1: its ways meet again
    refine run_region' _ rfl ?_
    refine Ops.v (Yv.loadn (cs := [.int .i64 W0, .int .i64 H0, .slice A0 m0 c0, .int .i64 W1, .int .i64 H1, .slice A1 m1 c1, .int .i64 W2, .int .i64 H2, .slice A2 m2 c2]) A27 S27 rfl (now (hs9.cells 2 rfl 0 9))) ?_
    refine Ops.s (Step.call rfl rfl (rwhole_fun) (?_) True.intro (by rfl))
    rintro _ w13 ⟨rfl, hs13⟩
    replace hs13 := hs9.call hs13
    refine Ops.v (Yv.ne rfl rfl) ?_
    refine Ops.dec (fun h14 => ?_) (fun h14 => ?_)
    · -- yes
      refine Ops.v (Yv.move rfl) ?_
      refine Ops.skip ⟨_, rfl, rfl⟩ ?_
      refine Ops.skip ⟨_, rfl, rfl⟩ ?_
      refine Ops.v (Yv.pick1 rfl rfl) ?_
      refine Ops.v (Yv.move rfl) ?_
      refine Ops.skip ⟨_, rfl, rfl⟩ ?_
      refine Ops.skip ⟨_, rfl, rfl⟩ ?_
      refine Ops.v (Yv.pick1 rfl rfl) ?_
      refine Ops.v (Yv.move rfl) ?_
      refine Ops.skip ⟨_, rfl, rfl⟩ ?_
      refine Ops.skip ⟨_, rfl, rfl⟩ ?_
      refine Ops.skip ⟨_, rfl, rfl⟩ ?_
      refine Ops.v (Yv.pick1 rfl rfl) ?_
      refine Ops.v (Yv.move rfl) ?_
      refine Ops.skip ⟨_, rfl, rfl⟩ ?_
      refine Ops.skip ⟨_, rfl, rfl⟩ ?_
      refine Ops.skip ⟨_, rfl, rfl⟩ ?_
      refine Ops.v (Yv.pick1 rfl rfl) ?_
      refine Ops.v (Yv.move rfl) ?_
      refine Ops.skip ⟨_, rfl, rfl⟩ ?_
      refine Ops.skip ⟨_, rfl, rfl⟩ ?_
      refine Ops.skip ⟨_, rfl, rfl⟩ ?_
      refine Ops.v (Yv.pick1 rfl rfl) ?_
      refine Ops.v (Yv.move rfl) ?_
      refine Ops.skip ⟨_, rfl, rfl⟩ ?_
      refine Ops.skip ⟨_, rfl, rfl⟩ ?_
      refine Ops.skip ⟨_, rfl, rfl⟩ ?_
      refine Ops.v (Yv.pick1 rfl rfl) ?_
      refine Ops.v (Yv.move rfl) ?_
      refine Ops.skip ⟨_, rfl, rfl⟩ ?_
      refine Ops.skip ⟨_, rfl, rfl⟩ ?_
      refine Ops.skip ⟨_, rfl, rfl⟩ ?_
      refine Ops.v (Yv.pick1 rfl rfl) ?_
      refine Ops.v (Yv.move rfl) ?_
      refine Ops.skip ⟨_, rfl, rfl⟩ ?_
      refine Ops.skip ⟨_, rfl, rfl⟩ ?_
      refine Ops.skip ⟨_, rfl, rfl⟩ ?_
      refine Ops.v (Yv.pick1 rfl rfl) ?_
      refine Ops.v (Yv.move rfl) ?_
      refine Ops.skip ⟨_, rfl, rfl⟩ ?_
      refine Ops.skip ⟨_, rfl, rfl⟩ ?_
      refine Ops.skip ⟨_, rfl, rfl⟩ ?_
      refine Ops.v (Yv.pick1 rfl rfl) ?_
      refine Ops.v (Yv.move rfl) ?_
      refine Ops.skip ⟨_, rfl, rfl⟩ ?_
      refine Ops.skip ⟨_, rfl, rfl⟩ ?_
      refine Ops.skip ⟨_, rfl, rfl⟩ ?_
      refine Ops.v (Yv.pick1 rfl rfl) ?_
      refine Ops.v (Yv.move rfl) ?_
      refine Ops.skip ⟨_, rfl, rfl⟩ ?_
      refine Ops.skip ⟨_, rfl, rfl⟩ ?_
      refine Ops.skip ⟨_, rfl, rfl⟩ ?_
      refine Ops.skip ⟨_, rfl, rfl⟩ ?_
      refine Ops.v (Yv.pick1 rfl rfl) ?_
      refine Ops.v (Yv.move rfl) ?_
      refine Ops.skip ⟨_, rfl, rfl⟩ ?_
      refine Ops.skip ⟨_, rfl, rfl⟩ ?_
      refine Ops.skip ⟨_, rfl, rfl⟩ ?_
      refine Ops.skip ⟨_, rfl, rfl⟩ ?_
      refine Ops.v (Yv.pick1 rfl rfl) ?_
      refine Ops.nil ?_
      refine ⟨hs13, Sub.le ⟨rfl, rfl, rfl, rfl, rfl, rfl, rfl, rfl, rfl, rfl, lookB rfl (by first | (simp only [h14, ne_eq, not_true_eq_false, not_false_eq_true, or_true, true_or, or_false, false_or, and_true, true_and, and_false, false_and, decide_true, decide_false, or_self, and_self, Bool.decide_eq_true]; done) | simp [h14]), trivial⟩⟩
    · -- no
      refine Ops.v (Yv.move rfl) ?_
      refine Ops.vg ⟨_, rfl, rfl⟩ (Yv.move rfl) ?_
      refine Ops.vg ⟨_, rfl, rfl⟩ ((Yv.lt rfl rfl).to (v := .bool false) (by rfl)) ?_
      refine Ops.v (Yv.pick0 rfl rfl) ?_
      refine Ops.v (Yv.move rfl) ?_
      refine Ops.vg ⟨_, rfl, rfl⟩ (Yv.move rfl) ?_
      refine Ops.vg ⟨_, rfl, rfl⟩ ((Yv.gt rfl rfl).to (v := .bool false) (by rfl)) ?_
      refine Ops.v (Yv.pick0 rfl rfl) ?_
      refine Ops.v (Yv.move rfl) ?_
      refine Ops.vg ⟨_, rfl, rfl⟩ (Yv.fld F29_0 rfl) ?_
      refine Ops.vg ⟨_, rfl, rfl⟩ (Yv.load A3 rfl (now (hs13.cell 1 rfl 0 rfl))) ?_
      refine Ops.vg ⟨_, rfl, rfl⟩ (Yv.lt rfl rfl) ?_
      refine Ops.dec (fun h15 => ?_) (fun h15 => ?_)
      · -- yes
        refine Ops.v (Yv.pick0 rfl rfl) ?_
        refine Ops.v (Yv.move rfl) ?_
        refine Ops.skip ⟨_, rfl, rfl⟩ ?_
        refine Ops.skip ⟨_, rfl, rfl⟩ ?_
        refine Ops.skip ⟨_, rfl, rfl⟩ ?_
        refine Ops.v (Yv.pick1 rfl rfl) ?_
        refine Ops.v (Yv.move rfl) ?_
        refine Ops.skip ⟨_, rfl, rfl⟩ ?_
        refine Ops.skip ⟨_, rfl, rfl⟩ ?_
        refine Ops.skip ⟨_, rfl, rfl⟩ ?_
        refine Ops.v (Yv.pick1 rfl rfl) ?_
        refine Ops.v (Yv.move rfl) ?_
        refine Ops.skip ⟨_, rfl, rfl⟩ ?_
        refine Ops.skip ⟨_, rfl, rfl⟩ ?_
        refine Ops.skip ⟨_, rfl, rfl⟩ ?_
        refine Ops.v (Yv.pick1 rfl rfl) ?_
        refine Ops.v (Yv.move rfl) ?_
        refine Ops.skip ⟨_, rfl, rfl⟩ ?_
        refine Ops.skip ⟨_, rfl, rfl⟩ ?_
        refine Ops.skip ⟨_, rfl, rfl⟩ ?_
        refine Ops.v (Yv.pick1 rfl rfl) ?_
        refine Ops.v (Yv.move rfl) ?_
        refine Ops.skip ⟨_, rfl, rfl⟩ ?_
        refine Ops.skip ⟨_, rfl, rfl⟩ ?_
        refine Ops.skip ⟨_, rfl, rfl⟩ ?_
        refine Ops.v (Yv.pick1 rfl rfl) ?_
        refine Ops.v (Yv.move rfl) ?_
        refine Ops.skip ⟨_, rfl, rfl⟩ ?_
        refine Ops.skip ⟨_, rfl, rfl⟩ ?_
        refine Ops.skip ⟨_, rfl, rfl⟩ ?_
        refine Ops.v (Yv.pick1 rfl rfl) ?_
        refine Ops.v (Yv.move rfl) ?_
        refine Ops.skip ⟨_, rfl, rfl⟩ ?_
        refine Ops.skip ⟨_, rfl, rfl⟩ ?_
        refine Ops.skip ⟨_, rfl, rfl⟩ ?_
        refine Ops.v (Yv.pick1 rfl rfl) ?_
        refine Ops.v (Yv.move rfl) ?_
        refine Ops.skip ⟨_, rfl, rfl⟩ ?_
        refine Ops.skip ⟨_, rfl, rfl⟩ ?_
        refine Ops.skip ⟨_, rfl, rfl⟩ ?_
        refine Ops.skip ⟨_, rfl, rfl⟩ ?_
        refine Ops.v (Yv.pick1 rfl rfl) ?_
        refine Ops.v (Yv.move rfl) ?_
        refine Ops.skip ⟨_, rfl, rfl⟩ ?_
        refine Ops.skip ⟨_, rfl, rfl⟩ ?_
        refine Ops.skip ⟨_, rfl, rfl⟩ ?_
        refine Ops.skip ⟨_, rfl, rfl⟩ ?_
        refine Ops.v (Yv.pick1 rfl rfl) ?_
        refine Ops.nil ?_
        refine ⟨hs13, Sub.le ⟨rfl, rfl, rfl, rfl, rfl, rfl, rfl, rfl, rfl, rfl, lookB rfl (by first | (simp only [h14, h15, ne_eq, not_true_eq_false, not_false_eq_true, or_true, true_or, or_false, false_or, and_true, true_and, and_false, false_and, decide_true, decide_false, or_self, and_self, Bool.decide_eq_true]; done) | simp [h14, h15]), trivial⟩⟩
      · -- no
        refine Ops.v (Yv.pick0 rfl rfl) ?_
        refine Ops.v (Yv.move rfl) ?_
        refine Ops.vg ⟨_, rfl, rfl⟩ (Yv.fld F29_0 rfl) ?_
        refine Ops.vg ⟨_, rfl, rfl⟩ (Yv.load A3 rfl (now (hs13.cell 1 rfl 0 rfl))) ?_
        refine Ops.vg ⟨_, rfl, rfl⟩ (Yv.gt rfl rfl) ?_
        refine Ops.dec (fun h16 => ?_) (fun h16 => ?_)
        · -- yes
          refine Ops.v (Yv.pick0 rfl rfl) ?_
          refine Ops.v (Yv.move rfl) ?_
          refine Ops.skip ⟨_, rfl, rfl⟩ ?_
          refine Ops.skip ⟨_, rfl, rfl⟩ ?_
          refine Ops.skip ⟨_, rfl, rfl⟩ ?_
          refine Ops.v (Yv.pick1 rfl rfl) ?_
          refine Ops.v (Yv.move rfl) ?_
          refine Ops.skip ⟨_, rfl, rfl⟩ ?_
          refine Ops.skip ⟨_, rfl, rfl⟩ ?_
          refine Ops.skip ⟨_, rfl, rfl⟩ ?_
          refine Ops.v (Yv.pick1 rfl rfl) ?_
          refine Ops.v (Yv.move rfl) ?_
          refine Ops.skip ⟨_, rfl, rfl⟩ ?_
          refine Ops.skip ⟨_, rfl, rfl⟩ ?_
          refine Ops.skip ⟨_, rfl, rfl⟩ ?_
          refine Ops.v (Yv.pick1 rfl rfl) ?_
          refine Ops.v (Yv.move rfl) ?_
          refine Ops.skip ⟨_, rfl, rfl⟩ ?_
          refine Ops.skip ⟨_, rfl, rfl⟩ ?_
          refine Ops.skip ⟨_, rfl, rfl⟩ ?_
          refine Ops.v (Yv.pick1 rfl rfl) ?_
          refine Ops.v (Yv.move rfl) ?_
          refine Ops.skip ⟨_, rfl, rfl⟩ ?_
          refine Ops.skip ⟨_, rfl, rfl⟩ ?_
          refine Ops.skip ⟨_, rfl, rfl⟩ ?_
          refine Ops.v (Yv.pick1 rfl rfl) ?_
          refine Ops.v (Yv.move rfl) ?_
          refine Ops.skip ⟨_, rfl, rfl⟩ ?_
          refine Ops.skip ⟨_, rfl, rfl⟩ ?_
          refine Ops.skip ⟨_, rfl, rfl⟩ ?_
          refine Ops.v (Yv.pick1 rfl rfl) ?_
          refine Ops.v (Yv.move rfl) ?_
          refine Ops.skip ⟨_, rfl, rfl⟩ ?_
          refine Ops.skip ⟨_, rfl, rfl⟩ ?_
          refine Ops.skip ⟨_, rfl, rfl⟩ ?_
          refine Ops.skip ⟨_, rfl, rfl⟩ ?_
          refine Ops.v (Yv.pick1 rfl rfl) ?_
          refine Ops.v (Yv.move rfl) ?_
          refine Ops.skip ⟨_, rfl, rfl⟩ ?_
          refine Ops.skip ⟨_, rfl, rfl⟩ ?_
          refine Ops.skip ⟨_, rfl, rfl⟩ ?_
          refine Ops.skip ⟨_, rfl, rfl⟩ ?_
          refine Ops.v (Yv.pick1 rfl rfl) ?_
          refine Ops.nil ?_
          refine ⟨hs13, Sub.le ⟨rfl, rfl, rfl, rfl, rfl, rfl, rfl, rfl, rfl, rfl, lookB rfl (by first | (simp only [h14, h15, h16, ne_eq, not_true_eq_false, not_false_eq_true, or_true, true_or, or_false, false_or, and_true, true_and, and_false, false_and, decide_true, decide_false, or_self, and_self, Bool.decide_eq_true]; done) | simp [h14, h15, h16]), trivial⟩⟩
        · -- no
          refine Ops.v (Yv.pick0 rfl rfl) ?_
          refine Ops.v (Yv.move rfl) ?_
          refine Ops.vg ⟨_, rfl, rfl⟩ (Yv.fld F29_1 rfl) ?_
          refine Ops.vg ⟨_, rfl, rfl⟩ (Yv.load A3 rfl (now (hs13.cell 1 rfl 1 rfl))) ?_
          refine Ops.vg ⟨_, rfl, rfl⟩ (Yv.lt rfl rfl) ?_
          refine Ops.dec (fun h17 => ?_) (fun h17 => ?_)
          · -- yes
            refine Ops.v (Yv.pick0 rfl rfl) ?_
            refine Ops.v (Yv.move rfl) ?_
            refine Ops.skip ⟨_, rfl, rfl⟩ ?_
            refine Ops.skip ⟨_, rfl, rfl⟩ ?_
            refine Ops.skip ⟨_, rfl, rfl⟩ ?_
            refine Ops.v (Yv.pick1 rfl rfl) ?_
            refine Ops.v (Yv.move rfl) ?_
            refine Ops.skip ⟨_, rfl, rfl⟩ ?_
            refine Ops.skip ⟨_, rfl, rfl⟩ ?_
            refine Ops.skip ⟨_, rfl, rfl⟩ ?_
            refine Ops.v (Yv.pick1 rfl rfl) ?_
            refine Ops.v (Yv.move rfl) ?_
            refine Ops.skip ⟨_, rfl, rfl⟩ ?_
            refine Ops.skip ⟨_, rfl, rfl⟩ ?_
            refine Ops.skip ⟨_, rfl, rfl⟩ ?_
            refine Ops.v (Yv.pick1 rfl rfl) ?_
            refine Ops.v (Yv.move rfl) ?_
            refine Ops.skip ⟨_, rfl, rfl⟩ ?_
            refine Ops.skip ⟨_, rfl, rfl⟩ ?_
            refine Ops.skip ⟨_, rfl, rfl⟩ ?_
            refine Ops.v (Yv.pick1 rfl rfl) ?_
            refine Ops.v (Yv.move rfl) ?_
            refine Ops.skip ⟨_, rfl, rfl⟩ ?_
            refine Ops.skip ⟨_, rfl, rfl⟩ ?_
            refine Ops.skip ⟨_, rfl, rfl⟩ ?_
            refine Ops.v (Yv.pick1 rfl rfl) ?_
            refine Ops.v (Yv.move rfl) ?_
            refine Ops.skip ⟨_, rfl, rfl⟩ ?_
            refine Ops.skip ⟨_, rfl, rfl⟩ ?_
            refine Ops.skip ⟨_, rfl, rfl⟩ ?_
            refine Ops.skip ⟨_, rfl, rfl⟩ ?_
            refine Ops.v (Yv.pick1 rfl rfl) ?_
            refine Ops.v (Yv.move rfl) ?_
            refine Ops.skip ⟨_, rfl, rfl⟩ ?_
            refine Ops.skip ⟨_, rfl, rfl⟩ ?_
            refine Ops.skip ⟨_, rfl, rfl⟩ ?_
            refine Ops.skip ⟨_, rfl, rfl⟩ ?_
            refine Ops.v (Yv.pick1 rfl rfl) ?_
            refine Ops.nil ?_
            refine ⟨hs13, Sub.le ⟨rfl, rfl, rfl, rfl, rfl, rfl, rfl, rfl, rfl, rfl, lookB rfl (by first | (simp only [h14, h15, h16, h17, ne_eq, not_true_eq_false, not_false_eq_true, or_true, true_or, or_false, false_or, and_true, true_and, and_false, false_and, decide_true, decide_false, or_self, and_self, Bool.decide_eq_true]; done) | simp [h14, h15, h16, h17]), trivial⟩⟩
          · -- no
            refine Ops.v (Yv.pick0 rfl rfl) ?_
            refine Ops.v (Yv.move rfl) ?_
            refine Ops.vg ⟨_, rfl, rfl⟩ (Yv.fld F29_1 rfl) ?_
            refine Ops.vg ⟨_, rfl, rfl⟩ (Yv.load A3 rfl (now (hs13.cell 1 rfl 1 rfl))) ?_
            refine Ops.vg ⟨_, rfl, rfl⟩ (Yv.gt rfl rfl) ?_
            refine Ops.dec (fun h18 => ?_) (fun h18 => ?_)
            · -- yes
              refine Ops.v (Yv.pick0 rfl rfl) ?_
              refine Ops.v (Yv.move rfl) ?_
              refine Ops.skip ⟨_, rfl, rfl⟩ ?_
              refine Ops.skip ⟨_, rfl, rfl⟩ ?_
              refine Ops.skip ⟨_, rfl, rfl⟩ ?_
              refine Ops.v (Yv.pick1 rfl rfl) ?_
              refine Ops.v (Yv.move rfl) ?_
              refine Ops.skip ⟨_, rfl, rfl⟩ ?_
              refine Ops.skip ⟨_, rfl, rfl⟩ ?_
              refine Ops.skip ⟨_, rfl, rfl⟩ ?_
              refine Ops.v (Yv.pick1 rfl rfl) ?_
              refine Ops.v (Yv.move rfl) ?_
              refine Ops.skip ⟨_, rfl, rfl⟩ ?_
              refine Ops.skip ⟨_, rfl, rfl⟩ ?_
              refine Ops.skip ⟨_, rfl, rfl⟩ ?_
              refine Ops.v (Yv.pick1 rfl rfl) ?_
              refine Ops.v (Yv.move rfl) ?_
              refine Ops.skip ⟨_, rfl, rfl⟩ ?_
              refine Ops.skip ⟨_, rfl, rfl⟩ ?_
              refine Ops.skip ⟨_, rfl, rfl⟩ ?_
              refine Ops.v (Yv.pick1 rfl rfl) ?_
              refine Ops.v (Yv.move rfl) ?_
              refine Ops.skip ⟨_, rfl, rfl⟩ ?_
              refine Ops.skip ⟨_, rfl, rfl⟩ ?_
              refine Ops.skip ⟨_, rfl, rfl⟩ ?_
              refine Ops.skip ⟨_, rfl, rfl⟩ ?_
              refine Ops.v (Yv.pick1 rfl rfl) ?_
              refine Ops.v (Yv.move rfl) ?_
              refine Ops.skip ⟨_, rfl, rfl⟩ ?_
              refine Ops.skip ⟨_, rfl, rfl⟩ ?_
              refine Ops.skip ⟨_, rfl, rfl⟩ ?_
              refine Ops.skip ⟨_, rfl, rfl⟩ ?_
              refine Ops.v (Yv.pick1 rfl rfl) ?_
              refine Ops.nil ?_
              refine ⟨hs13, Sub.le ⟨rfl, rfl, rfl, rfl, rfl, rfl, rfl, rfl, rfl, rfl, lookB rfl (by first | (simp only [h14, h15, h16, h17, h18, ne_eq, not_true_eq_false, not_false_eq_true, or_true, true_or, or_false, false_or, and_true, true_and, and_false, false_and, decide_true, decide_false, or_self, and_self, Bool.decide_eq_true]; done) | simp [h14, h15, h16, h17, h18]), trivial⟩⟩
            · -- no
              refine Ops.v (Yv.pick0 rfl rfl) ?_
              refine Ops.v (Yv.move rfl) ?_
              refine Ops.vg ⟨_, rfl, rfl⟩ (Yv.fld F29_2 rfl) ?_
              refine Ops.vg ⟨_, rfl, rfl⟩ (Yv.load A3 rfl (now (hs13.cell 1 rfl 2 rfl))) ?_
              refine Ops.vg ⟨_, rfl, rfl⟩ (Yv.lt rfl rfl) ?_
              refine Ops.dec (fun h19 => ?_) (fun h19 => ?_)
              · -- yes
                refine Ops.v (Yv.pick0 rfl rfl) ?_
                refine Ops.v (Yv.move rfl) ?_
                refine Ops.skip ⟨_, rfl, rfl⟩ ?_
                refine Ops.skip ⟨_, rfl, rfl⟩ ?_
                refine Ops.skip ⟨_, rfl, rfl⟩ ?_
                refine Ops.v (Yv.pick1 rfl rfl) ?_
                refine Ops.v (Yv.move rfl) ?_
                refine Ops.skip ⟨_, rfl, rfl⟩ ?_
                refine Ops.skip ⟨_, rfl, rfl⟩ ?_
                refine Ops.skip ⟨_, rfl, rfl⟩ ?_
                refine Ops.v (Yv.pick1 rfl rfl) ?_
                refine Ops.v (Yv.move rfl) ?_
                refine Ops.skip ⟨_, rfl, rfl⟩ ?_
                refine Ops.skip ⟨_, rfl, rfl⟩ ?_
                refine Ops.skip ⟨_, rfl, rfl⟩ ?_
                refine Ops.v (Yv.pick1 rfl rfl) ?_
                refine Ops.v (Yv.move rfl) ?_
                refine Ops.skip ⟨_, rfl, rfl⟩ ?_
                refine Ops.skip ⟨_, rfl, rfl⟩ ?_
                refine Ops.skip ⟨_, rfl, rfl⟩ ?_
                refine Ops.skip ⟨_, rfl, rfl⟩ ?_
                refine Ops.v (Yv.pick1 rfl rfl) ?_
                refine Ops.v (Yv.move rfl) ?_
                refine Ops.skip ⟨_, rfl, rfl⟩ ?_
                refine Ops.skip ⟨_, rfl, rfl⟩ ?_
                refine Ops.skip ⟨_, rfl, rfl⟩ ?_
                refine Ops.skip ⟨_, rfl, rfl⟩ ?_
                refine Ops.v (Yv.pick1 rfl rfl) ?_
                refine Ops.nil ?_
                refine ⟨hs13, Sub.le ⟨rfl, rfl, rfl, rfl, rfl, rfl, rfl, rfl, rfl, rfl, lookB rfl (by first | (simp only [h14, h15, h16, h17, h18, h19, ne_eq, not_true_eq_false, not_false_eq_true, or_true, true_or, or_false, false_or, and_true, true_and, and_false, false_and, decide_true, decide_false, or_self, and_self, Bool.decide_eq_true]; done) | simp [h14, h15, h16, h17, h18, h19]), trivial⟩⟩
              · -- no
                refine Ops.v (Yv.pick0 rfl rfl) ?_
                refine Ops.v (Yv.move rfl) ?_
                refine Ops.vg ⟨_, rfl, rfl⟩ (Yv.fld F29_2 rfl) ?_
                refine Ops.vg ⟨_, rfl, rfl⟩ (Yv.load A3 rfl (now (hs13.cell 1 rfl 2 rfl))) ?_
                refine Ops.vg ⟨_, rfl, rfl⟩ (Yv.gt rfl rfl) ?_
                refine Ops.dec (fun h20 => ?_) (fun h20 => ?_)
                · -- yes
                  refine Ops.v (Yv.pick0 rfl rfl) ?_
                  refine Ops.v (Yv.move rfl) ?_
                  refine Ops.skip ⟨_, rfl, rfl⟩ ?_
                  refine Ops.skip ⟨_, rfl, rfl⟩ ?_
                  refine Ops.skip ⟨_, rfl, rfl⟩ ?_
                  refine Ops.v (Yv.pick1 rfl rfl) ?_
                  refine Ops.v (Yv.move rfl) ?_
                  refine Ops.skip ⟨_, rfl, rfl⟩ ?_
                  refine Ops.skip ⟨_, rfl, rfl⟩ ?_
                  refine Ops.skip ⟨_, rfl, rfl⟩ ?_
                  refine Ops.v (Yv.pick1 rfl rfl) ?_
                  refine Ops.v (Yv.move rfl) ?_
                  refine Ops.skip ⟨_, rfl, rfl⟩ ?_
                  refine Ops.skip ⟨_, rfl, rfl⟩ ?_
                  refine Ops.skip ⟨_, rfl, rfl⟩ ?_
                  refine Ops.skip ⟨_, rfl, rfl⟩ ?_
                  refine Ops.v (Yv.pick1 rfl rfl) ?_
                  refine Ops.v (Yv.move rfl) ?_
                  refine Ops.skip ⟨_, rfl, rfl⟩ ?_
                  refine Ops.skip ⟨_, rfl, rfl⟩ ?_
                  refine Ops.skip ⟨_, rfl, rfl⟩ ?_
                  refine Ops.skip ⟨_, rfl, rfl⟩ ?_
                  refine Ops.v (Yv.pick1 rfl rfl) ?_
                  refine Ops.nil ?_
                  refine ⟨hs13, Sub.le ⟨rfl, rfl, rfl, rfl, rfl, rfl, rfl, rfl, rfl, rfl, lookB rfl (by first | (simp only [h14, h15, h16, h17, h18, h19, h20, ne_eq, not_true_eq_false, not_false_eq_true, or_true, true_or, or_false, false_or, and_true, true_and, and_false, false_and, decide_true, decide_false, or_self, and_self, Bool.decide_eq_true]; done) | simp [h14, h15, h16, h17, h18, h19, h20]), trivial⟩⟩
                · -- no
                  refine Ops.v (Yv.pick0 rfl rfl) ?_
                  refine Ops.v (Yv.move rfl) ?_
                  refine Ops.vg ⟨_, rfl, rfl⟩ (Yv.fld F29_3 rfl) ?_
                  refine Ops.vg ⟨_, rfl, rfl⟩ (Yv.load A3 rfl (now (hs13.cell 1 rfl 3 rfl))) ?_
                  refine Ops.vg ⟨_, rfl, rfl⟩ (Yv.lt rfl rfl) ?_
                  refine Ops.dec (fun h21 => ?_) (fun h21 => ?_)
                  · -- yes
                    refine Ops.v (Yv.pick0 rfl rfl) ?_
                    refine Ops.v (Yv.move rfl) ?_
                    refine Ops.skip ⟨_, rfl, rfl⟩ ?_
                    refine Ops.skip ⟨_, rfl, rfl⟩ ?_
                    refine Ops.skip ⟨_, rfl, rfl⟩ ?_
                    refine Ops.v (Yv.pick1 rfl rfl) ?_
                    refine Ops.v (Yv.move rfl) ?_
                    refine Ops.skip ⟨_, rfl, rfl⟩ ?_
                    refine Ops.skip ⟨_, rfl, rfl⟩ ?_
                    refine Ops.skip ⟨_, rfl, rfl⟩ ?_
                    refine Ops.skip ⟨_, rfl, rfl⟩ ?_
                    refine Ops.v (Yv.pick1 rfl rfl) ?_
                    refine Ops.v (Yv.move rfl) ?_
                    refine Ops.skip ⟨_, rfl, rfl⟩ ?_
                    refine Ops.skip ⟨_, rfl, rfl⟩ ?_
                    refine Ops.skip ⟨_, rfl, rfl⟩ ?_
                    refine Ops.skip ⟨_, rfl, rfl⟩ ?_
                    refine Ops.v (Yv.pick1 rfl rfl) ?_
                    refine Ops.nil ?_
                    refine ⟨hs13, Sub.le ⟨rfl, rfl, rfl, rfl, rfl, rfl, rfl, rfl, rfl, rfl, lookB rfl (by first | (simp only [h14, h15, h16, h17, h18, h19, h20, h21, ne_eq, not_true_eq_false, not_false_eq_true, or_true, true_or, or_false, false_or, and_true, true_and, and_false, false_and, decide_true, decide_false, or_self, and_self, Bool.decide_eq_true]; done) | simp [h14, h15, h16, h17, h18, h19, h20, h21]), trivial⟩⟩
                  · -- no
                    refine Ops.v (Yv.pick0 rfl rfl) ?_
                    refine Ops.v (Yv.move rfl) ?_
                    refine Ops.vg ⟨_, rfl, rfl⟩ (Yv.fld F29_3 rfl) ?_
                    refine Ops.vg ⟨_, rfl, rfl⟩ (Yv.load A3 rfl (now (hs13.cell 1 rfl 3 rfl))) ?_
                    refine Ops.vg ⟨_, rfl, rfl⟩ (Yv.gt rfl rfl) ?_
                    refine Ops.dec (fun h22 => ?_) (fun h22 => ?_)
                    · -- yes
                      refine Ops.v (Yv.pick0 rfl rfl) ?_
                      refine Ops.v (Yv.move rfl) ?_
                      refine Ops.skip ⟨_, rfl, rfl⟩ ?_
                      refine Ops.skip ⟨_, rfl, rfl⟩ ?_
                      refine Ops.skip ⟨_, rfl, rfl⟩ ?_
                      refine Ops.skip ⟨_, rfl, rfl⟩ ?_
                      refine Ops.v (Yv.pick1 rfl rfl) ?_
                      refine Ops.v (Yv.move rfl) ?_
                      refine Ops.skip ⟨_, rfl, rfl⟩ ?_
                      refine Ops.skip ⟨_, rfl, rfl⟩ ?_
                      refine Ops.skip ⟨_, rfl, rfl⟩ ?_
                      refine Ops.skip ⟨_, rfl, rfl⟩ ?_
                      refine Ops.v (Yv.pick1 rfl rfl) ?_
                      refine Ops.nil ?_
                      refine ⟨hs13, Sub.le ⟨rfl, rfl, rfl, rfl, rfl, rfl, rfl, rfl, rfl, rfl, lookB rfl (by first | (simp only [h14, h15, h16, h17, h18, h19, h20, h21, h22, ne_eq, not_true_eq_false, not_false_eq_true, or_true, true_or, or_false, false_or, and_true, true_and, and_false, false_and, decide_true, decide_false, or_self, and_self, Bool.decide_eq_true]; done) | simp [h14, h15, h16, h17, h18, h19, h20, h21, h22]), trivial⟩⟩
                    · -- no
                      refine Ops.v (Yv.pick0 rfl rfl) ?_
                      refine Ops.v (Yv.move rfl) ?_
                      refine Ops.vg ⟨_, rfl, rfl⟩ (Yv.fld F31_0 rfl) ?_
                      refine Ops.vg ⟨_, rfl, rfl⟩ (Yv.load A3 rfl (now (hs13.cell 0 rfl 0 rfl))) ?_
                      refine Ops.s (Step.call rfl rfl (part_fun) (?_) ⟨_, rfl, rfl⟩ (by rfl))
                      rintro _ _ ⟨rfl, rfl⟩
                      refine Ops.dec (fun h24 => ?_) (fun h24 => ?_)
                      · -- yes
                        refine Ops.vg ⟨_, rfl, rfl⟩ (Yv.not rfl) ?_
                        refine Ops.v (Yv.pick0 rfl rfl) ?_
                        refine Ops.v (Yv.move rfl) ?_
                        refine Ops.vg ⟨_, rfl, rfl⟩ (Yv.fld F31_1 rfl) ?_
                        refine Ops.vg ⟨_, rfl, rfl⟩ (Yv.load A3 rfl (now (hs13.cell 0 rfl 1 rfl))) ?_
                        refine Ops.s (Step.call rfl rfl (part_fun) (?_) ⟨_, rfl, rfl⟩ (by rfl))
                        rintro _ _ ⟨rfl, rfl⟩
                        refine Ops.vg ⟨_, rfl, rfl⟩ (Yv.notp rfl) ?_
                        refine Ops.v (Yv.pick0 rfl rfl) ?_
                        refine Ops.nil ?_
                        refine ⟨hs13, Sub.le ⟨rfl, rfl, rfl, rfl, rfl, rfl, rfl, rfl, rfl, rfl, lookB rfl (by first | (simp only [h14, h15, h16, h17, h18, h19, h20, h21, h22, h24, ne_eq, not_true_eq_false, not_false_eq_true, or_true, true_or, or_false, false_or, and_true, true_and, and_false, false_and, decide_true, decide_false, or_self, and_self, Bool.decide_eq_true]; done) | simp [h14, h15, h16, h17, h18, h19, h20, h21, h22, h24]), trivial⟩⟩
                      · -- no
                        refine Ops.vg ⟨_, rfl, rfl⟩ (Yv.not rfl) ?_
                        refine Ops.v (Yv.pick0 rfl rfl) ?_
                        refine Ops.v (Yv.move rfl) ?_
                        refine Ops.skip ⟨_, rfl, rfl⟩ ?_
                        refine Ops.skip ⟨_, rfl, rfl⟩ ?_
                        refine Ops.skip ⟨_, rfl, rfl⟩ ?_
                        refine Ops.skip ⟨_, rfl, rfl⟩ ?_
                        refine Ops.v (Yv.pick1 rfl rfl) ?_
                        refine Ops.nil ?_
                        refine ⟨hs13, Sub.le ⟨rfl, rfl, rfl, rfl, rfl, rfl, rfl, rfl, rfl, rfl, lookB rfl (by first | (simp only [h14, h15, h16, h17, h18, h19, h20, h21, h22, h24, ne_eq, not_true_eq_false, not_false_eq_true, or_true, true_or, or_false, false_or, and_true, true_and, and_false, false_and, decide_true, decide_false, or_self, and_self, Bool.decide_eq_true]; done) | simp [h14, h15, h16, h17, h18, h19, h20, h21, h22, h24]), trivial⟩⟩
  rintro e26 w26 ⟨hs26, he26⟩
  refine k12 _ _ ?_
  refine Run.le he26 ?_
  refine run_ifp rfl (fun h27 => ?_) (fun h27 => ?_)
  · -- yes (((((((((((wholeF W0 H0 m0 W1 H1 m1 W2 H2 m2) ≠ (0 : Int)) ∨ (X < (0 : Int))) ∨ ((1024 : Int) < X)) ∨ (Y < (0 : Int))) ∨ ((1024 : Int) < Y)) ∨ (bw < (4 : Int))) ∨ ((64 : Int) < bw)) ∨ (bh < (4 : Int))) ∨ ((64 : Int) < bh)) ∨ (¬ (-4095 ≤ vx ∧ vx ≤ 4095))) ∨ (¬ (-4095 ≤ vy ∧ vy ≤ 4095))
    refine run_seq fun K28 k28 => ?_
    refine run_region ?_
    refine Ops.v (Yv.assign rfl) ?_
    refine Ops.v (Yv.assign rfl) ?_
    refine Ops.nil ?_
    refine k28 _ _ ?_
    refine run_ret ?_
    refine ⟨[.slice none 0 0, .int .i64 2], ⟨_, _, rfl, rfl, ⟨_, _, rfl, rfl, rfl⟩⟩, ?_⟩
    obtain ⟨e1, e2⟩ := single_bad (W0 := W0) (H0 := H0) (m0 := m0) (W1 := W1) (H1 := H1) (m1 := m1) (W2 := W2) (H2 := H2) (m2 := m2) (xs0 := xs0) (xs1 := xs1) (xs2 := xs2) (n := 0) (X := X) (Y := Y) (bw := bw) (bh := bh) (vx := vx) (vy := vy) (kd := kd) (by unfold singleOk; omega)
    rw [e1, e2]
    exact ⟨none, 0, rfl, (hs26.pick [] [] (by decide) rfl).nilRow 5 1⟩
  · -- no
    refine run_skip ?_
    refine k11 _ _ ?_
    refine run_seq fun K29 k29 => ?_
    refine run_region ?_
    refine Ops.v (Yv.assign rfl) ?_
    refine Ops.nil ?_
    refine k29 _ _ ?_
    refine run_seq fun K30 k30 => ?_
    refine run_seq fun K31 k31 => ?_
    refine run_region ?_
    refine Ops.v (Yv.move rfl) ?_
    refine Ops.v ((Yv.eq rfl rfl).to (v := .bool true) (by rfl)) ?_
    refine Ops.nil ?_
    refine k31 _ _ ?_
    refine run_if1 rfl ?_
    refine run_region ?_
    refine Ops.v (Yv.assign rfl) ?_
    refine Ops.nil ?_
    refine k30 _ _ ?_
    refine run_seq fun K32 k32 => ?_
    refine run_drawn [] (fun x => Below (w26.drew).heap.size (w26.drew) x) ?_ Tf.mixed (by kernel_rfl) (fun _ _ _ h => h)
    have hs33 := hs26.drew
    have hS34 := Below.refl (w26.drew).heap.size (w26.drew)
    refine Drw.a 0 rfl (by kernel_rfl) (Yv.move rfl) ?_
    refine Drw.a 1 rfl (by kernel_rfl) (Yv.fld F27_0 rfl) ?_
    refine Drw.a 2 rfl (by kernel_rfl) (Yv.idxa R25 rfl rfl (by decide) (by decide)) ?_
    refine Drw.l 3 rfl (by kernel_rfl) hS34 (Yv.loadn (cs := [.int .i64 W0, .int .i64 H0, .slice A0 m0 c0]) A24 S24 rfl (fun _ hq_ => ((hs33.grow hq_).cells 2 rfl 0 3))) ?_
    refine Drw.a 4 rfl (by kernel_rfl) (Yv.fld F29_0 rfl) ?_
    refine Drw.l 5 rfl (by kernel_rfl) hS34 (Yv.load A3 rfl (fun _ hq_ => ((hs33.grow hq_).cell 1 rfl 0 rfl))) ?_
    refine Drw.a 6 rfl (by kernel_rfl) (Yv.mul rfl rfl (by omega)) ?_
    refine Drw.a 7 rfl (by kernel_rfl) (Yv.move rfl) ?_
    refine Drw.a 8 rfl (by kernel_rfl) (Yv.fld F31_0 rfl) ?_
    refine Drw.l 9 rfl (by kernel_rfl) hS34 (Yv.load A3 rfl (fun _ hq_ => ((hs33.grow hq_).cell 0 rfl 0 rfl))) ?_
    refine Drw.a 10 rfl (by kernel_rfl) (Yv.mul rfl rfl (by omega)) ?_
    refine Drw.a 11 rfl (by kernel_rfl) (Yv.add rfl rfl (by omega)) ?_
    refine Drw.a 12 rfl (by kernel_rfl) (Yv.fld F29_1 rfl) ?_
    refine Drw.l 13 rfl (by kernel_rfl) hS34 (Yv.load A3 rfl (fun _ hq_ => ((hs33.grow hq_).cell 1 rfl 1 rfl))) ?_
    refine Drw.a 14 rfl (by kernel_rfl) (Yv.mul rfl rfl (by omega)) ?_
    refine Drw.a 15 rfl (by kernel_rfl) (Yv.move rfl) ?_
    refine Drw.a 16 rfl (by kernel_rfl) (Yv.fld F31_1 rfl) ?_
    refine Drw.l 17 rfl (by kernel_rfl) hS34 (Yv.load A3 rfl (fun _ hq_ => ((hs33.grow hq_).cell 0 rfl 1 rfl))) ?_
    refine Drw.a 18 rfl (by kernel_rfl) (Yv.mul rfl rfl (by omega)) ?_
    refine Drw.a 19 rfl (by kernel_rfl) (Yv.add rfl rfl (by omega)) ?_
    refine Drw.a 20 rfl (by kernel_rfl) (Yv.fld F29_2 rfl) ?_
    refine Drw.l 21 rfl (by kernel_rfl) hS34 (Yv.load A3 rfl (fun _ hq_ => ((hs33.grow hq_).cell 1 rfl 2 rfl))) ?_
    refine Drw.a 22 rfl (by kernel_rfl) (Yv.fld F29_3 rfl) ?_
    refine Drw.l 23 rfl (by kernel_rfl) hS34 (Yv.load A3 rfl (fun _ hq_ => ((hs33.grow hq_).cell 1 rfl 3 rfl))) ?_
    refine Drw.a 24 rfl (by kernel_rfl) (Yv.move rfl) ?_
    refine Drw.one 25 rfl (by kernel_rfl) (Step.call rfl rfl (rfetch_fun (hs33.rd hr0) hx0 (by omega)) (?_) True.intro (by rfl))
    rintro _ w38 ⟨Ad35, c36, rfl, hs38⟩
    have hS39 := HS.keepS hS34 (Nat.le_refl _) hs38
    refine ⟨fun _ _ => hS39, ?_⟩
    replace hs38 := hs33.call hs38
    refine Drw.a 26 rfl (by kernel_rfl) (Yv.extract rfl rfl) ?_
    refine Drw.a 27 rfl (by kernel_rfl) (Yv.extract rfl rfl) ?_
    refine Drw.a 28 rfl (by kernel_rfl) (Yv.assign rfl) ?_
    refine Drw.a 29 rfl (by kernel_rfl) (Yv.assign rfl) ?_
    refine Drw.done ?_ (by kernel_rfl)
    refine k32 _ _ ?_
    refine run_ret ?_
    refine ⟨[.slice Ad35 ((fetchOut xs0 W0 H0 m0 (((16 : Int) * X) + ((2 : Int) * vx)) (((16 : Int) * Y) + ((2 : Int) * vy)) bw bh kd).length) c36, .int .i64 (fetchE W0 H0 m0 (((16 : Int) * X) + ((2 : Int) * vx)) (((16 : Int) * Y) + ((2 : Int) * vy)) bw bh kd)], ⟨_, _, rfl, rfl, ⟨_, _, rfl, rfl, rfl⟩⟩, ?_⟩
    obtain ⟨e1, e2⟩ := single_ok (W0 := W0) (H0 := H0) (m0 := m0) (W1 := W1) (H1 := H1) (m1 := m1) (W2 := W2) (H2 := H2) (m2 := m2) (xs0 := xs0) (xs1 := xs1) (xs2 := xs2) (n := 0) (X := X) (Y := Y) (bw := bw) (bh := bh) (vx := vx) (vy := vy) (kd := kd) (by unfold singleOk; omega)
    rw [e1, e2]
    have hz := hs38.pick [0] [.row Ad35 ((fetchOut xs0 W0 H0 m0 (((16 : Int) * X) + ((2 : Int) * vx)) (((16 : Int) * Y) + ((2 : Int) * vy)) bw bh kd).length) c36 (u8s (fetchOut xs0 W0 H0 m0 (((16 : Int) * X) + ((2 : Int) * vx)) (((16 : Int) * Y) + ((2 : Int) * vy)) bw bh kd)) 5 1] (by decide) rfl
    exact ⟨Ad35, c36, (by rfl), hz.to (by rfl)⟩

set_option maxHeartbeats 2000000 in
theorem rsingle_1 {w : World} {W0 H0 W1 H1 W2 H2 : Int} {A0 A1 A2 : Option Addr} {m0 m1 m2 c0 c1 c2 : Nat} {xs0 xs1 xs2 : List Int} (hr0 : Rd w A0 m0 1 (u8s xs0)) (hx0 : Bytes xs0) (hr1 : Rd w A1 m1 1 (u8s xs1)) (hx1 : Bytes xs1) (hr2 : Rd w A2 m2 1 (u8s xs2)) (hx2 : Bytes xs2) (hc0 : m0 ≤ c0) (hc1 : m1 ≤ c1) (hc2 : m2 ≤ c2) {X Y bw bh vx vy kd : Int} : Fun Try.prog 13 [.agg #[.int .i64 W0, .int .i64 H0, .slice A0 m0 c0, .int .i64 W1, .int .i64 H1, .slice A1 m1 c1, .int .i64 W2, .int .i64 H2, .slice A2 m2 c2], .int .i64 1, .agg #[.int .i64 X, .int .i64 Y, .int .i64 bw, .int .i64 bh], .agg #[.int .i64 vx, .int .i64 vy], .int .i64 kd] w fun v w' => ∃ A' c', v = .tuple #[.slice A' (singleOut W0 H0 m0 W1 H1 m1 W2 H2 m2 xs0 xs1 xs2 1 X Y bw bh vx vy kd).length c', .int .i64 (singleE W0 H0 m0 W1 H1 m1 W2 H2 m2 1 X Y bw bh vx vy kd)] ∧ HS w [.row A' (singleOut W0 H0 m0 W1 H1 m1 W2 H2 m2 xs0 xs1 xs2 1 X Y bw bh vx vy kd).length c' (u8s (singleOut W0 H0 m0 W1 H1 m1 W2 H2 m2 xs0 xs1 xs2 1 X Y bw bh vx vy kd)) 5 1] w' := by
  refine fun_run (m := 106) (rs := [.tmp 10, .tmp 11]) Try.func13 rfl rfl rfl rfl rfl ?_
  have hs0 := HS.start w
  have hbig0 := hr0.big
  have hlen_xs0 : xs0.length = m0 := by have := hr0.len; rw [u8s_length] at this; omega
  have hbig1 := hr1.big
  have hlen_xs1 : xs1.length = m1 := by have := hr1.len; rw [u8s_length] at this; omega
  have hbig2 := hr2.big
  have hlen_xs2 : xs2.length = m2 := by have := hr2.len; rw [u8s_length] at this; omega
  refine run_seq fun K1 k1 => ?_
  refine run_region ?_
  refine Ops.s (Step.box (cs := [.int .i64 W0, .int .i64 H0, .slice A0 m0 c0, .int .i64 W1, .int .i64 H1, .slice A1 m1 c1, .int .i64 W2, .int .i64 H2, .slice A2 m2 c2]) hs0 rfl rfl (fun b2 w3 hs3 hb3 => ?_) True.intro (by rfl))
  refine Ops.s (Step.box (cs := [.int .i64 X, .int .i64 Y, .int .i64 bw, .int .i64 bh]) hs3 rfl rfl (fun b5 w6 hs6 hb6 => ?_) True.intro (by rfl))
  refine Ops.s (Step.box (cs := [.int .i64 vx, .int .i64 vy]) hs6 rfl rfl (fun b8 w9 hs9 hb9 => ?_) True.intro (by rfl))
  refine Ops.v (Yv.assign rfl) ?_
  refine Ops.v (Yv.assign rfl) ?_
  refine Ops.nil ?_
  refine k1 _ _ ?_
  refine run_seq fun K11 k11 => ?_
  refine run_seq fun K12 k12 => ?_
  refine Run.cut (fun e_ w_ => HS w [.blk b8 [.int .i64 vx, .int .i64 vy] 31, .blk b5 [.int .i64 X, .int .i64 Y, .int .i64 bw, .int .i64 bh] 29, .blk b2 [.int .i64 W0, .int .i64 H0, .slice A0 m0 c0, .int .i64 W1, .int .i64 H1, .slice A1 m1 c1, .int .i64 W2, .int .i64 H2, .slice A2 m2 c2] 27] w_ ∧ Le [(0, .agg #[.int .i64 W0, .int .i64 H0, .slice A0 m0 c0, .int .i64 W1, .int .i64 H1, .slice A1 m1 c1, .int .i64 W2, .int .i64 H2, .slice A2 m2 c2]), (1, .int .i64 1), (2, .agg #[.int .i64 X, .int .i64 Y, .int .i64 bw, .int .i64 bh]), (3, .agg #[.int .i64 vx, .int .i64 vy]), (4, .int .i64 kd), (5, .pointer (some ⟨b2, 0, none⟩)), (7, .pointer (some ⟨b5, 0, none⟩)), (8, .pointer (some ⟨b8, 0, none⟩)), (10, .slice none 0 0), (11, .int .i64 0), (75, .bool (decide ((((((((((((wholeF W0 H0 m0 W1 H1 m1 W2 H2 m2) ≠ (0 : Int)) ∨ (X < (0 : Int))) ∨ ((1024 : Int) < X)) ∨ (Y < (0 : Int))) ∨ ((1024 : Int) < Y)) ∨ (bw < (4 : Int))) ∨ ((64 : Int) < bw)) ∨ (bh < (4 : Int))) ∨ ((64 : Int) < bh)) ∨ (¬ (-4095 ≤ vx ∧ vx ≤ 4095))) ∨ (¬ (-4095 ≤ vy ∧ vy ≤ 4095)))))] e_) ?_ ?_
  · -- region 1: its ways meet again
    refine run_region' _ rfl ?_
    refine Ops.v (Yv.loadn (cs := [.int .i64 W0, .int .i64 H0, .slice A0 m0 c0, .int .i64 W1, .int .i64 H1, .slice A1 m1 c1, .int .i64 W2, .int .i64 H2, .slice A2 m2 c2]) A27 S27 rfl (now (hs9.cells 2 rfl 0 9))) ?_
    refine Ops.s (Step.call rfl rfl (rwhole_fun) (?_) True.intro (by rfl))
    rintro _ w13 ⟨rfl, hs13⟩
    replace hs13 := hs9.call hs13
    refine Ops.v (Yv.ne rfl rfl) ?_
    refine Ops.dec (fun h14 => ?_) (fun h14 => ?_)
    · -- yes
      refine Ops.v (Yv.move rfl) ?_
      refine Ops.skip ⟨_, rfl, rfl⟩ ?_
      refine Ops.skip ⟨_, rfl, rfl⟩ ?_
      refine Ops.v (Yv.pick1 rfl rfl) ?_
      refine Ops.v (Yv.move rfl) ?_
      refine Ops.skip ⟨_, rfl, rfl⟩ ?_
      refine Ops.skip ⟨_, rfl, rfl⟩ ?_
      refine Ops.v (Yv.pick1 rfl rfl) ?_
      refine Ops.v (Yv.move rfl) ?_
      refine Ops.skip ⟨_, rfl, rfl⟩ ?_
      refine Ops.skip ⟨_, rfl, rfl⟩ ?_
      refine Ops.skip ⟨_, rfl, rfl⟩ ?_
      refine Ops.v (Yv.pick1 rfl rfl) ?_
      refine Ops.v (Yv.move rfl) ?_
      refine Ops.skip ⟨_, rfl, rfl⟩ ?_
      refine Ops.skip ⟨_, rfl, rfl⟩ ?_
      refine Ops.skip ⟨_, rfl, rfl⟩ ?_
      refine Ops.v (Yv.pick1 rfl rfl) ?_
      refine Ops.v (Yv.move rfl) ?_
      refine Ops.skip ⟨_, rfl, rfl⟩ ?_
      refine Ops.skip ⟨_, rfl, rfl⟩ ?_
      refine Ops.skip ⟨_, rfl, rfl⟩ ?_
      refine Ops.v (Yv.pick1 rfl rfl) ?_
      refine Ops.v (Yv.move rfl) ?_
      refine Ops.skip ⟨_, rfl, rfl⟩ ?_
      refine Ops.skip ⟨_, rfl, rfl⟩ ?_
      refine Ops.skip ⟨_, rfl, rfl⟩ ?_
      refine Ops.v (Yv.pick1 rfl rfl) ?_
      refine Ops.v (Yv.move rfl) ?_
      refine Ops.skip ⟨_, rfl, rfl⟩ ?_
      refine Ops.skip ⟨_, rfl, rfl⟩ ?_
      refine Ops.skip ⟨_, rfl, rfl⟩ ?_
      refine Ops.v (Yv.pick1 rfl rfl) ?_
      refine Ops.v (Yv.move rfl) ?_
      refine Ops.skip ⟨_, rfl, rfl⟩ ?_
      refine Ops.skip ⟨_, rfl, rfl⟩ ?_
      refine Ops.skip ⟨_, rfl, rfl⟩ ?_
      refine Ops.v (Yv.pick1 rfl rfl) ?_
      refine Ops.v (Yv.move rfl) ?_
      refine Ops.skip ⟨_, rfl, rfl⟩ ?_
      refine Ops.skip ⟨_, rfl, rfl⟩ ?_
      refine Ops.skip ⟨_, rfl, rfl⟩ ?_
      refine Ops.v (Yv.pick1 rfl rfl) ?_
      refine Ops.v (Yv.move rfl) ?_
      refine Ops.skip ⟨_, rfl, rfl⟩ ?_
      refine Ops.skip ⟨_, rfl, rfl⟩ ?_
      refine Ops.skip ⟨_, rfl, rfl⟩ ?_
      refine Ops.v (Yv.pick1 rfl rfl) ?_
      refine Ops.v (Yv.move rfl) ?_
      refine Ops.skip ⟨_, rfl, rfl⟩ ?_
      refine Ops.skip ⟨_, rfl, rfl⟩ ?_
      refine Ops.skip ⟨_, rfl, rfl⟩ ?_
      refine Ops.skip ⟨_, rfl, rfl⟩ ?_
      refine Ops.v (Yv.pick1 rfl rfl) ?_
      refine Ops.v (Yv.move rfl) ?_
      refine Ops.skip ⟨_, rfl, rfl⟩ ?_
      refine Ops.skip ⟨_, rfl, rfl⟩ ?_
      refine Ops.skip ⟨_, rfl, rfl⟩ ?_
      refine Ops.skip ⟨_, rfl, rfl⟩ ?_
      refine Ops.v (Yv.pick1 rfl rfl) ?_
      refine Ops.nil ?_
      refine ⟨hs13, Sub.le ⟨rfl, rfl, rfl, rfl, rfl, rfl, rfl, rfl, rfl, rfl, lookB rfl (by first | (simp only [h14, ne_eq, not_true_eq_false, not_false_eq_true, or_true, true_or, or_false, false_or, and_true, true_and, and_false, false_and, decide_true, decide_false, or_self, and_self, Bool.decide_eq_true]; done) | simp [h14]), trivial⟩⟩
    · -- no
      refine Ops.v (Yv.move rfl) ?_
      refine Ops.vg ⟨_, rfl, rfl⟩ (Yv.move rfl) ?_
      refine Ops.vg ⟨_, rfl, rfl⟩ ((Yv.lt rfl rfl).to (v := .bool false) (by rfl)) ?_
      refine Ops.v (Yv.pick0 rfl rfl) ?_
      refine Ops.v (Yv.move rfl) ?_
      refine Ops.vg ⟨_, rfl, rfl⟩ (Yv.move rfl) ?_
      refine Ops.vg ⟨_, rfl, rfl⟩ ((Yv.gt rfl rfl).to (v := .bool false) (by rfl)) ?_
      refine Ops.v (Yv.pick0 rfl rfl) ?_
      refine Ops.v (Yv.move rfl) ?_
      refine Ops.vg ⟨_, rfl, rfl⟩ (Yv.fld F29_0 rfl) ?_
      refine Ops.vg ⟨_, rfl, rfl⟩ (Yv.load A3 rfl (now (hs13.cell 1 rfl 0 rfl))) ?_
      refine Ops.vg ⟨_, rfl, rfl⟩ (Yv.lt rfl rfl) ?_
      refine Ops.dec (fun h15 => ?_) (fun h15 => ?_)
      · -- yes
        refine Ops.v (Yv.pick0 rfl rfl) ?_
        refine Ops.v (Yv.move rfl) ?_
        refine Ops.skip ⟨_, rfl, rfl⟩ ?_
        refine Ops.skip ⟨_, rfl, rfl⟩ ?_
        refine Ops.skip ⟨_, rfl, rfl⟩ ?_
        refine Ops.v (Yv.pick1 rfl rfl) ?_
        refine Ops.v (Yv.move rfl) ?_
        refine Ops.skip ⟨_, rfl, rfl⟩ ?_
        refine Ops.skip ⟨_, rfl, rfl⟩ ?_
        refine Ops.skip ⟨_, rfl, rfl⟩ ?_
        refine Ops.v (Yv.pick1 rfl rfl) ?_
        refine Ops.v (Yv.move rfl) ?_
        refine Ops.skip ⟨_, rfl, rfl⟩ ?_
        refine Ops.skip ⟨_, rfl, rfl⟩ ?_
        refine Ops.skip ⟨_, rfl, rfl⟩ ?_
        refine Ops.v (Yv.pick1 rfl rfl) ?_
        refine Ops.v (Yv.move rfl) ?_
        refine Ops.skip ⟨_, rfl, rfl⟩ ?_
        refine Ops.skip ⟨_, rfl, rfl⟩ ?_
        refine Ops.skip ⟨_, rfl, rfl⟩ ?_
        refine Ops.v (Yv.pick1 rfl rfl) ?_
        refine Ops.v (Yv.move rfl) ?_
        refine Ops.skip ⟨_, rfl, rfl⟩ ?_
        refine Ops.skip ⟨_, rfl, rfl⟩ ?_
        refine Ops.skip ⟨_, rfl, rfl⟩ ?_
        refine Ops.v (Yv.pick1 rfl rfl) ?_
        refine Ops.v (Yv.move rfl) ?_
        refine Ops.skip ⟨_, rfl, rfl⟩ ?_
        refine Ops.skip ⟨_, rfl, rfl⟩ ?_
        refine Ops.skip ⟨_, rfl, rfl⟩ ?_
        refine Ops.v (Yv.pick1 rfl rfl) ?_
        refine Ops.v (Yv.move rfl) ?_
        refine Ops.skip ⟨_, rfl, rfl⟩ ?_
        refine Ops.skip ⟨_, rfl, rfl⟩ ?_
        refine Ops.skip ⟨_, rfl, rfl⟩ ?_
        refine Ops.v (Yv.pick1 rfl rfl) ?_
        refine Ops.v (Yv.move rfl) ?_
        refine Ops.skip ⟨_, rfl, rfl⟩ ?_
        refine Ops.skip ⟨_, rfl, rfl⟩ ?_
        refine Ops.skip ⟨_, rfl, rfl⟩ ?_
        refine Ops.skip ⟨_, rfl, rfl⟩ ?_
        refine Ops.v (Yv.pick1 rfl rfl) ?_
        refine Ops.v (Yv.move rfl) ?_
        refine Ops.skip ⟨_, rfl, rfl⟩ ?_
        refine Ops.skip ⟨_, rfl, rfl⟩ ?_
        refine Ops.skip ⟨_, rfl, rfl⟩ ?_
        refine Ops.skip ⟨_, rfl, rfl⟩ ?_
        refine Ops.v (Yv.pick1 rfl rfl) ?_
        refine Ops.nil ?_
        refine ⟨hs13, Sub.le ⟨rfl, rfl, rfl, rfl, rfl, rfl, rfl, rfl, rfl, rfl, lookB rfl (by first | (simp only [h14, h15, ne_eq, not_true_eq_false, not_false_eq_true, or_true, true_or, or_false, false_or, and_true, true_and, and_false, false_and, decide_true, decide_false, or_self, and_self, Bool.decide_eq_true]; done) | simp [h14, h15]), trivial⟩⟩
      · -- no
        refine Ops.v (Yv.pick0 rfl rfl) ?_
        refine Ops.v (Yv.move rfl) ?_
        refine Ops.vg ⟨_, rfl, rfl⟩ (Yv.fld F29_0 rfl) ?_
        refine Ops.vg ⟨_, rfl, rfl⟩ (Yv.load A3 rfl (now (hs13.cell 1 rfl 0 rfl))) ?_
        refine Ops.vg ⟨_, rfl, rfl⟩ (Yv.gt rfl rfl) ?_
        refine Ops.dec (fun h16 => ?_) (fun h16 => ?_)
        · -- yes
          refine Ops.v (Yv.pick0 rfl rfl) ?_
          refine Ops.v (Yv.move rfl) ?_
          refine Ops.skip ⟨_, rfl, rfl⟩ ?_
          refine Ops.skip ⟨_, rfl, rfl⟩ ?_
          refine Ops.skip ⟨_, rfl, rfl⟩ ?_
          refine Ops.v (Yv.pick1 rfl rfl) ?_
          refine Ops.v (Yv.move rfl) ?_
          refine Ops.skip ⟨_, rfl, rfl⟩ ?_
          refine Ops.skip ⟨_, rfl, rfl⟩ ?_
          refine Ops.skip ⟨_, rfl, rfl⟩ ?_
          refine Ops.v (Yv.pick1 rfl rfl) ?_
          refine Ops.v (Yv.move rfl) ?_
          refine Ops.skip ⟨_, rfl, rfl⟩ ?_
          refine Ops.skip ⟨_, rfl, rfl⟩ ?_
          refine Ops.skip ⟨_, rfl, rfl⟩ ?_
          refine Ops.v (Yv.pick1 rfl rfl) ?_
          refine Ops.v (Yv.move rfl) ?_
          refine Ops.skip ⟨_, rfl, rfl⟩ ?_
          refine Ops.skip ⟨_, rfl, rfl⟩ ?_
          refine Ops.skip ⟨_, rfl, rfl⟩ ?_
          refine Ops.v (Yv.pick1 rfl rfl) ?_
          refine Ops.v (Yv.move rfl) ?_
          refine Ops.skip ⟨_, rfl, rfl⟩ ?_
          refine Ops.skip ⟨_, rfl, rfl⟩ ?_
          refine Ops.skip ⟨_, rfl, rfl⟩ ?_
          refine Ops.v (Yv.pick1 rfl rfl) ?_
          refine Ops.v (Yv.move rfl) ?_
          refine Ops.skip ⟨_, rfl, rfl⟩ ?_
          refine Ops.skip ⟨_, rfl, rfl⟩ ?_
          refine Ops.skip ⟨_, rfl, rfl⟩ ?_
          refine Ops.v (Yv.pick1 rfl rfl) ?_
          refine Ops.v (Yv.move rfl) ?_
          refine Ops.skip ⟨_, rfl, rfl⟩ ?_
          refine Ops.skip ⟨_, rfl, rfl⟩ ?_
          refine Ops.skip ⟨_, rfl, rfl⟩ ?_
          refine Ops.skip ⟨_, rfl, rfl⟩ ?_
          refine Ops.v (Yv.pick1 rfl rfl) ?_
          refine Ops.v (Yv.move rfl) ?_
          refine Ops.skip ⟨_, rfl, rfl⟩ ?_
          refine Ops.skip ⟨_, rfl, rfl⟩ ?_
          refine Ops.skip ⟨_, rfl, rfl⟩ ?_
          refine Ops.skip ⟨_, rfl, rfl⟩ ?_
          refine Ops.v (Yv.pick1 rfl rfl) ?_
          refine Ops.nil ?_
          refine ⟨hs13, Sub.le ⟨rfl, rfl, rfl, rfl, rfl, rfl, rfl, rfl, rfl, rfl, lookB rfl (by first | (simp only [h14, h15, h16, ne_eq, not_true_eq_false, not_false_eq_true, or_true, true_or, or_false, false_or, and_true, true_and, and_false, false_and, decide_true, decide_false, or_self, and_self, Bool.decide_eq_true]; done) | simp [h14, h15, h16]), trivial⟩⟩
        · -- no
          refine Ops.v (Yv.pick0 rfl rfl) ?_
          refine Ops.v (Yv.move rfl) ?_
          refine Ops.vg ⟨_, rfl, rfl⟩ (Yv.fld F29_1 rfl) ?_
          refine Ops.vg ⟨_, rfl, rfl⟩ (Yv.load A3 rfl (now (hs13.cell 1 rfl 1 rfl))) ?_
          refine Ops.vg ⟨_, rfl, rfl⟩ (Yv.lt rfl rfl) ?_
          refine Ops.dec (fun h17 => ?_) (fun h17 => ?_)
          · -- yes
            refine Ops.v (Yv.pick0 rfl rfl) ?_
            refine Ops.v (Yv.move rfl) ?_
            refine Ops.skip ⟨_, rfl, rfl⟩ ?_
            refine Ops.skip ⟨_, rfl, rfl⟩ ?_
            refine Ops.skip ⟨_, rfl, rfl⟩ ?_
            refine Ops.v (Yv.pick1 rfl rfl) ?_
            refine Ops.v (Yv.move rfl) ?_
            refine Ops.skip ⟨_, rfl, rfl⟩ ?_
            refine Ops.skip ⟨_, rfl, rfl⟩ ?_
            refine Ops.skip ⟨_, rfl, rfl⟩ ?_
            refine Ops.v (Yv.pick1 rfl rfl) ?_
            refine Ops.v (Yv.move rfl) ?_
            refine Ops.skip ⟨_, rfl, rfl⟩ ?_
            refine Ops.skip ⟨_, rfl, rfl⟩ ?_
            refine Ops.skip ⟨_, rfl, rfl⟩ ?_
            refine Ops.v (Yv.pick1 rfl rfl) ?_
            refine Ops.v (Yv.move rfl) ?_
            refine Ops.skip ⟨_, rfl, rfl⟩ ?_
            refine Ops.skip ⟨_, rfl, rfl⟩ ?_
            refine Ops.skip ⟨_, rfl, rfl⟩ ?_
            refine Ops.v (Yv.pick1 rfl rfl) ?_
            refine Ops.v (Yv.move rfl) ?_
            refine Ops.skip ⟨_, rfl, rfl⟩ ?_
            refine Ops.skip ⟨_, rfl, rfl⟩ ?_
            refine Ops.skip ⟨_, rfl, rfl⟩ ?_
            refine Ops.v (Yv.pick1 rfl rfl) ?_
            refine Ops.v (Yv.move rfl) ?_
            refine Ops.skip ⟨_, rfl, rfl⟩ ?_
            refine Ops.skip ⟨_, rfl, rfl⟩ ?_
            refine Ops.skip ⟨_, rfl, rfl⟩ ?_
            refine Ops.skip ⟨_, rfl, rfl⟩ ?_
            refine Ops.v (Yv.pick1 rfl rfl) ?_
            refine Ops.v (Yv.move rfl) ?_
            refine Ops.skip ⟨_, rfl, rfl⟩ ?_
            refine Ops.skip ⟨_, rfl, rfl⟩ ?_
            refine Ops.skip ⟨_, rfl, rfl⟩ ?_
            refine Ops.skip ⟨_, rfl, rfl⟩ ?_
            refine Ops.v (Yv.pick1 rfl rfl) ?_
            refine Ops.nil ?_
            refine ⟨hs13, Sub.le ⟨rfl, rfl, rfl, rfl, rfl, rfl, rfl, rfl, rfl, rfl, lookB rfl (by first | (simp only [h14, h15, h16, h17, ne_eq, not_true_eq_false, not_false_eq_true, or_true, true_or, or_false, false_or, and_true, true_and, and_false, false_and, decide_true, decide_false, or_self, and_self, Bool.decide_eq_true]; done) | simp [h14, h15, h16, h17]), trivial⟩⟩
          · -- no
            refine Ops.v (Yv.pick0 rfl rfl) ?_
            refine Ops.v (Yv.move rfl) ?_
            refine Ops.vg ⟨_, rfl, rfl⟩ (Yv.fld F29_1 rfl) ?_
            refine Ops.vg ⟨_, rfl, rfl⟩ (Yv.load A3 rfl (now (hs13.cell 1 rfl 1 rfl))) ?_
            refine Ops.vg ⟨_, rfl, rfl⟩ (Yv.gt rfl rfl) ?_
            refine Ops.dec (fun h18 => ?_) (fun h18 => ?_)
            · -- yes
              refine Ops.v (Yv.pick0 rfl rfl) ?_
              refine Ops.v (Yv.move rfl) ?_
              refine Ops.skip ⟨_, rfl, rfl⟩ ?_
              refine Ops.skip ⟨_, rfl, rfl⟩ ?_
              refine Ops.skip ⟨_, rfl, rfl⟩ ?_
              refine Ops.v (Yv.pick1 rfl rfl) ?_
              refine Ops.v (Yv.move rfl) ?_
              refine Ops.skip ⟨_, rfl, rfl⟩ ?_
              refine Ops.skip ⟨_, rfl, rfl⟩ ?_
              refine Ops.skip ⟨_, rfl, rfl⟩ ?_
              refine Ops.v (Yv.pick1 rfl rfl) ?_
              refine Ops.v (Yv.move rfl) ?_
              refine Ops.skip ⟨_, rfl, rfl⟩ ?_
              refine Ops.skip ⟨_, rfl, rfl⟩ ?_
              refine Ops.skip ⟨_, rfl, rfl⟩ ?_
              refine Ops.v (Yv.pick1 rfl rfl) ?_
              refine Ops.v (Yv.move rfl) ?_
              refine Ops.skip ⟨_, rfl, rfl⟩ ?_
              refine Ops.skip ⟨_, rfl, rfl⟩ ?_
              refine Ops.skip ⟨_, rfl, rfl⟩ ?_
              refine Ops.v (Yv.pick1 rfl rfl) ?_
              refine Ops.v (Yv.move rfl) ?_
              refine Ops.skip ⟨_, rfl, rfl⟩ ?_
              refine Ops.skip ⟨_, rfl, rfl⟩ ?_
              refine Ops.skip ⟨_, rfl, rfl⟩ ?_
              refine Ops.skip ⟨_, rfl, rfl⟩ ?_
              refine Ops.v (Yv.pick1 rfl rfl) ?_
              refine Ops.v (Yv.move rfl) ?_
              refine Ops.skip ⟨_, rfl, rfl⟩ ?_
              refine Ops.skip ⟨_, rfl, rfl⟩ ?_
              refine Ops.skip ⟨_, rfl, rfl⟩ ?_
              refine Ops.skip ⟨_, rfl, rfl⟩ ?_
              refine Ops.v (Yv.pick1 rfl rfl) ?_
              refine Ops.nil ?_
              refine ⟨hs13, Sub.le ⟨rfl, rfl, rfl, rfl, rfl, rfl, rfl, rfl, rfl, rfl, lookB rfl (by first | (simp only [h14, h15, h16, h17, h18, ne_eq, not_true_eq_false, not_false_eq_true, or_true, true_or, or_false, false_or, and_true, true_and, and_false, false_and, decide_true, decide_false, or_self, and_self, Bool.decide_eq_true]; done) | simp [h14, h15, h16, h17, h18]), trivial⟩⟩
            · -- no
              refine Ops.v (Yv.pick0 rfl rfl) ?_
              refine Ops.v (Yv.move rfl) ?_
              refine Ops.vg ⟨_, rfl, rfl⟩ (Yv.fld F29_2 rfl) ?_
              refine Ops.vg ⟨_, rfl, rfl⟩ (Yv.load A3 rfl (now (hs13.cell 1 rfl 2 rfl))) ?_
              refine Ops.vg ⟨_, rfl, rfl⟩ (Yv.lt rfl rfl) ?_
              refine Ops.dec (fun h19 => ?_) (fun h19 => ?_)
              · -- yes
                refine Ops.v (Yv.pick0 rfl rfl) ?_
                refine Ops.v (Yv.move rfl) ?_
                refine Ops.skip ⟨_, rfl, rfl⟩ ?_
                refine Ops.skip ⟨_, rfl, rfl⟩ ?_
                refine Ops.skip ⟨_, rfl, rfl⟩ ?_
                refine Ops.v (Yv.pick1 rfl rfl) ?_
                refine Ops.v (Yv.move rfl) ?_
                refine Ops.skip ⟨_, rfl, rfl⟩ ?_
                refine Ops.skip ⟨_, rfl, rfl⟩ ?_
                refine Ops.skip ⟨_, rfl, rfl⟩ ?_
                refine Ops.v (Yv.pick1 rfl rfl) ?_
                refine Ops.v (Yv.move rfl) ?_
                refine Ops.skip ⟨_, rfl, rfl⟩ ?_
                refine Ops.skip ⟨_, rfl, rfl⟩ ?_
                refine Ops.skip ⟨_, rfl, rfl⟩ ?_
                refine Ops.v (Yv.pick1 rfl rfl) ?_
                refine Ops.v (Yv.move rfl) ?_
                refine Ops.skip ⟨_, rfl, rfl⟩ ?_
                refine Ops.skip ⟨_, rfl, rfl⟩ ?_
                refine Ops.skip ⟨_, rfl, rfl⟩ ?_
                refine Ops.skip ⟨_, rfl, rfl⟩ ?_
                refine Ops.v (Yv.pick1 rfl rfl) ?_
                refine Ops.v (Yv.move rfl) ?_
                refine Ops.skip ⟨_, rfl, rfl⟩ ?_
                refine Ops.skip ⟨_, rfl, rfl⟩ ?_
                refine Ops.skip ⟨_, rfl, rfl⟩ ?_
                refine Ops.skip ⟨_, rfl, rfl⟩ ?_
                refine Ops.v (Yv.pick1 rfl rfl) ?_
                refine Ops.nil ?_
                refine ⟨hs13, Sub.le ⟨rfl, rfl, rfl, rfl, rfl, rfl, rfl, rfl, rfl, rfl, lookB rfl (by first | (simp only [h14, h15, h16, h17, h18, h19, ne_eq, not_true_eq_false, not_false_eq_true, or_true, true_or, or_false, false_or, and_true, true_and, and_false, false_and, decide_true, decide_false, or_self, and_self, Bool.decide_eq_true]; done) | simp [h14, h15, h16, h17, h18, h19]), trivial⟩⟩
              · -- no
                refine Ops.v (Yv.pick0 rfl rfl) ?_
                refine Ops.v (Yv.move rfl) ?_
                refine Ops.vg ⟨_, rfl, rfl⟩ (Yv.fld F29_2 rfl) ?_
                refine Ops.vg ⟨_, rfl, rfl⟩ (Yv.load A3 rfl (now (hs13.cell 1 rfl 2 rfl))) ?_
                refine Ops.vg ⟨_, rfl, rfl⟩ (Yv.gt rfl rfl) ?_
                refine Ops.dec (fun h20 => ?_) (fun h20 => ?_)
                · -- yes
                  refine Ops.v (Yv.pick0 rfl rfl) ?_
                  refine Ops.v (Yv.move rfl) ?_
                  refine Ops.skip ⟨_, rfl, rfl⟩ ?_
                  refine Ops.skip ⟨_, rfl, rfl⟩ ?_
                  refine Ops.skip ⟨_, rfl, rfl⟩ ?_
                  refine Ops.v (Yv.pick1 rfl rfl) ?_
                  refine Ops.v (Yv.move rfl) ?_
                  refine Ops.skip ⟨_, rfl, rfl⟩ ?_
                  refine Ops.skip ⟨_, rfl, rfl⟩ ?_
                  refine Ops.skip ⟨_, rfl, rfl⟩ ?_
                  refine Ops.v (Yv.pick1 rfl rfl) ?_
                  refine Ops.v (Yv.move rfl) ?_
                  refine Ops.skip ⟨_, rfl, rfl⟩ ?_
                  refine Ops.skip ⟨_, rfl, rfl⟩ ?_
                  refine Ops.skip ⟨_, rfl, rfl⟩ ?_
                  refine Ops.skip ⟨_, rfl, rfl⟩ ?_
                  refine Ops.v (Yv.pick1 rfl rfl) ?_
                  refine Ops.v (Yv.move rfl) ?_
                  refine Ops.skip ⟨_, rfl, rfl⟩ ?_
                  refine Ops.skip ⟨_, rfl, rfl⟩ ?_
                  refine Ops.skip ⟨_, rfl, rfl⟩ ?_
                  refine Ops.skip ⟨_, rfl, rfl⟩ ?_
                  refine Ops.v (Yv.pick1 rfl rfl) ?_
                  refine Ops.nil ?_
                  refine ⟨hs13, Sub.le ⟨rfl, rfl, rfl, rfl, rfl, rfl, rfl, rfl, rfl, rfl, lookB rfl (by first | (simp only [h14, h15, h16, h17, h18, h19, h20, ne_eq, not_true_eq_false, not_false_eq_true, or_true, true_or, or_false, false_or, and_true, true_and, and_false, false_and, decide_true, decide_false, or_self, and_self, Bool.decide_eq_true]; done) | simp [h14, h15, h16, h17, h18, h19, h20]), trivial⟩⟩
                · -- no
                  refine Ops.v (Yv.pick0 rfl rfl) ?_
                  refine Ops.v (Yv.move rfl) ?_
                  refine Ops.vg ⟨_, rfl, rfl⟩ (Yv.fld F29_3 rfl) ?_
                  refine Ops.vg ⟨_, rfl, rfl⟩ (Yv.load A3 rfl (now (hs13.cell 1 rfl 3 rfl))) ?_
                  refine Ops.vg ⟨_, rfl, rfl⟩ (Yv.lt rfl rfl) ?_
                  refine Ops.dec (fun h21 => ?_) (fun h21 => ?_)
                  · -- yes
                    refine Ops.v (Yv.pick0 rfl rfl) ?_
                    refine Ops.v (Yv.move rfl) ?_
                    refine Ops.skip ⟨_, rfl, rfl⟩ ?_
                    refine Ops.skip ⟨_, rfl, rfl⟩ ?_
                    refine Ops.skip ⟨_, rfl, rfl⟩ ?_
                    refine Ops.v (Yv.pick1 rfl rfl) ?_
                    refine Ops.v (Yv.move rfl) ?_
                    refine Ops.skip ⟨_, rfl, rfl⟩ ?_
                    refine Ops.skip ⟨_, rfl, rfl⟩ ?_
                    refine Ops.skip ⟨_, rfl, rfl⟩ ?_
                    refine Ops.skip ⟨_, rfl, rfl⟩ ?_
                    refine Ops.v (Yv.pick1 rfl rfl) ?_
                    refine Ops.v (Yv.move rfl) ?_
                    refine Ops.skip ⟨_, rfl, rfl⟩ ?_
                    refine Ops.skip ⟨_, rfl, rfl⟩ ?_
                    refine Ops.skip ⟨_, rfl, rfl⟩ ?_
                    refine Ops.skip ⟨_, rfl, rfl⟩ ?_
                    refine Ops.v (Yv.pick1 rfl rfl) ?_
                    refine Ops.nil ?_
                    refine ⟨hs13, Sub.le ⟨rfl, rfl, rfl, rfl, rfl, rfl, rfl, rfl, rfl, rfl, lookB rfl (by first | (simp only [h14, h15, h16, h17, h18, h19, h20, h21, ne_eq, not_true_eq_false, not_false_eq_true, or_true, true_or, or_false, false_or, and_true, true_and, and_false, false_and, decide_true, decide_false, or_self, and_self, Bool.decide_eq_true]; done) | simp [h14, h15, h16, h17, h18, h19, h20, h21]), trivial⟩⟩
                  · -- no
                    refine Ops.v (Yv.pick0 rfl rfl) ?_
                    refine Ops.v (Yv.move rfl) ?_
                    refine Ops.vg ⟨_, rfl, rfl⟩ (Yv.fld F29_3 rfl) ?_
                    refine Ops.vg ⟨_, rfl, rfl⟩ (Yv.load A3 rfl (now (hs13.cell 1 rfl 3 rfl))) ?_
                    refine Ops.vg ⟨_, rfl, rfl⟩ (Yv.gt rfl rfl) ?_
                    refine Ops.dec (fun h22 => ?_) (fun h22 => ?_)
                    · -- yes
                      refine Ops.v (Yv.pick0 rfl rfl) ?_
                      refine Ops.v (Yv.move rfl) ?_
                      refine Ops.skip ⟨_, rfl, rfl⟩ ?_
                      refine Ops.skip ⟨_, rfl, rfl⟩ ?_
                      refine Ops.skip ⟨_, rfl, rfl⟩ ?_
                      refine Ops.skip ⟨_, rfl, rfl⟩ ?_
                      refine Ops.v (Yv.pick1 rfl rfl) ?_
                      refine Ops.v (Yv.move rfl) ?_
                      refine Ops.skip ⟨_, rfl, rfl⟩ ?_
                      refine Ops.skip ⟨_, rfl, rfl⟩ ?_
                      refine Ops.skip ⟨_, rfl, rfl⟩ ?_
                      refine Ops.skip ⟨_, rfl, rfl⟩ ?_
                      refine Ops.v (Yv.pick1 rfl rfl) ?_
                      refine Ops.nil ?_
                      refine ⟨hs13, Sub.le ⟨rfl, rfl, rfl, rfl, rfl, rfl, rfl, rfl, rfl, rfl, lookB rfl (by first | (simp only [h14, h15, h16, h17, h18, h19, h20, h21, h22, ne_eq, not_true_eq_false, not_false_eq_true, or_true, true_or, or_false, false_or, and_true, true_and, and_false, false_and, decide_true, decide_false, or_self, and_self, Bool.decide_eq_true]; done) | simp [h14, h15, h16, h17, h18, h19, h20, h21, h22]), trivial⟩⟩
                    · -- no
                      refine Ops.v (Yv.pick0 rfl rfl) ?_
                      refine Ops.v (Yv.move rfl) ?_
                      refine Ops.vg ⟨_, rfl, rfl⟩ (Yv.fld F31_0 rfl) ?_
                      refine Ops.vg ⟨_, rfl, rfl⟩ (Yv.load A3 rfl (now (hs13.cell 0 rfl 0 rfl))) ?_
                      refine Ops.s (Step.call rfl rfl (part_fun) (?_) ⟨_, rfl, rfl⟩ (by rfl))
                      rintro _ _ ⟨rfl, rfl⟩
                      refine Ops.dec (fun h24 => ?_) (fun h24 => ?_)
                      · -- yes
                        refine Ops.vg ⟨_, rfl, rfl⟩ (Yv.not rfl) ?_
                        refine Ops.v (Yv.pick0 rfl rfl) ?_
                        refine Ops.v (Yv.move rfl) ?_
                        refine Ops.vg ⟨_, rfl, rfl⟩ (Yv.fld F31_1 rfl) ?_
                        refine Ops.vg ⟨_, rfl, rfl⟩ (Yv.load A3 rfl (now (hs13.cell 0 rfl 1 rfl))) ?_
                        refine Ops.s (Step.call rfl rfl (part_fun) (?_) ⟨_, rfl, rfl⟩ (by rfl))
                        rintro _ _ ⟨rfl, rfl⟩
                        refine Ops.vg ⟨_, rfl, rfl⟩ (Yv.notp rfl) ?_
                        refine Ops.v (Yv.pick0 rfl rfl) ?_
                        refine Ops.nil ?_
                        refine ⟨hs13, Sub.le ⟨rfl, rfl, rfl, rfl, rfl, rfl, rfl, rfl, rfl, rfl, lookB rfl (by first | (simp only [h14, h15, h16, h17, h18, h19, h20, h21, h22, h24, ne_eq, not_true_eq_false, not_false_eq_true, or_true, true_or, or_false, false_or, and_true, true_and, and_false, false_and, decide_true, decide_false, or_self, and_self, Bool.decide_eq_true]; done) | simp [h14, h15, h16, h17, h18, h19, h20, h21, h22, h24]), trivial⟩⟩
                      · -- no
                        refine Ops.vg ⟨_, rfl, rfl⟩ (Yv.not rfl) ?_
                        refine Ops.v (Yv.pick0 rfl rfl) ?_
                        refine Ops.v (Yv.move rfl) ?_
                        refine Ops.skip ⟨_, rfl, rfl⟩ ?_
                        refine Ops.skip ⟨_, rfl, rfl⟩ ?_
                        refine Ops.skip ⟨_, rfl, rfl⟩ ?_
                        refine Ops.skip ⟨_, rfl, rfl⟩ ?_
                        refine Ops.v (Yv.pick1 rfl rfl) ?_
                        refine Ops.nil ?_
                        refine ⟨hs13, Sub.le ⟨rfl, rfl, rfl, rfl, rfl, rfl, rfl, rfl, rfl, rfl, lookB rfl (by first | (simp only [h14, h15, h16, h17, h18, h19, h20, h21, h22, h24, ne_eq, not_true_eq_false, not_false_eq_true, or_true, true_or, or_false, false_or, and_true, true_and, and_false, false_and, decide_true, decide_false, or_self, and_self, Bool.decide_eq_true]; done) | simp [h14, h15, h16, h17, h18, h19, h20, h21, h22, h24]), trivial⟩⟩
  rintro e26 w26 ⟨hs26, he26⟩
  refine k12 _ _ ?_
  refine Run.le he26 ?_
  refine run_ifp rfl (fun h27 => ?_) (fun h27 => ?_)
  · -- yes (((((((((((wholeF W0 H0 m0 W1 H1 m1 W2 H2 m2) ≠ (0 : Int)) ∨ (X < (0 : Int))) ∨ ((1024 : Int) < X)) ∨ (Y < (0 : Int))) ∨ ((1024 : Int) < Y)) ∨ (bw < (4 : Int))) ∨ ((64 : Int) < bw)) ∨ (bh < (4 : Int))) ∨ ((64 : Int) < bh)) ∨ (¬ (-4095 ≤ vx ∧ vx ≤ 4095))) ∨ (¬ (-4095 ≤ vy ∧ vy ≤ 4095))
    refine run_seq fun K28 k28 => ?_
    refine run_region ?_
    refine Ops.v (Yv.assign rfl) ?_
    refine Ops.v (Yv.assign rfl) ?_
    refine Ops.nil ?_
    refine k28 _ _ ?_
    refine run_ret ?_
    refine ⟨[.slice none 0 0, .int .i64 2], ⟨_, _, rfl, rfl, ⟨_, _, rfl, rfl, rfl⟩⟩, ?_⟩
    obtain ⟨e1, e2⟩ := single_bad (W0 := W0) (H0 := H0) (m0 := m0) (W1 := W1) (H1 := H1) (m1 := m1) (W2 := W2) (H2 := H2) (m2 := m2) (xs0 := xs0) (xs1 := xs1) (xs2 := xs2) (n := 1) (X := X) (Y := Y) (bw := bw) (bh := bh) (vx := vx) (vy := vy) (kd := kd) (by unfold singleOk; omega)
    rw [e1, e2]
    exact ⟨none, 0, rfl, (hs26.pick [] [] (by decide) rfl).nilRow 5 1⟩
  · -- no
    refine run_skip ?_
    refine k11 _ _ ?_
    refine run_seq fun K29 k29 => ?_
    refine run_region ?_
    refine Ops.v (Yv.assign rfl) ?_
    refine Ops.nil ?_
    refine k29 _ _ ?_
    refine run_seq fun K30 k30 => ?_
    refine run_seq fun K31 k31 => ?_
    refine run_region ?_
    refine Ops.v (Yv.move rfl) ?_
    refine Ops.v ((Yv.eq rfl rfl).to (v := .bool false) (by rfl)) ?_
    refine Ops.nil ?_
    refine k31 _ _ ?_
    refine run_if0 rfl ?_
    refine run_skip ?_
    refine k30 _ _ ?_
    refine run_seq fun K32 k32 => ?_
    refine run_drawn [] (fun x => Below (w26.drew).heap.size (w26.drew) x) ?_ Tf.mixed (by kernel_rfl) (fun _ _ _ h => h)
    have hs33 := hs26.drew
    have hS34 := Below.refl (w26.drew).heap.size (w26.drew)
    refine Drw.a 0 rfl (by kernel_rfl) (Yv.move rfl) ?_
    refine Drw.a 1 rfl (by kernel_rfl) (Yv.fld F27_0 rfl) ?_
    refine Drw.a 2 rfl (by kernel_rfl) (Yv.idxa R25 rfl rfl (by decide) (by decide)) ?_
    refine Drw.l 3 rfl (by kernel_rfl) hS34 (Yv.loadn (cs := [.int .i64 W1, .int .i64 H1, .slice A1 m1 c1]) A24 S24 rfl (fun _ hq_ => ((hs33.grow hq_).cells 2 rfl 3 3))) ?_
    refine Drw.a 4 rfl (by kernel_rfl) (Yv.fld F29_0 rfl) ?_
    refine Drw.l 5 rfl (by kernel_rfl) hS34 (Yv.load A3 rfl (fun _ hq_ => ((hs33.grow hq_).cell 1 rfl 0 rfl))) ?_
    refine Drw.a 6 rfl (by kernel_rfl) (Yv.mul rfl rfl (by omega)) ?_
    refine Drw.a 7 rfl (by kernel_rfl) (Yv.move rfl) ?_
    refine Drw.a 8 rfl (by kernel_rfl) (Yv.fld F31_0 rfl) ?_
    refine Drw.l 9 rfl (by kernel_rfl) hS34 (Yv.load A3 rfl (fun _ hq_ => ((hs33.grow hq_).cell 0 rfl 0 rfl))) ?_
    refine Drw.a 10 rfl (by kernel_rfl) (Yv.mul rfl rfl (by omega)) ?_
    refine Drw.a 11 rfl (by kernel_rfl) (Yv.add rfl rfl (by omega)) ?_
    refine Drw.a 12 rfl (by kernel_rfl) (Yv.fld F29_1 rfl) ?_
    refine Drw.l 13 rfl (by kernel_rfl) hS34 (Yv.load A3 rfl (fun _ hq_ => ((hs33.grow hq_).cell 1 rfl 1 rfl))) ?_
    refine Drw.a 14 rfl (by kernel_rfl) (Yv.mul rfl rfl (by omega)) ?_
    refine Drw.a 15 rfl (by kernel_rfl) (Yv.move rfl) ?_
    refine Drw.a 16 rfl (by kernel_rfl) (Yv.fld F31_1 rfl) ?_
    refine Drw.l 17 rfl (by kernel_rfl) hS34 (Yv.load A3 rfl (fun _ hq_ => ((hs33.grow hq_).cell 0 rfl 1 rfl))) ?_
    refine Drw.a 18 rfl (by kernel_rfl) (Yv.mul rfl rfl (by omega)) ?_
    refine Drw.a 19 rfl (by kernel_rfl) (Yv.add rfl rfl (by omega)) ?_
    refine Drw.a 20 rfl (by kernel_rfl) (Yv.fld F29_2 rfl) ?_
    refine Drw.l 21 rfl (by kernel_rfl) hS34 (Yv.load A3 rfl (fun _ hq_ => ((hs33.grow hq_).cell 1 rfl 2 rfl))) ?_
    refine Drw.a 22 rfl (by kernel_rfl) (Yv.fld F29_3 rfl) ?_
    refine Drw.l 23 rfl (by kernel_rfl) hS34 (Yv.load A3 rfl (fun _ hq_ => ((hs33.grow hq_).cell 1 rfl 3 rfl))) ?_
    refine Drw.a 24 rfl (by kernel_rfl) (Yv.move rfl) ?_
    refine Drw.one 25 rfl (by kernel_rfl) (Step.call rfl rfl (rfetch_fun (hs33.rd hr1) hx1 (by omega)) (?_) True.intro (by rfl))
    rintro _ w38 ⟨Ad35, c36, rfl, hs38⟩
    have hS39 := HS.keepS hS34 (Nat.le_refl _) hs38
    refine ⟨fun _ _ => hS39, ?_⟩
    replace hs38 := hs33.call hs38
    refine Drw.a 26 rfl (by kernel_rfl) (Yv.extract rfl rfl) ?_
    refine Drw.a 27 rfl (by kernel_rfl) (Yv.extract rfl rfl) ?_
    refine Drw.a 28 rfl (by kernel_rfl) (Yv.assign rfl) ?_
    refine Drw.a 29 rfl (by kernel_rfl) (Yv.assign rfl) ?_
    refine Drw.done ?_ (by kernel_rfl)
    refine k32 _ _ ?_
    refine run_ret ?_
    refine ⟨[.slice Ad35 ((fetchOut xs1 W1 H1 m1 (((16 : Int) * X) + ((1 : Int) * vx)) (((16 : Int) * Y) + ((1 : Int) * vy)) bw bh kd).length) c36, .int .i64 (fetchE W1 H1 m1 (((16 : Int) * X) + ((1 : Int) * vx)) (((16 : Int) * Y) + ((1 : Int) * vy)) bw bh kd)], ⟨_, _, rfl, rfl, ⟨_, _, rfl, rfl, rfl⟩⟩, ?_⟩
    obtain ⟨e1, e2⟩ := single_ok (W0 := W0) (H0 := H0) (m0 := m0) (W1 := W1) (H1 := H1) (m1 := m1) (W2 := W2) (H2 := H2) (m2 := m2) (xs0 := xs0) (xs1 := xs1) (xs2 := xs2) (n := 1) (X := X) (Y := Y) (bw := bw) (bh := bh) (vx := vx) (vy := vy) (kd := kd) (by unfold singleOk; omega)
    rw [e1, e2]
    have hz := hs38.pick [0] [.row Ad35 ((fetchOut xs1 W1 H1 m1 (((16 : Int) * X) + ((1 : Int) * vx)) (((16 : Int) * Y) + ((1 : Int) * vy)) bw bh kd).length) c36 (u8s (fetchOut xs1 W1 H1 m1 (((16 : Int) * X) + ((1 : Int) * vx)) (((16 : Int) * Y) + ((1 : Int) * vy)) bw bh kd)) 5 1] (by decide) rfl
    exact ⟨Ad35, c36, (by rw [Int.one_mul, Int.one_mul]; rfl), hz.to (by rw [Int.one_mul, Int.one_mul]; rfl)⟩

set_option maxHeartbeats 2000000 in
theorem rsingle_2 {w : World} {W0 H0 W1 H1 W2 H2 : Int} {A0 A1 A2 : Option Addr} {m0 m1 m2 c0 c1 c2 : Nat} {xs0 xs1 xs2 : List Int} (hr0 : Rd w A0 m0 1 (u8s xs0)) (hx0 : Bytes xs0) (hr1 : Rd w A1 m1 1 (u8s xs1)) (hx1 : Bytes xs1) (hr2 : Rd w A2 m2 1 (u8s xs2)) (hx2 : Bytes xs2) (hc0 : m0 ≤ c0) (hc1 : m1 ≤ c1) (hc2 : m2 ≤ c2) {X Y bw bh vx vy kd : Int} : Fun Try.prog 13 [.agg #[.int .i64 W0, .int .i64 H0, .slice A0 m0 c0, .int .i64 W1, .int .i64 H1, .slice A1 m1 c1, .int .i64 W2, .int .i64 H2, .slice A2 m2 c2], .int .i64 2, .agg #[.int .i64 X, .int .i64 Y, .int .i64 bw, .int .i64 bh], .agg #[.int .i64 vx, .int .i64 vy], .int .i64 kd] w fun v w' => ∃ A' c', v = .tuple #[.slice A' (singleOut W0 H0 m0 W1 H1 m1 W2 H2 m2 xs0 xs1 xs2 2 X Y bw bh vx vy kd).length c', .int .i64 (singleE W0 H0 m0 W1 H1 m1 W2 H2 m2 2 X Y bw bh vx vy kd)] ∧ HS w [.row A' (singleOut W0 H0 m0 W1 H1 m1 W2 H2 m2 xs0 xs1 xs2 2 X Y bw bh vx vy kd).length c' (u8s (singleOut W0 H0 m0 W1 H1 m1 W2 H2 m2 xs0 xs1 xs2 2 X Y bw bh vx vy kd)) 5 1] w' := by
  refine fun_run (m := 106) (rs := [.tmp 10, .tmp 11]) Try.func13 rfl rfl rfl rfl rfl ?_
  have hs0 := HS.start w
  have hbig0 := hr0.big
  have hlen_xs0 : xs0.length = m0 := by have := hr0.len; rw [u8s_length] at this; omega
  have hbig1 := hr1.big
  have hlen_xs1 : xs1.length = m1 := by have := hr1.len; rw [u8s_length] at this; omega
  have hbig2 := hr2.big
  have hlen_xs2 : xs2.length = m2 := by have := hr2.len; rw [u8s_length] at this; omega
  refine run_seq fun K1 k1 => ?_
  refine run_region ?_
  refine Ops.s (Step.box (cs := [.int .i64 W0, .int .i64 H0, .slice A0 m0 c0, .int .i64 W1, .int .i64 H1, .slice A1 m1 c1, .int .i64 W2, .int .i64 H2, .slice A2 m2 c2]) hs0 rfl rfl (fun b2 w3 hs3 hb3 => ?_) True.intro (by rfl))
  refine Ops.s (Step.box (cs := [.int .i64 X, .int .i64 Y, .int .i64 bw, .int .i64 bh]) hs3 rfl rfl (fun b5 w6 hs6 hb6 => ?_) True.intro (by rfl))
  refine Ops.s (Step.box (cs := [.int .i64 vx, .int .i64 vy]) hs6 rfl rfl (fun b8 w9 hs9 hb9 => ?_) True.intro (by rfl))
  refine Ops.v (Yv.assign rfl) ?_
  refine Ops.v (Yv.assign rfl) ?_
  refine Ops.nil ?_
  refine k1 _ _ ?_
  refine run_seq fun K11 k11 => ?_
  refine run_seq fun K12 k12 => ?_
  refine Run.cut (fun e_ w_ => HS w [.blk b8 [.int .i64 vx, .int .i64 vy] 31, .blk b5 [.int .i64 X, .int .i64 Y, .int .i64 bw, .int .i64 bh] 29, .blk b2 [.int .i64 W0, .int .i64 H0, .slice A0 m0 c0, .int .i64 W1, .int .i64 H1, .slice A1 m1 c1, .int .i64 W2, .int .i64 H2, .slice A2 m2 c2] 27] w_ ∧ Le [(0, .agg #[.int .i64 W0, .int .i64 H0, .slice A0 m0 c0, .int .i64 W1, .int .i64 H1, .slice A1 m1 c1, .int .i64 W2, .int .i64 H2, .slice A2 m2 c2]), (1, .int .i64 2), (2, .agg #[.int .i64 X, .int .i64 Y, .int .i64 bw, .int .i64 bh]), (3, .agg #[.int .i64 vx, .int .i64 vy]), (4, .int .i64 kd), (5, .pointer (some ⟨b2, 0, none⟩)), (7, .pointer (some ⟨b5, 0, none⟩)), (8, .pointer (some ⟨b8, 0, none⟩)), (10, .slice none 0 0), (11, .int .i64 0), (75, .bool (decide ((((((((((((wholeF W0 H0 m0 W1 H1 m1 W2 H2 m2) ≠ (0 : Int)) ∨ (X < (0 : Int))) ∨ ((1024 : Int) < X)) ∨ (Y < (0 : Int))) ∨ ((1024 : Int) < Y)) ∨ (bw < (4 : Int))) ∨ ((64 : Int) < bw)) ∨ (bh < (4 : Int))) ∨ ((64 : Int) < bh)) ∨ (¬ (-4095 ≤ vx ∧ vx ≤ 4095))) ∨ (¬ (-4095 ≤ vy ∧ vy ≤ 4095)))))] e_) ?_ ?_
  · -- region 1: its ways meet again
    refine run_region' _ rfl ?_
    refine Ops.v (Yv.loadn (cs := [.int .i64 W0, .int .i64 H0, .slice A0 m0 c0, .int .i64 W1, .int .i64 H1, .slice A1 m1 c1, .int .i64 W2, .int .i64 H2, .slice A2 m2 c2]) A27 S27 rfl (now (hs9.cells 2 rfl 0 9))) ?_
    refine Ops.s (Step.call rfl rfl (rwhole_fun) (?_) True.intro (by rfl))
    rintro _ w13 ⟨rfl, hs13⟩
    replace hs13 := hs9.call hs13
    refine Ops.v (Yv.ne rfl rfl) ?_
    refine Ops.dec (fun h14 => ?_) (fun h14 => ?_)
    · -- yes
      refine Ops.v (Yv.move rfl) ?_
      refine Ops.skip ⟨_, rfl, rfl⟩ ?_
      refine Ops.skip ⟨_, rfl, rfl⟩ ?_
      refine Ops.v (Yv.pick1 rfl rfl) ?_
      refine Ops.v (Yv.move rfl) ?_
      refine Ops.skip ⟨_, rfl, rfl⟩ ?_
      refine Ops.skip ⟨_, rfl, rfl⟩ ?_
      refine Ops.v (Yv.pick1 rfl rfl) ?_
      refine Ops.v (Yv.move rfl) ?_
      refine Ops.skip ⟨_, rfl, rfl⟩ ?_
      refine Ops.skip ⟨_, rfl, rfl⟩ ?_
      refine Ops.skip ⟨_, rfl, rfl⟩ ?_
      refine Ops.v (Yv.pick1 rfl rfl) ?_
      refine Ops.v (Yv.move rfl) ?_
      refine Ops.skip ⟨_, rfl, rfl⟩ ?_
      refine Ops.skip ⟨_, rfl, rfl⟩ ?_
      refine Ops.skip ⟨_, rfl, rfl⟩ ?_
      refine Ops.v (Yv.pick1 rfl rfl) ?_
      refine Ops.v (Yv.move rfl) ?_
      refine Ops.skip ⟨_, rfl, rfl⟩ ?_
      refine Ops.skip ⟨_, rfl, rfl⟩ ?_
      refine Ops.skip ⟨_, rfl, rfl⟩ ?_
      refine Ops.v (Yv.pick1 rfl rfl) ?_
      refine Ops.v (Yv.move rfl) ?_
      refine Ops.skip ⟨_, rfl, rfl⟩ ?_
      refine Ops.skip ⟨_, rfl, rfl⟩ ?_
      refine Ops.skip ⟨_, rfl, rfl⟩ ?_
      refine Ops.v (Yv.pick1 rfl rfl) ?_
      refine Ops.v (Yv.move rfl) ?_
      refine Ops.skip ⟨_, rfl, rfl⟩ ?_
      refine Ops.skip ⟨_, rfl, rfl⟩ ?_
      refine Ops.skip ⟨_, rfl, rfl⟩ ?_
      refine Ops.v (Yv.pick1 rfl rfl) ?_
      refine Ops.v (Yv.move rfl) ?_
      refine Ops.skip ⟨_, rfl, rfl⟩ ?_
      refine Ops.skip ⟨_, rfl, rfl⟩ ?_
      refine Ops.skip ⟨_, rfl, rfl⟩ ?_
      refine Ops.v (Yv.pick1 rfl rfl) ?_
      refine Ops.v (Yv.move rfl) ?_
      refine Ops.skip ⟨_, rfl, rfl⟩ ?_
      refine Ops.skip ⟨_, rfl, rfl⟩ ?_
      refine Ops.skip ⟨_, rfl, rfl⟩ ?_
      refine Ops.v (Yv.pick1 rfl rfl) ?_
      refine Ops.v (Yv.move rfl) ?_
      refine Ops.skip ⟨_, rfl, rfl⟩ ?_
      refine Ops.skip ⟨_, rfl, rfl⟩ ?_
      refine Ops.skip ⟨_, rfl, rfl⟩ ?_
      refine Ops.v (Yv.pick1 rfl rfl) ?_
      refine Ops.v (Yv.move rfl) ?_
      refine Ops.skip ⟨_, rfl, rfl⟩ ?_
      refine Ops.skip ⟨_, rfl, rfl⟩ ?_
      refine Ops.skip ⟨_, rfl, rfl⟩ ?_
      refine Ops.skip ⟨_, rfl, rfl⟩ ?_
      refine Ops.v (Yv.pick1 rfl rfl) ?_
      refine Ops.v (Yv.move rfl) ?_
      refine Ops.skip ⟨_, rfl, rfl⟩ ?_
      refine Ops.skip ⟨_, rfl, rfl⟩ ?_
      refine Ops.skip ⟨_, rfl, rfl⟩ ?_
      refine Ops.skip ⟨_, rfl, rfl⟩ ?_
      refine Ops.v (Yv.pick1 rfl rfl) ?_
      refine Ops.nil ?_
      refine ⟨hs13, Sub.le ⟨rfl, rfl, rfl, rfl, rfl, rfl, rfl, rfl, rfl, rfl, lookB rfl (by first | (simp only [h14, ne_eq, not_true_eq_false, not_false_eq_true, or_true, true_or, or_false, false_or, and_true, true_and, and_false, false_and, decide_true, decide_false, or_self, and_self, Bool.decide_eq_true]; done) | simp [h14]), trivial⟩⟩
    · -- no
      refine Ops.v (Yv.move rfl) ?_
      refine Ops.vg ⟨_, rfl, rfl⟩ (Yv.move rfl) ?_
      refine Ops.vg ⟨_, rfl, rfl⟩ ((Yv.lt rfl rfl).to (v := .bool false) (by rfl)) ?_
      refine Ops.v (Yv.pick0 rfl rfl) ?_
      refine Ops.v (Yv.move rfl) ?_
      refine Ops.vg ⟨_, rfl, rfl⟩ (Yv.move rfl) ?_
      refine Ops.vg ⟨_, rfl, rfl⟩ ((Yv.gt rfl rfl).to (v := .bool false) (by rfl)) ?_
      refine Ops.v (Yv.pick0 rfl rfl) ?_
      refine Ops.v (Yv.move rfl) ?_
      refine Ops.vg ⟨_, rfl, rfl⟩ (Yv.fld F29_0 rfl) ?_
      refine Ops.vg ⟨_, rfl, rfl⟩ (Yv.load A3 rfl (now (hs13.cell 1 rfl 0 rfl))) ?_
      refine Ops.vg ⟨_, rfl, rfl⟩ (Yv.lt rfl rfl) ?_
      refine Ops.dec (fun h15 => ?_) (fun h15 => ?_)
      · -- yes
        refine Ops.v (Yv.pick0 rfl rfl) ?_
        refine Ops.v (Yv.move rfl) ?_
        refine Ops.skip ⟨_, rfl, rfl⟩ ?_
        refine Ops.skip ⟨_, rfl, rfl⟩ ?_
        refine Ops.skip ⟨_, rfl, rfl⟩ ?_
        refine Ops.v (Yv.pick1 rfl rfl) ?_
        refine Ops.v (Yv.move rfl) ?_
        refine Ops.skip ⟨_, rfl, rfl⟩ ?_
        refine Ops.skip ⟨_, rfl, rfl⟩ ?_
        refine Ops.skip ⟨_, rfl, rfl⟩ ?_
        refine Ops.v (Yv.pick1 rfl rfl) ?_
        refine Ops.v (Yv.move rfl) ?_
        refine Ops.skip ⟨_, rfl, rfl⟩ ?_
        refine Ops.skip ⟨_, rfl, rfl⟩ ?_
        refine Ops.skip ⟨_, rfl, rfl⟩ ?_
        refine Ops.v (Yv.pick1 rfl rfl) ?_
        refine Ops.v (Yv.move rfl) ?_
        refine Ops.skip ⟨_, rfl, rfl⟩ ?_
        refine Ops.skip ⟨_, rfl, rfl⟩ ?_
        refine Ops.skip ⟨_, rfl, rfl⟩ ?_
        refine Ops.v (Yv.pick1 rfl rfl) ?_
        refine Ops.v (Yv.move rfl) ?_
        refine Ops.skip ⟨_, rfl, rfl⟩ ?_
        refine Ops.skip ⟨_, rfl, rfl⟩ ?_
        refine Ops.skip ⟨_, rfl, rfl⟩ ?_
        refine Ops.v (Yv.pick1 rfl rfl) ?_
        refine Ops.v (Yv.move rfl) ?_
        refine Ops.skip ⟨_, rfl, rfl⟩ ?_
        refine Ops.skip ⟨_, rfl, rfl⟩ ?_
        refine Ops.skip ⟨_, rfl, rfl⟩ ?_
        refine Ops.v (Yv.pick1 rfl rfl) ?_
        refine Ops.v (Yv.move rfl) ?_
        refine Ops.skip ⟨_, rfl, rfl⟩ ?_
        refine Ops.skip ⟨_, rfl, rfl⟩ ?_
        refine Ops.skip ⟨_, rfl, rfl⟩ ?_
        refine Ops.v (Yv.pick1 rfl rfl) ?_
        refine Ops.v (Yv.move rfl) ?_
        refine Ops.skip ⟨_, rfl, rfl⟩ ?_
        refine Ops.skip ⟨_, rfl, rfl⟩ ?_
        refine Ops.skip ⟨_, rfl, rfl⟩ ?_
        refine Ops.skip ⟨_, rfl, rfl⟩ ?_
        refine Ops.v (Yv.pick1 rfl rfl) ?_
        refine Ops.v (Yv.move rfl) ?_
        refine Ops.skip ⟨_, rfl, rfl⟩ ?_
        refine Ops.skip ⟨_, rfl, rfl⟩ ?_
        refine Ops.skip ⟨_, rfl, rfl⟩ ?_
        refine Ops.skip ⟨_, rfl, rfl⟩ ?_
        refine Ops.v (Yv.pick1 rfl rfl) ?_
        refine Ops.nil ?_
        refine ⟨hs13, Sub.le ⟨rfl, rfl, rfl, rfl, rfl, rfl, rfl, rfl, rfl, rfl, lookB rfl (by first | (simp only [h14, h15, ne_eq, not_true_eq_false, not_false_eq_true, or_true, true_or, or_false, false_or, and_true, true_and, and_false, false_and, decide_true, decide_false, or_self, and_self, Bool.decide_eq_true]; done) | simp [h14, h15]), trivial⟩⟩
      · -- no
        refine Ops.v (Yv.pick0 rfl rfl) ?_
        refine Ops.v (Yv.move rfl) ?_
        refine Ops.vg ⟨_, rfl, rfl⟩ (Yv.fld F29_0 rfl) ?_
        refine Ops.vg ⟨_, rfl, rfl⟩ (Yv.load A3 rfl (now (hs13.cell 1 rfl 0 rfl))) ?_
        refine Ops.vg ⟨_, rfl, rfl⟩ (Yv.gt rfl rfl) ?_
        refine Ops.dec (fun h16 => ?_) (fun h16 => ?_)
        · -- yes
          refine Ops.v (Yv.pick0 rfl rfl) ?_
          refine Ops.v (Yv.move rfl) ?_
          refine Ops.skip ⟨_, rfl, rfl⟩ ?_
          refine Ops.skip ⟨_, rfl, rfl⟩ ?_
          refine Ops.skip ⟨_, rfl, rfl⟩ ?_
          refine Ops.v (Yv.pick1 rfl rfl) ?_
          refine Ops.v (Yv.move rfl) ?_
          refine Ops.skip ⟨_, rfl, rfl⟩ ?_
          refine Ops.skip ⟨_, rfl, rfl⟩ ?_
          refine Ops.skip ⟨_, rfl, rfl⟩ ?_
          refine Ops.v (Yv.pick1 rfl rfl) ?_
          refine Ops.v (Yv.move rfl) ?_
          refine Ops.skip ⟨_, rfl, rfl⟩ ?_
          refine Ops.skip ⟨_, rfl, rfl⟩ ?_
          refine Ops.skip ⟨_, rfl, rfl⟩ ?_
          refine Ops.v (Yv.pick1 rfl rfl) ?_
          refine Ops.v (Yv.move rfl) ?_
          refine Ops.skip ⟨_, rfl, rfl⟩ ?_
          refine Ops.skip ⟨_, rfl, rfl⟩ ?_
          refine Ops.skip ⟨_, rfl, rfl⟩ ?_
          refine Ops.v (Yv.pick1 rfl rfl) ?_
          refine Ops.v (Yv.move rfl) ?_
          refine Ops.skip ⟨_, rfl, rfl⟩ ?_
          refine Ops.skip ⟨_, rfl, rfl⟩ ?_
          refine Ops.skip ⟨_, rfl, rfl⟩ ?_
          refine Ops.v (Yv.pick1 rfl rfl) ?_
          refine Ops.v (Yv.move rfl) ?_
          refine Ops.skip ⟨_, rfl, rfl⟩ ?_
          refine Ops.skip ⟨_, rfl, rfl⟩ ?_
          refine Ops.skip ⟨_, rfl, rfl⟩ ?_
          refine Ops.v (Yv.pick1 rfl rfl) ?_
          refine Ops.v (Yv.move rfl) ?_
          refine Ops.skip ⟨_, rfl, rfl⟩ ?_
          refine Ops.skip ⟨_, rfl, rfl⟩ ?_
          refine Ops.skip ⟨_, rfl, rfl⟩ ?_
          refine Ops.skip ⟨_, rfl, rfl⟩ ?_
          refine Ops.v (Yv.pick1 rfl rfl) ?_
          refine Ops.v (Yv.move rfl) ?_
          refine Ops.skip ⟨_, rfl, rfl⟩ ?_
          refine Ops.skip ⟨_, rfl, rfl⟩ ?_
          refine Ops.skip ⟨_, rfl, rfl⟩ ?_
          refine Ops.skip ⟨_, rfl, rfl⟩ ?_
          refine Ops.v (Yv.pick1 rfl rfl) ?_
          refine Ops.nil ?_
          refine ⟨hs13, Sub.le ⟨rfl, rfl, rfl, rfl, rfl, rfl, rfl, rfl, rfl, rfl, lookB rfl (by first | (simp only [h14, h15, h16, ne_eq, not_true_eq_false, not_false_eq_true, or_true, true_or, or_false, false_or, and_true, true_and, and_false, false_and, decide_true, decide_false, or_self, and_self, Bool.decide_eq_true]; done) | simp [h14, h15, h16]), trivial⟩⟩
        · -- no
          refine Ops.v (Yv.pick0 rfl rfl) ?_
          refine Ops.v (Yv.move rfl) ?_
          refine Ops.vg ⟨_, rfl, rfl⟩ (Yv.fld F29_1 rfl) ?_
          refine Ops.vg ⟨_, rfl, rfl⟩ (Yv.load A3 rfl (now (hs13.cell 1 rfl 1 rfl))) ?_
          refine Ops.vg ⟨_, rfl, rfl⟩ (Yv.lt rfl rfl) ?_
          refine Ops.dec (fun h17 => ?_) (fun h17 => ?_)
          · -- yes
            refine Ops.v (Yv.pick0 rfl rfl) ?_
            refine Ops.v (Yv.move rfl) ?_
            refine Ops.skip ⟨_, rfl, rfl⟩ ?_
            refine Ops.skip ⟨_, rfl, rfl⟩ ?_
            refine Ops.skip ⟨_, rfl, rfl⟩ ?_
            refine Ops.v (Yv.pick1 rfl rfl) ?_
            refine Ops.v (Yv.move rfl) ?_
            refine Ops.skip ⟨_, rfl, rfl⟩ ?_
            refine Ops.skip ⟨_, rfl, rfl⟩ ?_
            refine Ops.skip ⟨_, rfl, rfl⟩ ?_
            refine Ops.v (Yv.pick1 rfl rfl) ?_
            refine Ops.v (Yv.move rfl) ?_
            refine Ops.skip ⟨_, rfl, rfl⟩ ?_
            refine Ops.skip ⟨_, rfl, rfl⟩ ?_
            refine Ops.skip ⟨_, rfl, rfl⟩ ?_
            refine Ops.v (Yv.pick1 rfl rfl) ?_
            refine Ops.v (Yv.move rfl) ?_
            refine Ops.skip ⟨_, rfl, rfl⟩ ?_
            refine Ops.skip ⟨_, rfl, rfl⟩ ?_
            refine Ops.skip ⟨_, rfl, rfl⟩ ?_
            refine Ops.v (Yv.pick1 rfl rfl) ?_
            refine Ops.v (Yv.move rfl) ?_
            refine Ops.skip ⟨_, rfl, rfl⟩ ?_
            refine Ops.skip ⟨_, rfl, rfl⟩ ?_
            refine Ops.skip ⟨_, rfl, rfl⟩ ?_
            refine Ops.v (Yv.pick1 rfl rfl) ?_
            refine Ops.v (Yv.move rfl) ?_
            refine Ops.skip ⟨_, rfl, rfl⟩ ?_
            refine Ops.skip ⟨_, rfl, rfl⟩ ?_
            refine Ops.skip ⟨_, rfl, rfl⟩ ?_
            refine Ops.skip ⟨_, rfl, rfl⟩ ?_
            refine Ops.v (Yv.pick1 rfl rfl) ?_
            refine Ops.v (Yv.move rfl) ?_
            refine Ops.skip ⟨_, rfl, rfl⟩ ?_
            refine Ops.skip ⟨_, rfl, rfl⟩ ?_
            refine Ops.skip ⟨_, rfl, rfl⟩ ?_
            refine Ops.skip ⟨_, rfl, rfl⟩ ?_
            refine Ops.v (Yv.pick1 rfl rfl) ?_
            refine Ops.nil ?_
            refine ⟨hs13, Sub.le ⟨rfl, rfl, rfl, rfl, rfl, rfl, rfl, rfl, rfl, rfl, lookB rfl (by first | (simp only [h14, h15, h16, h17, ne_eq, not_true_eq_false, not_false_eq_true, or_true, true_or, or_false, false_or, and_true, true_and, and_false, false_and, decide_true, decide_false, or_self, and_self, Bool.decide_eq_true]; done) | simp [h14, h15, h16, h17]), trivial⟩⟩
          · -- no
            refine Ops.v (Yv.pick0 rfl rfl) ?_
            refine Ops.v (Yv.move rfl) ?_
            refine Ops.vg ⟨_, rfl, rfl⟩ (Yv.fld F29_1 rfl) ?_
            refine Ops.vg ⟨_, rfl, rfl⟩ (Yv.load A3 rfl (now (hs13.cell 1 rfl 1 rfl))) ?_
            refine Ops.vg ⟨_, rfl, rfl⟩ (Yv.gt rfl rfl) ?_
            refine Ops.dec (fun h18 => ?_) (fun h18 => ?_)
            · -- yes
              refine Ops.v (Yv.pick0 rfl rfl) ?_
              refine Ops.v (Yv.move rfl) ?_
              refine Ops.skip ⟨_, rfl, rfl⟩ ?_
              refine Ops.skip ⟨_, rfl, rfl⟩ ?_
              refine Ops.skip ⟨_, rfl, rfl⟩ ?_
              refine Ops.v (Yv.pick1 rfl rfl) ?_
              refine Ops.v (Yv.move rfl) ?_
              refine Ops.skip ⟨_, rfl, rfl⟩ ?_
              refine Ops.skip ⟨_, rfl, rfl⟩ ?_
              refine Ops.skip ⟨_, rfl, rfl⟩ ?_
              refine Ops.v (Yv.pick1 rfl rfl) ?_
              refine Ops.v (Yv.move rfl) ?_
              refine Ops.skip ⟨_, rfl, rfl⟩ ?_
              refine Ops.skip ⟨_, rfl, rfl⟩ ?_
              refine Ops.skip ⟨_, rfl, rfl⟩ ?_
              refine Ops.v (Yv.pick1 rfl rfl) ?_
              refine Ops.v (Yv.move rfl) ?_
              refine Ops.skip ⟨_, rfl, rfl⟩ ?_
              refine Ops.skip ⟨_, rfl, rfl⟩ ?_
              refine Ops.skip ⟨_, rfl, rfl⟩ ?_
              refine Ops.v (Yv.pick1 rfl rfl) ?_
              refine Ops.v (Yv.move rfl) ?_
              refine Ops.skip ⟨_, rfl, rfl⟩ ?_
              refine Ops.skip ⟨_, rfl, rfl⟩ ?_
              refine Ops.skip ⟨_, rfl, rfl⟩ ?_
              refine Ops.skip ⟨_, rfl, rfl⟩ ?_
              refine Ops.v (Yv.pick1 rfl rfl) ?_
              refine Ops.v (Yv.move rfl) ?_
              refine Ops.skip ⟨_, rfl, rfl⟩ ?_
              refine Ops.skip ⟨_, rfl, rfl⟩ ?_
              refine Ops.skip ⟨_, rfl, rfl⟩ ?_
              refine Ops.skip ⟨_, rfl, rfl⟩ ?_
              refine Ops.v (Yv.pick1 rfl rfl) ?_
              refine Ops.nil ?_
              refine ⟨hs13, Sub.le ⟨rfl, rfl, rfl, rfl, rfl, rfl, rfl, rfl, rfl, rfl, lookB rfl (by first | (simp only [h14, h15, h16, h17, h18, ne_eq, not_true_eq_false, not_false_eq_true, or_true, true_or, or_false, false_or, and_true, true_and, and_false, false_and, decide_true, decide_false, or_self, and_self, Bool.decide_eq_true]; done) | simp [h14, h15, h16, h17, h18]), trivial⟩⟩
            · -- no
              refine Ops.v (Yv.pick0 rfl rfl) ?_
              refine Ops.v (Yv.move rfl) ?_
              refine Ops.vg ⟨_, rfl, rfl⟩ (Yv.fld F29_2 rfl) ?_
              refine Ops.vg ⟨_, rfl, rfl⟩ (Yv.load A3 rfl (now (hs13.cell 1 rfl 2 rfl))) ?_
              refine Ops.vg ⟨_, rfl, rfl⟩ (Yv.lt rfl rfl) ?_
              refine Ops.dec (fun h19 => ?_) (fun h19 => ?_)
              · -- yes
                refine Ops.v (Yv.pick0 rfl rfl) ?_
                refine Ops.v (Yv.move rfl) ?_
                refine Ops.skip ⟨_, rfl, rfl⟩ ?_
                refine Ops.skip ⟨_, rfl, rfl⟩ ?_
                refine Ops.skip ⟨_, rfl, rfl⟩ ?_
                refine Ops.v (Yv.pick1 rfl rfl) ?_
                refine Ops.v (Yv.move rfl) ?_
                refine Ops.skip ⟨_, rfl, rfl⟩ ?_
                refine Ops.skip ⟨_, rfl, rfl⟩ ?_
                refine Ops.skip ⟨_, rfl, rfl⟩ ?_
                refine Ops.v (Yv.pick1 rfl rfl) ?_
                refine Ops.v (Yv.move rfl) ?_
                refine Ops.skip ⟨_, rfl, rfl⟩ ?_
                refine Ops.skip ⟨_, rfl, rfl⟩ ?_
                refine Ops.skip ⟨_, rfl, rfl⟩ ?_
                refine Ops.v (Yv.pick1 rfl rfl) ?_
                refine Ops.v (Yv.move rfl) ?_
                refine Ops.skip ⟨_, rfl, rfl⟩ ?_
                refine Ops.skip ⟨_, rfl, rfl⟩ ?_
                refine Ops.skip ⟨_, rfl, rfl⟩ ?_
                refine Ops.skip ⟨_, rfl, rfl⟩ ?_
                refine Ops.v (Yv.pick1 rfl rfl) ?_
                refine Ops.v (Yv.move rfl) ?_
                refine Ops.skip ⟨_, rfl, rfl⟩ ?_
                refine Ops.skip ⟨_, rfl, rfl⟩ ?_
                refine Ops.skip ⟨_, rfl, rfl⟩ ?_
                refine Ops.skip ⟨_, rfl, rfl⟩ ?_
                refine Ops.v (Yv.pick1 rfl rfl) ?_
                refine Ops.nil ?_
                refine ⟨hs13, Sub.le ⟨rfl, rfl, rfl, rfl, rfl, rfl, rfl, rfl, rfl, rfl, lookB rfl (by first | (simp only [h14, h15, h16, h17, h18, h19, ne_eq, not_true_eq_false, not_false_eq_true, or_true, true_or, or_false, false_or, and_true, true_and, and_false, false_and, decide_true, decide_false, or_self, and_self, Bool.decide_eq_true]; done) | simp [h14, h15, h16, h17, h18, h19]), trivial⟩⟩
              · -- no
                refine Ops.v (Yv.pick0 rfl rfl) ?_
                refine Ops.v (Yv.move rfl) ?_
                refine Ops.vg ⟨_, rfl, rfl⟩ (Yv.fld F29_2 rfl) ?_
                refine Ops.vg ⟨_, rfl, rfl⟩ (Yv.load A3 rfl (now (hs13.cell 1 rfl 2 rfl))) ?_
                refine Ops.vg ⟨_, rfl, rfl⟩ (Yv.gt rfl rfl) ?_
                refine Ops.dec (fun h20 => ?_) (fun h20 => ?_)
                · -- yes
                  refine Ops.v (Yv.pick0 rfl rfl) ?_
                  refine Ops.v (Yv.move rfl) ?_
                  refine Ops.skip ⟨_, rfl, rfl⟩ ?_
                  refine Ops.skip ⟨_, rfl, rfl⟩ ?_
                  refine Ops.skip ⟨_, rfl, rfl⟩ ?_
                  refine Ops.v (Yv.pick1 rfl rfl) ?_
                  refine Ops.v (Yv.move rfl) ?_
                  refine Ops.skip ⟨_, rfl, rfl⟩ ?_
                  refine Ops.skip ⟨_, rfl, rfl⟩ ?_
                  refine Ops.skip ⟨_, rfl, rfl⟩ ?_
                  refine Ops.v (Yv.pick1 rfl rfl) ?_
                  refine Ops.v (Yv.move rfl) ?_
                  refine Ops.skip ⟨_, rfl, rfl⟩ ?_
                  refine Ops.skip ⟨_, rfl, rfl⟩ ?_
                  refine Ops.skip ⟨_, rfl, rfl⟩ ?_
                  refine Ops.skip ⟨_, rfl, rfl⟩ ?_
                  refine Ops.v (Yv.pick1 rfl rfl) ?_
                  refine Ops.v (Yv.move rfl) ?_
                  refine Ops.skip ⟨_, rfl, rfl⟩ ?_
                  refine Ops.skip ⟨_, rfl, rfl⟩ ?_
                  refine Ops.skip ⟨_, rfl, rfl⟩ ?_
                  refine Ops.skip ⟨_, rfl, rfl⟩ ?_
                  refine Ops.v (Yv.pick1 rfl rfl) ?_
                  refine Ops.nil ?_
                  refine ⟨hs13, Sub.le ⟨rfl, rfl, rfl, rfl, rfl, rfl, rfl, rfl, rfl, rfl, lookB rfl (by first | (simp only [h14, h15, h16, h17, h18, h19, h20, ne_eq, not_true_eq_false, not_false_eq_true, or_true, true_or, or_false, false_or, and_true, true_and, and_false, false_and, decide_true, decide_false, or_self, and_self, Bool.decide_eq_true]; done) | simp [h14, h15, h16, h17, h18, h19, h20]), trivial⟩⟩
                · -- no
                  refine Ops.v (Yv.pick0 rfl rfl) ?_
                  refine Ops.v (Yv.move rfl) ?_
                  refine Ops.vg ⟨_, rfl, rfl⟩ (Yv.fld F29_3 rfl) ?_
                  refine Ops.vg ⟨_, rfl, rfl⟩ (Yv.load A3 rfl (now (hs13.cell 1 rfl 3 rfl))) ?_
                  refine Ops.vg ⟨_, rfl, rfl⟩ (Yv.lt rfl rfl) ?_
                  refine Ops.dec (fun h21 => ?_) (fun h21 => ?_)
                  · -- yes
                    refine Ops.v (Yv.pick0 rfl rfl) ?_
                    refine Ops.v (Yv.move rfl) ?_
                    refine Ops.skip ⟨_, rfl, rfl⟩ ?_
                    refine Ops.skip ⟨_, rfl, rfl⟩ ?_
                    refine Ops.skip ⟨_, rfl, rfl⟩ ?_
                    refine Ops.v (Yv.pick1 rfl rfl) ?_
                    refine Ops.v (Yv.move rfl) ?_
                    refine Ops.skip ⟨_, rfl, rfl⟩ ?_
                    refine Ops.skip ⟨_, rfl, rfl⟩ ?_
                    refine Ops.skip ⟨_, rfl, rfl⟩ ?_
                    refine Ops.skip ⟨_, rfl, rfl⟩ ?_
                    refine Ops.v (Yv.pick1 rfl rfl) ?_
                    refine Ops.v (Yv.move rfl) ?_
                    refine Ops.skip ⟨_, rfl, rfl⟩ ?_
                    refine Ops.skip ⟨_, rfl, rfl⟩ ?_
                    refine Ops.skip ⟨_, rfl, rfl⟩ ?_
                    refine Ops.skip ⟨_, rfl, rfl⟩ ?_
                    refine Ops.v (Yv.pick1 rfl rfl) ?_
                    refine Ops.nil ?_
                    refine ⟨hs13, Sub.le ⟨rfl, rfl, rfl, rfl, rfl, rfl, rfl, rfl, rfl, rfl, lookB rfl (by first | (simp only [h14, h15, h16, h17, h18, h19, h20, h21, ne_eq, not_true_eq_false, not_false_eq_true, or_true, true_or, or_false, false_or, and_true, true_and, and_false, false_and, decide_true, decide_false, or_self, and_self, Bool.decide_eq_true]; done) | simp [h14, h15, h16, h17, h18, h19, h20, h21]), trivial⟩⟩
                  · -- no
                    refine Ops.v (Yv.pick0 rfl rfl) ?_
                    refine Ops.v (Yv.move rfl) ?_
                    refine Ops.vg ⟨_, rfl, rfl⟩ (Yv.fld F29_3 rfl) ?_
                    refine Ops.vg ⟨_, rfl, rfl⟩ (Yv.load A3 rfl (now (hs13.cell 1 rfl 3 rfl))) ?_
                    refine Ops.vg ⟨_, rfl, rfl⟩ (Yv.gt rfl rfl) ?_
                    refine Ops.dec (fun h22 => ?_) (fun h22 => ?_)
                    · -- yes
                      refine Ops.v (Yv.pick0 rfl rfl) ?_
                      refine Ops.v (Yv.move rfl) ?_
                      refine Ops.skip ⟨_, rfl, rfl⟩ ?_
                      refine Ops.skip ⟨_, rfl, rfl⟩ ?_
                      refine Ops.skip ⟨_, rfl, rfl⟩ ?_
                      refine Ops.skip ⟨_, rfl, rfl⟩ ?_
                      refine Ops.v (Yv.pick1 rfl rfl) ?_
                      refine Ops.v (Yv.move rfl) ?_
                      refine Ops.skip ⟨_, rfl, rfl⟩ ?_
                      refine Ops.skip ⟨_, rfl, rfl⟩ ?_
                      refine Ops.skip ⟨_, rfl, rfl⟩ ?_
                      refine Ops.skip ⟨_, rfl, rfl⟩ ?_
                      refine Ops.v (Yv.pick1 rfl rfl) ?_
                      refine Ops.nil ?_
                      refine ⟨hs13, Sub.le ⟨rfl, rfl, rfl, rfl, rfl, rfl, rfl, rfl, rfl, rfl, lookB rfl (by first | (simp only [h14, h15, h16, h17, h18, h19, h20, h21, h22, ne_eq, not_true_eq_false, not_false_eq_true, or_true, true_or, or_false, false_or, and_true, true_and, and_false, false_and, decide_true, decide_false, or_self, and_self, Bool.decide_eq_true]; done) | simp [h14, h15, h16, h17, h18, h19, h20, h21, h22]), trivial⟩⟩
                    · -- no
                      refine Ops.v (Yv.pick0 rfl rfl) ?_
                      refine Ops.v (Yv.move rfl) ?_
                      refine Ops.vg ⟨_, rfl, rfl⟩ (Yv.fld F31_0 rfl) ?_
                      refine Ops.vg ⟨_, rfl, rfl⟩ (Yv.load A3 rfl (now (hs13.cell 0 rfl 0 rfl))) ?_
                      refine Ops.s (Step.call rfl rfl (part_fun) (?_) ⟨_, rfl, rfl⟩ (by rfl))
                      rintro _ _ ⟨rfl, rfl⟩
                      refine Ops.dec (fun h24 => ?_) (fun h24 => ?_)
                      · -- yes
                        refine Ops.vg ⟨_, rfl, rfl⟩ (Yv.not rfl) ?_
                        refine Ops.v (Yv.pick0 rfl rfl) ?_
                        refine Ops.v (Yv.move rfl) ?_
                        refine Ops.vg ⟨_, rfl, rfl⟩ (Yv.fld F31_1 rfl) ?_
                        refine Ops.vg ⟨_, rfl, rfl⟩ (Yv.load A3 rfl (now (hs13.cell 0 rfl 1 rfl))) ?_
                        refine Ops.s (Step.call rfl rfl (part_fun) (?_) ⟨_, rfl, rfl⟩ (by rfl))
                        rintro _ _ ⟨rfl, rfl⟩
                        refine Ops.vg ⟨_, rfl, rfl⟩ (Yv.notp rfl) ?_
                        refine Ops.v (Yv.pick0 rfl rfl) ?_
                        refine Ops.nil ?_
                        refine ⟨hs13, Sub.le ⟨rfl, rfl, rfl, rfl, rfl, rfl, rfl, rfl, rfl, rfl, lookB rfl (by first | (simp only [h14, h15, h16, h17, h18, h19, h20, h21, h22, h24, ne_eq, not_true_eq_false, not_false_eq_true, or_true, true_or, or_false, false_or, and_true, true_and, and_false, false_and, decide_true, decide_false, or_self, and_self, Bool.decide_eq_true]; done) | simp [h14, h15, h16, h17, h18, h19, h20, h21, h22, h24]), trivial⟩⟩
                      · -- no
                        refine Ops.vg ⟨_, rfl, rfl⟩ (Yv.not rfl) ?_
                        refine Ops.v (Yv.pick0 rfl rfl) ?_
                        refine Ops.v (Yv.move rfl) ?_
                        refine Ops.skip ⟨_, rfl, rfl⟩ ?_
                        refine Ops.skip ⟨_, rfl, rfl⟩ ?_
                        refine Ops.skip ⟨_, rfl, rfl⟩ ?_
                        refine Ops.skip ⟨_, rfl, rfl⟩ ?_
                        refine Ops.v (Yv.pick1 rfl rfl) ?_
                        refine Ops.nil ?_
                        refine ⟨hs13, Sub.le ⟨rfl, rfl, rfl, rfl, rfl, rfl, rfl, rfl, rfl, rfl, lookB rfl (by first | (simp only [h14, h15, h16, h17, h18, h19, h20, h21, h22, h24, ne_eq, not_true_eq_false, not_false_eq_true, or_true, true_or, or_false, false_or, and_true, true_and, and_false, false_and, decide_true, decide_false, or_self, and_self, Bool.decide_eq_true]; done) | simp [h14, h15, h16, h17, h18, h19, h20, h21, h22, h24]), trivial⟩⟩
  rintro e26 w26 ⟨hs26, he26⟩
  refine k12 _ _ ?_
  refine Run.le he26 ?_
  refine run_ifp rfl (fun h27 => ?_) (fun h27 => ?_)
  · -- yes (((((((((((wholeF W0 H0 m0 W1 H1 m1 W2 H2 m2) ≠ (0 : Int)) ∨ (X < (0 : Int))) ∨ ((1024 : Int) < X)) ∨ (Y < (0 : Int))) ∨ ((1024 : Int) < Y)) ∨ (bw < (4 : Int))) ∨ ((64 : Int) < bw)) ∨ (bh < (4 : Int))) ∨ ((64 : Int) < bh)) ∨ (¬ (-4095 ≤ vx ∧ vx ≤ 4095))) ∨ (¬ (-4095 ≤ vy ∧ vy ≤ 4095))
    refine run_seq fun K28 k28 => ?_
    refine run_region ?_
    refine Ops.v (Yv.assign rfl) ?_
    refine Ops.v (Yv.assign rfl) ?_
    refine Ops.nil ?_
    refine k28 _ _ ?_
    refine run_ret ?_
    refine ⟨[.slice none 0 0, .int .i64 2], ⟨_, _, rfl, rfl, ⟨_, _, rfl, rfl, rfl⟩⟩, ?_⟩
    obtain ⟨e1, e2⟩ := single_bad (W0 := W0) (H0 := H0) (m0 := m0) (W1 := W1) (H1 := H1) (m1 := m1) (W2 := W2) (H2 := H2) (m2 := m2) (xs0 := xs0) (xs1 := xs1) (xs2 := xs2) (n := 2) (X := X) (Y := Y) (bw := bw) (bh := bh) (vx := vx) (vy := vy) (kd := kd) (by unfold singleOk; omega)
    rw [e1, e2]
    exact ⟨none, 0, rfl, (hs26.pick [] [] (by decide) rfl).nilRow 5 1⟩
  · -- no
    refine run_skip ?_
    refine k11 _ _ ?_
    refine run_seq fun K29 k29 => ?_
    refine run_region ?_
    refine Ops.v (Yv.assign rfl) ?_
    refine Ops.nil ?_
    refine k29 _ _ ?_
    refine run_seq fun K30 k30 => ?_
    refine run_seq fun K31 k31 => ?_
    refine run_region ?_
    refine Ops.v (Yv.move rfl) ?_
    refine Ops.v ((Yv.eq rfl rfl).to (v := .bool false) (by rfl)) ?_
    refine Ops.nil ?_
    refine k31 _ _ ?_
    refine run_if0 rfl ?_
    refine run_skip ?_
    refine k30 _ _ ?_
    refine run_seq fun K32 k32 => ?_
    refine run_drawn [] (fun x => Below (w26.drew).heap.size (w26.drew) x) ?_ Tf.mixed (by kernel_rfl) (fun _ _ _ h => h)
    have hs33 := hs26.drew
    have hS34 := Below.refl (w26.drew).heap.size (w26.drew)
    refine Drw.a 0 rfl (by kernel_rfl) (Yv.move rfl) ?_
    refine Drw.a 1 rfl (by kernel_rfl) (Yv.fld F27_0 rfl) ?_
    refine Drw.a 2 rfl (by kernel_rfl) (Yv.idxa R25 rfl rfl (by decide) (by decide)) ?_
    refine Drw.l 3 rfl (by kernel_rfl) hS34 (Yv.loadn (cs := [.int .i64 W2, .int .i64 H2, .slice A2 m2 c2]) A24 S24 rfl (fun _ hq_ => ((hs33.grow hq_).cells 2 rfl 6 3))) ?_
    refine Drw.a 4 rfl (by kernel_rfl) (Yv.fld F29_0 rfl) ?_
    refine Drw.l 5 rfl (by kernel_rfl) hS34 (Yv.load A3 rfl (fun _ hq_ => ((hs33.grow hq_).cell 1 rfl 0 rfl))) ?_
    refine Drw.a 6 rfl (by kernel_rfl) (Yv.mul rfl rfl (by omega)) ?_
    refine Drw.a 7 rfl (by kernel_rfl) (Yv.move rfl) ?_
    refine Drw.a 8 rfl (by kernel_rfl) (Yv.fld F31_0 rfl) ?_
    refine Drw.l 9 rfl (by kernel_rfl) hS34 (Yv.load A3 rfl (fun _ hq_ => ((hs33.grow hq_).cell 0 rfl 0 rfl))) ?_
    refine Drw.a 10 rfl (by kernel_rfl) (Yv.mul rfl rfl (by omega)) ?_
    refine Drw.a 11 rfl (by kernel_rfl) (Yv.add rfl rfl (by omega)) ?_
    refine Drw.a 12 rfl (by kernel_rfl) (Yv.fld F29_1 rfl) ?_
    refine Drw.l 13 rfl (by kernel_rfl) hS34 (Yv.load A3 rfl (fun _ hq_ => ((hs33.grow hq_).cell 1 rfl 1 rfl))) ?_
    refine Drw.a 14 rfl (by kernel_rfl) (Yv.mul rfl rfl (by omega)) ?_
    refine Drw.a 15 rfl (by kernel_rfl) (Yv.move rfl) ?_
    refine Drw.a 16 rfl (by kernel_rfl) (Yv.fld F31_1 rfl) ?_
    refine Drw.l 17 rfl (by kernel_rfl) hS34 (Yv.load A3 rfl (fun _ hq_ => ((hs33.grow hq_).cell 0 rfl 1 rfl))) ?_
    refine Drw.a 18 rfl (by kernel_rfl) (Yv.mul rfl rfl (by omega)) ?_
    refine Drw.a 19 rfl (by kernel_rfl) (Yv.add rfl rfl (by omega)) ?_
    refine Drw.a 20 rfl (by kernel_rfl) (Yv.fld F29_2 rfl) ?_
    refine Drw.l 21 rfl (by kernel_rfl) hS34 (Yv.load A3 rfl (fun _ hq_ => ((hs33.grow hq_).cell 1 rfl 2 rfl))) ?_
    refine Drw.a 22 rfl (by kernel_rfl) (Yv.fld F29_3 rfl) ?_
    refine Drw.l 23 rfl (by kernel_rfl) hS34 (Yv.load A3 rfl (fun _ hq_ => ((hs33.grow hq_).cell 1 rfl 3 rfl))) ?_
    refine Drw.a 24 rfl (by kernel_rfl) (Yv.move rfl) ?_
    refine Drw.one 25 rfl (by kernel_rfl) (Step.call rfl rfl (rfetch_fun (hs33.rd hr2) hx2 (by omega)) (?_) True.intro (by rfl))
    rintro _ w38 ⟨Ad35, c36, rfl, hs38⟩
    have hS39 := HS.keepS hS34 (Nat.le_refl _) hs38
    refine ⟨fun _ _ => hS39, ?_⟩
    replace hs38 := hs33.call hs38
    refine Drw.a 26 rfl (by kernel_rfl) (Yv.extract rfl rfl) ?_
    refine Drw.a 27 rfl (by kernel_rfl) (Yv.extract rfl rfl) ?_
    refine Drw.a 28 rfl (by kernel_rfl) (Yv.assign rfl) ?_
    refine Drw.a 29 rfl (by kernel_rfl) (Yv.assign rfl) ?_
    refine Drw.done ?_ (by kernel_rfl)
    refine k32 _ _ ?_
    refine run_ret ?_
    refine ⟨[.slice Ad35 ((fetchOut xs2 W2 H2 m2 (((16 : Int) * X) + ((1 : Int) * vx)) (((16 : Int) * Y) + ((1 : Int) * vy)) bw bh kd).length) c36, .int .i64 (fetchE W2 H2 m2 (((16 : Int) * X) + ((1 : Int) * vx)) (((16 : Int) * Y) + ((1 : Int) * vy)) bw bh kd)], ⟨_, _, rfl, rfl, ⟨_, _, rfl, rfl, rfl⟩⟩, ?_⟩
    obtain ⟨e1, e2⟩ := single_ok (W0 := W0) (H0 := H0) (m0 := m0) (W1 := W1) (H1 := H1) (m1 := m1) (W2 := W2) (H2 := H2) (m2 := m2) (xs0 := xs0) (xs1 := xs1) (xs2 := xs2) (n := 2) (X := X) (Y := Y) (bw := bw) (bh := bh) (vx := vx) (vy := vy) (kd := kd) (by unfold singleOk; omega)
    rw [e1, e2]
    have hz := hs38.pick [0] [.row Ad35 ((fetchOut xs2 W2 H2 m2 (((16 : Int) * X) + ((1 : Int) * vx)) (((16 : Int) * Y) + ((1 : Int) * vy)) bw bh kd).length) c36 (u8s (fetchOut xs2 W2 H2 m2 (((16 : Int) * X) + ((1 : Int) * vx)) (((16 : Int) * Y) + ((1 : Int) * vy)) bw bh kd)) 5 1] (by decide) rfl
    exact ⟨Ad35, c36, (by rw [Int.one_mul, Int.one_mul]; rfl), hz.to (by rw [Int.one_mul, Int.one_mul]; rfl)⟩

set_option maxHeartbeats 2000000 in
theorem rsingle_x {w : World} {W0 H0 W1 H1 W2 H2 : Int} {A0 A1 A2 : Option Addr} {m0 m1 m2 c0 c1 c2 : Nat} {xs0 xs1 xs2 : List Int} (hr0 : Rd w A0 m0 1 (u8s xs0)) (hx0 : Bytes xs0) (hr1 : Rd w A1 m1 1 (u8s xs1)) (hx1 : Bytes xs1) (hr2 : Rd w A2 m2 1 (u8s xs2)) (hx2 : Bytes xs2) (hc0 : m0 ≤ c0) (hc1 : m1 ≤ c1) (hc2 : m2 ≤ c2) {X Y bw bh vx vy kd : Int} {n : Int} (hn : ¬ (0 ≤ n ∧ n ≤ 2)) : Fun Try.prog 13 [.agg #[.int .i64 W0, .int .i64 H0, .slice A0 m0 c0, .int .i64 W1, .int .i64 H1, .slice A1 m1 c1, .int .i64 W2, .int .i64 H2, .slice A2 m2 c2], .int .i64 n, .agg #[.int .i64 X, .int .i64 Y, .int .i64 bw, .int .i64 bh], .agg #[.int .i64 vx, .int .i64 vy], .int .i64 kd] w fun v w' => ∃ A' c', v = .tuple #[.slice A' (singleOut W0 H0 m0 W1 H1 m1 W2 H2 m2 xs0 xs1 xs2 n X Y bw bh vx vy kd).length c', .int .i64 (singleE W0 H0 m0 W1 H1 m1 W2 H2 m2 n X Y bw bh vx vy kd)] ∧ HS w [.row A' (singleOut W0 H0 m0 W1 H1 m1 W2 H2 m2 xs0 xs1 xs2 n X Y bw bh vx vy kd).length c' (u8s (singleOut W0 H0 m0 W1 H1 m1 W2 H2 m2 xs0 xs1 xs2 n X Y bw bh vx vy kd)) 5 1] w' := by
  refine fun_run (m := 106) (rs := [.tmp 10, .tmp 11]) Try.func13 rfl rfl rfl rfl rfl ?_
  have hs0 := HS.start w
  have hbig0 := hr0.big
  have hlen_xs0 : xs0.length = m0 := by have := hr0.len; rw [u8s_length] at this; omega
  have hbig1 := hr1.big
  have hlen_xs1 : xs1.length = m1 := by have := hr1.len; rw [u8s_length] at this; omega
  have hbig2 := hr2.big
  have hlen_xs2 : xs2.length = m2 := by have := hr2.len; rw [u8s_length] at this; omega
  refine run_seq fun K1 k1 => ?_
  refine run_region ?_
  refine Ops.s (Step.box (cs := [.int .i64 W0, .int .i64 H0, .slice A0 m0 c0, .int .i64 W1, .int .i64 H1, .slice A1 m1 c1, .int .i64 W2, .int .i64 H2, .slice A2 m2 c2]) hs0 rfl rfl (fun b2 w3 hs3 hb3 => ?_) True.intro (by rfl))
  refine Ops.s (Step.box (cs := [.int .i64 X, .int .i64 Y, .int .i64 bw, .int .i64 bh]) hs3 rfl rfl (fun b5 w6 hs6 hb6 => ?_) True.intro (by rfl))
  refine Ops.s (Step.box (cs := [.int .i64 vx, .int .i64 vy]) hs6 rfl rfl (fun b8 w9 hs9 hb9 => ?_) True.intro (by rfl))
  refine Ops.v (Yv.assign rfl) ?_
  refine Ops.v (Yv.assign rfl) ?_
  refine Ops.nil ?_
  refine k1 _ _ ?_
  refine run_seq fun K11 k11 => ?_
  refine run_seq fun K12 k12 => ?_
  refine Run.cut (fun e_ w_ => HS w [.blk b8 [.int .i64 vx, .int .i64 vy] 31, .blk b5 [.int .i64 X, .int .i64 Y, .int .i64 bw, .int .i64 bh] 29, .blk b2 [.int .i64 W0, .int .i64 H0, .slice A0 m0 c0, .int .i64 W1, .int .i64 H1, .slice A1 m1 c1, .int .i64 W2, .int .i64 H2, .slice A2 m2 c2] 27] w_ ∧ Le [(0, .agg #[.int .i64 W0, .int .i64 H0, .slice A0 m0 c0, .int .i64 W1, .int .i64 H1, .slice A1 m1 c1, .int .i64 W2, .int .i64 H2, .slice A2 m2 c2]), (1, .int .i64 n), (2, .agg #[.int .i64 X, .int .i64 Y, .int .i64 bw, .int .i64 bh]), (3, .agg #[.int .i64 vx, .int .i64 vy]), (4, .int .i64 kd), (5, .pointer (some ⟨b2, 0, none⟩)), (7, .pointer (some ⟨b5, 0, none⟩)), (8, .pointer (some ⟨b8, 0, none⟩)), (10, .slice none 0 0), (11, .int .i64 0), (75, .bool (decide ((((((((((((((wholeF W0 H0 m0 W1 H1 m1 W2 H2 m2) ≠ (0 : Int)) ∨ (n < (0 : Int))) ∨ ((2 : Int) < n)) ∨ (X < (0 : Int))) ∨ ((1024 : Int) < X)) ∨ (Y < (0 : Int))) ∨ ((1024 : Int) < Y)) ∨ (bw < (4 : Int))) ∨ ((64 : Int) < bw)) ∨ (bh < (4 : Int))) ∨ ((64 : Int) < bh)) ∨ (¬ (-4095 ≤ vx ∧ vx ≤ 4095))) ∨ (¬ (-4095 ≤ vy ∧ vy ≤ 4095)))))] e_) ?_ ?_
  · -- region 1: its ways meet again
    refine run_region' _ rfl ?_
    refine Ops.v (Yv.loadn (cs := [.int .i64 W0, .int .i64 H0, .slice A0 m0 c0, .int .i64 W1, .int .i64 H1, .slice A1 m1 c1, .int .i64 W2, .int .i64 H2, .slice A2 m2 c2]) A27 S27 rfl (now (hs9.cells 2 rfl 0 9))) ?_
    refine Ops.s (Step.call rfl rfl (rwhole_fun) (?_) True.intro (by rfl))
    rintro _ w13 ⟨rfl, hs13⟩
    replace hs13 := hs9.call hs13
    refine Ops.v (Yv.ne rfl rfl) ?_
    refine Ops.dec (fun h14 => ?_) (fun h14 => ?_)
    · -- yes
      refine Ops.v (Yv.move rfl) ?_
      refine Ops.skip ⟨_, rfl, rfl⟩ ?_
      refine Ops.skip ⟨_, rfl, rfl⟩ ?_
      refine Ops.v (Yv.pick1 rfl rfl) ?_
      refine Ops.v (Yv.move rfl) ?_
      refine Ops.skip ⟨_, rfl, rfl⟩ ?_
      refine Ops.skip ⟨_, rfl, rfl⟩ ?_
      refine Ops.v (Yv.pick1 rfl rfl) ?_
      refine Ops.v (Yv.move rfl) ?_
      refine Ops.skip ⟨_, rfl, rfl⟩ ?_
      refine Ops.skip ⟨_, rfl, rfl⟩ ?_
      refine Ops.skip ⟨_, rfl, rfl⟩ ?_
      refine Ops.v (Yv.pick1 rfl rfl) ?_
      refine Ops.v (Yv.move rfl) ?_
      refine Ops.skip ⟨_, rfl, rfl⟩ ?_
      refine Ops.skip ⟨_, rfl, rfl⟩ ?_
      refine Ops.skip ⟨_, rfl, rfl⟩ ?_
      refine Ops.v (Yv.pick1 rfl rfl) ?_
      refine Ops.v (Yv.move rfl) ?_
      refine Ops.skip ⟨_, rfl, rfl⟩ ?_
      refine Ops.skip ⟨_, rfl, rfl⟩ ?_
      refine Ops.skip ⟨_, rfl, rfl⟩ ?_
      refine Ops.v (Yv.pick1 rfl rfl) ?_
      refine Ops.v (Yv.move rfl) ?_
      refine Ops.skip ⟨_, rfl, rfl⟩ ?_
      refine Ops.skip ⟨_, rfl, rfl⟩ ?_
      refine Ops.skip ⟨_, rfl, rfl⟩ ?_
      refine Ops.v (Yv.pick1 rfl rfl) ?_
      refine Ops.v (Yv.move rfl) ?_
      refine Ops.skip ⟨_, rfl, rfl⟩ ?_
      refine Ops.skip ⟨_, rfl, rfl⟩ ?_
      refine Ops.skip ⟨_, rfl, rfl⟩ ?_
      refine Ops.v (Yv.pick1 rfl rfl) ?_
      refine Ops.v (Yv.move rfl) ?_
      refine Ops.skip ⟨_, rfl, rfl⟩ ?_
      refine Ops.skip ⟨_, rfl, rfl⟩ ?_
      refine Ops.skip ⟨_, rfl, rfl⟩ ?_
      refine Ops.v (Yv.pick1 rfl rfl) ?_
      refine Ops.v (Yv.move rfl) ?_
      refine Ops.skip ⟨_, rfl, rfl⟩ ?_
      refine Ops.skip ⟨_, rfl, rfl⟩ ?_
      refine Ops.skip ⟨_, rfl, rfl⟩ ?_
      refine Ops.v (Yv.pick1 rfl rfl) ?_
      refine Ops.v (Yv.move rfl) ?_
      refine Ops.skip ⟨_, rfl, rfl⟩ ?_
      refine Ops.skip ⟨_, rfl, rfl⟩ ?_
      refine Ops.skip ⟨_, rfl, rfl⟩ ?_
      refine Ops.v (Yv.pick1 rfl rfl) ?_
      refine Ops.v (Yv.move rfl) ?_
      refine Ops.skip ⟨_, rfl, rfl⟩ ?_
      refine Ops.skip ⟨_, rfl, rfl⟩ ?_
      refine Ops.skip ⟨_, rfl, rfl⟩ ?_
      refine Ops.skip ⟨_, rfl, rfl⟩ ?_
      refine Ops.v (Yv.pick1 rfl rfl) ?_
      refine Ops.v (Yv.move rfl) ?_
      refine Ops.skip ⟨_, rfl, rfl⟩ ?_
      refine Ops.skip ⟨_, rfl, rfl⟩ ?_
      refine Ops.skip ⟨_, rfl, rfl⟩ ?_
      refine Ops.skip ⟨_, rfl, rfl⟩ ?_
      refine Ops.v (Yv.pick1 rfl rfl) ?_
      refine Ops.nil ?_
      refine ⟨hs13, Sub.le ⟨rfl, rfl, rfl, rfl, rfl, rfl, rfl, rfl, rfl, rfl, lookB rfl (by first | (simp only [h14, ne_eq, not_true_eq_false, not_false_eq_true, or_true, true_or, or_false, false_or, and_true, true_and, and_false, false_and, decide_true, decide_false, or_self, and_self, Bool.decide_eq_true]; done) | simp [h14]), trivial⟩⟩
    · -- no
      refine Ops.v (Yv.move rfl) ?_
      refine Ops.vg ⟨_, rfl, rfl⟩ (Yv.move rfl) ?_
      refine Ops.vg ⟨_, rfl, rfl⟩ (Yv.lt rfl rfl) ?_
      refine Ops.dec (fun h15 => ?_) (fun h15 => ?_)
      · -- yes
        refine Ops.v (Yv.pick0 rfl rfl) ?_
        refine Ops.v (Yv.move rfl) ?_
        refine Ops.skip ⟨_, rfl, rfl⟩ ?_
        refine Ops.skip ⟨_, rfl, rfl⟩ ?_
        refine Ops.v (Yv.pick1 rfl rfl) ?_
        refine Ops.v (Yv.move rfl) ?_
        refine Ops.skip ⟨_, rfl, rfl⟩ ?_
        refine Ops.skip ⟨_, rfl, rfl⟩ ?_
        refine Ops.skip ⟨_, rfl, rfl⟩ ?_
        refine Ops.v (Yv.pick1 rfl rfl) ?_
        refine Ops.v (Yv.move rfl) ?_
        refine Ops.skip ⟨_, rfl, rfl⟩ ?_
        refine Ops.skip ⟨_, rfl, rfl⟩ ?_
        refine Ops.skip ⟨_, rfl, rfl⟩ ?_
        refine Ops.v (Yv.pick1 rfl rfl) ?_
        refine Ops.v (Yv.move rfl) ?_
        refine Ops.skip ⟨_, rfl, rfl⟩ ?_
        refine Ops.skip ⟨_, rfl, rfl⟩ ?_
        refine Ops.skip ⟨_, rfl, rfl⟩ ?_
        refine Ops.v (Yv.pick1 rfl rfl) ?_
        refine Ops.v (Yv.move rfl) ?_
        refine Ops.skip ⟨_, rfl, rfl⟩ ?_
        refine Ops.skip ⟨_, rfl, rfl⟩ ?_
        refine Ops.skip ⟨_, rfl, rfl⟩ ?_
        refine Ops.v (Yv.pick1 rfl rfl) ?_
        refine Ops.v (Yv.move rfl) ?_
        refine Ops.skip ⟨_, rfl, rfl⟩ ?_
        refine Ops.skip ⟨_, rfl, rfl⟩ ?_
        refine Ops.skip ⟨_, rfl, rfl⟩ ?_
        refine Ops.v (Yv.pick1 rfl rfl) ?_
        refine Ops.v (Yv.move rfl) ?_
        refine Ops.skip ⟨_, rfl, rfl⟩ ?_
        refine Ops.skip ⟨_, rfl, rfl⟩ ?_
        refine Ops.skip ⟨_, rfl, rfl⟩ ?_
        refine Ops.v (Yv.pick1 rfl rfl) ?_
        refine Ops.v (Yv.move rfl) ?_
        refine Ops.skip ⟨_, rfl, rfl⟩ ?_
        refine Ops.skip ⟨_, rfl, rfl⟩ ?_
        refine Ops.skip ⟨_, rfl, rfl⟩ ?_
        refine Ops.v (Yv.pick1 rfl rfl) ?_
        refine Ops.v (Yv.move rfl) ?_
        refine Ops.skip ⟨_, rfl, rfl⟩ ?_
        refine Ops.skip ⟨_, rfl, rfl⟩ ?_
        refine Ops.skip ⟨_, rfl, rfl⟩ ?_
        refine Ops.v (Yv.pick1 rfl rfl) ?_
        refine Ops.v (Yv.move rfl) ?_
        refine Ops.skip ⟨_, rfl, rfl⟩ ?_
        refine Ops.skip ⟨_, rfl, rfl⟩ ?_
        refine Ops.skip ⟨_, rfl, rfl⟩ ?_
        refine Ops.skip ⟨_, rfl, rfl⟩ ?_
        refine Ops.v (Yv.pick1 rfl rfl) ?_
        refine Ops.v (Yv.move rfl) ?_
        refine Ops.skip ⟨_, rfl, rfl⟩ ?_
        refine Ops.skip ⟨_, rfl, rfl⟩ ?_
        refine Ops.skip ⟨_, rfl, rfl⟩ ?_
        refine Ops.skip ⟨_, rfl, rfl⟩ ?_
        refine Ops.v (Yv.pick1 rfl rfl) ?_
        refine Ops.nil ?_
        refine ⟨hs13, Sub.le ⟨rfl, rfl, rfl, rfl, rfl, rfl, rfl, rfl, rfl, rfl, lookB rfl (by first | (simp only [h14, h15, ne_eq, not_true_eq_false, not_false_eq_true, or_true, true_or, or_false, false_or, and_true, true_and, and_false, false_and, decide_true, decide_false, or_self, and_self, Bool.decide_eq_true]; done) | simp [h14, h15]), trivial⟩⟩
      · -- no
        refine Ops.v (Yv.pick0 rfl rfl) ?_
        refine Ops.v (Yv.move rfl) ?_
        refine Ops.vg ⟨_, rfl, rfl⟩ (Yv.move rfl) ?_
        refine Ops.vg ⟨_, rfl, rfl⟩ (Yv.gt rfl rfl) ?_
        refine Ops.dec (fun h16 => ?_) (fun h16 => ?_)
        · -- yes
          refine Ops.v (Yv.pick0 rfl rfl) ?_
          refine Ops.v (Yv.move rfl) ?_
          refine Ops.skip ⟨_, rfl, rfl⟩ ?_
          refine Ops.skip ⟨_, rfl, rfl⟩ ?_
          refine Ops.skip ⟨_, rfl, rfl⟩ ?_
          refine Ops.v (Yv.pick1 rfl rfl) ?_
          refine Ops.v (Yv.move rfl) ?_
          refine Ops.skip ⟨_, rfl, rfl⟩ ?_
          refine Ops.skip ⟨_, rfl, rfl⟩ ?_
          refine Ops.skip ⟨_, rfl, rfl⟩ ?_
          refine Ops.v (Yv.pick1 rfl rfl) ?_
          refine Ops.v (Yv.move rfl) ?_
          refine Ops.skip ⟨_, rfl, rfl⟩ ?_
          refine Ops.skip ⟨_, rfl, rfl⟩ ?_
          refine Ops.skip ⟨_, rfl, rfl⟩ ?_
          refine Ops.v (Yv.pick1 rfl rfl) ?_
          refine Ops.v (Yv.move rfl) ?_
          refine Ops.skip ⟨_, rfl, rfl⟩ ?_
          refine Ops.skip ⟨_, rfl, rfl⟩ ?_
          refine Ops.skip ⟨_, rfl, rfl⟩ ?_
          refine Ops.v (Yv.pick1 rfl rfl) ?_
          refine Ops.v (Yv.move rfl) ?_
          refine Ops.skip ⟨_, rfl, rfl⟩ ?_
          refine Ops.skip ⟨_, rfl, rfl⟩ ?_
          refine Ops.skip ⟨_, rfl, rfl⟩ ?_
          refine Ops.v (Yv.pick1 rfl rfl) ?_
          refine Ops.v (Yv.move rfl) ?_
          refine Ops.skip ⟨_, rfl, rfl⟩ ?_
          refine Ops.skip ⟨_, rfl, rfl⟩ ?_
          refine Ops.skip ⟨_, rfl, rfl⟩ ?_
          refine Ops.v (Yv.pick1 rfl rfl) ?_
          refine Ops.v (Yv.move rfl) ?_
          refine Ops.skip ⟨_, rfl, rfl⟩ ?_
          refine Ops.skip ⟨_, rfl, rfl⟩ ?_
          refine Ops.skip ⟨_, rfl, rfl⟩ ?_
          refine Ops.v (Yv.pick1 rfl rfl) ?_
          refine Ops.v (Yv.move rfl) ?_
          refine Ops.skip ⟨_, rfl, rfl⟩ ?_
          refine Ops.skip ⟨_, rfl, rfl⟩ ?_
          refine Ops.skip ⟨_, rfl, rfl⟩ ?_
          refine Ops.v (Yv.pick1 rfl rfl) ?_
          refine Ops.v (Yv.move rfl) ?_
          refine Ops.skip ⟨_, rfl, rfl⟩ ?_
          refine Ops.skip ⟨_, rfl, rfl⟩ ?_
          refine Ops.skip ⟨_, rfl, rfl⟩ ?_
          refine Ops.skip ⟨_, rfl, rfl⟩ ?_
          refine Ops.v (Yv.pick1 rfl rfl) ?_
          refine Ops.v (Yv.move rfl) ?_
          refine Ops.skip ⟨_, rfl, rfl⟩ ?_
          refine Ops.skip ⟨_, rfl, rfl⟩ ?_
          refine Ops.skip ⟨_, rfl, rfl⟩ ?_
          refine Ops.skip ⟨_, rfl, rfl⟩ ?_
          refine Ops.v (Yv.pick1 rfl rfl) ?_
          refine Ops.nil ?_
          refine ⟨hs13, Sub.le ⟨rfl, rfl, rfl, rfl, rfl, rfl, rfl, rfl, rfl, rfl, lookB rfl (by first | (simp only [h14, h15, h16, ne_eq, not_true_eq_false, not_false_eq_true, or_true, true_or, or_false, false_or, and_true, true_and, and_false, false_and, decide_true, decide_false, or_self, and_self, Bool.decide_eq_true]; done) | simp [h14, h15, h16]), trivial⟩⟩
        · -- no
          refine Ops.v (Yv.pick0 rfl rfl) ?_
          refine Ops.v (Yv.move rfl) ?_
          refine Ops.vg ⟨_, rfl, rfl⟩ (Yv.fld F29_0 rfl) ?_
          refine Ops.vg ⟨_, rfl, rfl⟩ (Yv.load A3 rfl (now (hs13.cell 1 rfl 0 rfl))) ?_
          refine Ops.vg ⟨_, rfl, rfl⟩ (Yv.lt rfl rfl) ?_
          refine Ops.dec (fun h17 => ?_) (fun h17 => ?_)
          · -- yes
            refine Ops.v (Yv.pick0 rfl rfl) ?_
            refine Ops.v (Yv.move rfl) ?_
            refine Ops.skip ⟨_, rfl, rfl⟩ ?_
            refine Ops.skip ⟨_, rfl, rfl⟩ ?_
            refine Ops.skip ⟨_, rfl, rfl⟩ ?_
            refine Ops.v (Yv.pick1 rfl rfl) ?_
            refine Ops.v (Yv.move rfl) ?_
            refine Ops.skip ⟨_, rfl, rfl⟩ ?_
            refine Ops.skip ⟨_, rfl, rfl⟩ ?_
            refine Ops.skip ⟨_, rfl, rfl⟩ ?_
            refine Ops.v (Yv.pick1 rfl rfl) ?_
            refine Ops.v (Yv.move rfl) ?_
            refine Ops.skip ⟨_, rfl, rfl⟩ ?_
            refine Ops.skip ⟨_, rfl, rfl⟩ ?_
            refine Ops.skip ⟨_, rfl, rfl⟩ ?_
            refine Ops.v (Yv.pick1 rfl rfl) ?_
            refine Ops.v (Yv.move rfl) ?_
            refine Ops.skip ⟨_, rfl, rfl⟩ ?_
            refine Ops.skip ⟨_, rfl, rfl⟩ ?_
            refine Ops.skip ⟨_, rfl, rfl⟩ ?_
            refine Ops.v (Yv.pick1 rfl rfl) ?_
            refine Ops.v (Yv.move rfl) ?_
            refine Ops.skip ⟨_, rfl, rfl⟩ ?_
            refine Ops.skip ⟨_, rfl, rfl⟩ ?_
            refine Ops.skip ⟨_, rfl, rfl⟩ ?_
            refine Ops.v (Yv.pick1 rfl rfl) ?_
            refine Ops.v (Yv.move rfl) ?_
            refine Ops.skip ⟨_, rfl, rfl⟩ ?_
            refine Ops.skip ⟨_, rfl, rfl⟩ ?_
            refine Ops.skip ⟨_, rfl, rfl⟩ ?_
            refine Ops.v (Yv.pick1 rfl rfl) ?_
            refine Ops.v (Yv.move rfl) ?_
            refine Ops.skip ⟨_, rfl, rfl⟩ ?_
            refine Ops.skip ⟨_, rfl, rfl⟩ ?_
            refine Ops.skip ⟨_, rfl, rfl⟩ ?_
            refine Ops.v (Yv.pick1 rfl rfl) ?_
            refine Ops.v (Yv.move rfl) ?_
            refine Ops.skip ⟨_, rfl, rfl⟩ ?_
            refine Ops.skip ⟨_, rfl, rfl⟩ ?_
            refine Ops.skip ⟨_, rfl, rfl⟩ ?_
            refine Ops.skip ⟨_, rfl, rfl⟩ ?_
            refine Ops.v (Yv.pick1 rfl rfl) ?_
            refine Ops.v (Yv.move rfl) ?_
            refine Ops.skip ⟨_, rfl, rfl⟩ ?_
            refine Ops.skip ⟨_, rfl, rfl⟩ ?_
            refine Ops.skip ⟨_, rfl, rfl⟩ ?_
            refine Ops.skip ⟨_, rfl, rfl⟩ ?_
            refine Ops.v (Yv.pick1 rfl rfl) ?_
            refine Ops.nil ?_
            refine ⟨hs13, Sub.le ⟨rfl, rfl, rfl, rfl, rfl, rfl, rfl, rfl, rfl, rfl, lookB rfl (by first | (simp only [h14, h15, h16, h17, ne_eq, not_true_eq_false, not_false_eq_true, or_true, true_or, or_false, false_or, and_true, true_and, and_false, false_and, decide_true, decide_false, or_self, and_self, Bool.decide_eq_true]; done) | simp [h14, h15, h16, h17]), trivial⟩⟩
          · -- no
            refine Ops.v (Yv.pick0 rfl rfl) ?_
            refine Ops.v (Yv.move rfl) ?_
            refine Ops.vg ⟨_, rfl, rfl⟩ (Yv.fld F29_0 rfl) ?_
            refine Ops.vg ⟨_, rfl, rfl⟩ (Yv.load A3 rfl (now (hs13.cell 1 rfl 0 rfl))) ?_
            refine Ops.vg ⟨_, rfl, rfl⟩ (Yv.gt rfl rfl) ?_
            refine Ops.dec (fun h18 => ?_) (fun h18 => ?_)
            · -- yes
              refine Ops.v (Yv.pick0 rfl rfl) ?_
              refine Ops.v (Yv.move rfl) ?_
              refine Ops.skip ⟨_, rfl, rfl⟩ ?_
              refine Ops.skip ⟨_, rfl, rfl⟩ ?_
              refine Ops.skip ⟨_, rfl, rfl⟩ ?_
              refine Ops.v (Yv.pick1 rfl rfl) ?_
              refine Ops.v (Yv.move rfl) ?_
              refine Ops.skip ⟨_, rfl, rfl⟩ ?_
              refine Ops.skip ⟨_, rfl, rfl⟩ ?_
              refine Ops.skip ⟨_, rfl, rfl⟩ ?_
              refine Ops.v (Yv.pick1 rfl rfl) ?_
              refine Ops.v (Yv.move rfl) ?_
              refine Ops.skip ⟨_, rfl, rfl⟩ ?_
              refine Ops.skip ⟨_, rfl, rfl⟩ ?_
              refine Ops.skip ⟨_, rfl, rfl⟩ ?_
              refine Ops.v (Yv.pick1 rfl rfl) ?_
              refine Ops.v (Yv.move rfl) ?_
              refine Ops.skip ⟨_, rfl, rfl⟩ ?_
              refine Ops.skip ⟨_, rfl, rfl⟩ ?_
              refine Ops.skip ⟨_, rfl, rfl⟩ ?_
              refine Ops.v (Yv.pick1 rfl rfl) ?_
              refine Ops.v (Yv.move rfl) ?_
              refine Ops.skip ⟨_, rfl, rfl⟩ ?_
              refine Ops.skip ⟨_, rfl, rfl⟩ ?_
              refine Ops.skip ⟨_, rfl, rfl⟩ ?_
              refine Ops.v (Yv.pick1 rfl rfl) ?_
              refine Ops.v (Yv.move rfl) ?_
              refine Ops.skip ⟨_, rfl, rfl⟩ ?_
              refine Ops.skip ⟨_, rfl, rfl⟩ ?_
              refine Ops.skip ⟨_, rfl, rfl⟩ ?_
              refine Ops.v (Yv.pick1 rfl rfl) ?_
              refine Ops.v (Yv.move rfl) ?_
              refine Ops.skip ⟨_, rfl, rfl⟩ ?_
              refine Ops.skip ⟨_, rfl, rfl⟩ ?_
              refine Ops.skip ⟨_, rfl, rfl⟩ ?_
              refine Ops.skip ⟨_, rfl, rfl⟩ ?_
              refine Ops.v (Yv.pick1 rfl rfl) ?_
              refine Ops.v (Yv.move rfl) ?_
              refine Ops.skip ⟨_, rfl, rfl⟩ ?_
              refine Ops.skip ⟨_, rfl, rfl⟩ ?_
              refine Ops.skip ⟨_, rfl, rfl⟩ ?_
              refine Ops.skip ⟨_, rfl, rfl⟩ ?_
              refine Ops.v (Yv.pick1 rfl rfl) ?_
              refine Ops.nil ?_
              refine ⟨hs13, Sub.le ⟨rfl, rfl, rfl, rfl, rfl, rfl, rfl, rfl, rfl, rfl, lookB rfl (by first | (simp only [h14, h15, h16, h17, h18, ne_eq, not_true_eq_false, not_false_eq_true, or_true, true_or, or_false, false_or, and_true, true_and, and_false, false_and, decide_true, decide_false, or_self, and_self, Bool.decide_eq_true]; done) | simp [h14, h15, h16, h17, h18]), trivial⟩⟩
            · -- no
              refine Ops.v (Yv.pick0 rfl rfl) ?_
              refine Ops.v (Yv.move rfl) ?_
              refine Ops.vg ⟨_, rfl, rfl⟩ (Yv.fld F29_1 rfl) ?_
              refine Ops.vg ⟨_, rfl, rfl⟩ (Yv.load A3 rfl (now (hs13.cell 1 rfl 1 rfl))) ?_
              refine Ops.vg ⟨_, rfl, rfl⟩ (Yv.lt rfl rfl) ?_
              refine Ops.dec (fun h19 => ?_) (fun h19 => ?_)
              · -- yes
                refine Ops.v (Yv.pick0 rfl rfl) ?_
                refine Ops.v (Yv.move rfl) ?_
                refine Ops.skip ⟨_, rfl, rfl⟩ ?_
                refine Ops.skip ⟨_, rfl, rfl⟩ ?_
                refine Ops.skip ⟨_, rfl, rfl⟩ ?_
                refine Ops.v (Yv.pick1 rfl rfl) ?_
                refine Ops.v (Yv.move rfl) ?_
                refine Ops.skip ⟨_, rfl, rfl⟩ ?_
                refine Ops.skip ⟨_, rfl, rfl⟩ ?_
                refine Ops.skip ⟨_, rfl, rfl⟩ ?_
                refine Ops.v (Yv.pick1 rfl rfl) ?_
                refine Ops.v (Yv.move rfl) ?_
                refine Ops.skip ⟨_, rfl, rfl⟩ ?_
                refine Ops.skip ⟨_, rfl, rfl⟩ ?_
                refine Ops.skip ⟨_, rfl, rfl⟩ ?_
                refine Ops.v (Yv.pick1 rfl rfl) ?_
                refine Ops.v (Yv.move rfl) ?_
                refine Ops.skip ⟨_, rfl, rfl⟩ ?_
                refine Ops.skip ⟨_, rfl, rfl⟩ ?_
                refine Ops.skip ⟨_, rfl, rfl⟩ ?_
                refine Ops.v (Yv.pick1 rfl rfl) ?_
                refine Ops.v (Yv.move rfl) ?_
                refine Ops.skip ⟨_, rfl, rfl⟩ ?_
                refine Ops.skip ⟨_, rfl, rfl⟩ ?_
                refine Ops.skip ⟨_, rfl, rfl⟩ ?_
                refine Ops.v (Yv.pick1 rfl rfl) ?_
                refine Ops.v (Yv.move rfl) ?_
                refine Ops.skip ⟨_, rfl, rfl⟩ ?_
                refine Ops.skip ⟨_, rfl, rfl⟩ ?_
                refine Ops.skip ⟨_, rfl, rfl⟩ ?_
                refine Ops.skip ⟨_, rfl, rfl⟩ ?_
                refine Ops.v (Yv.pick1 rfl rfl) ?_
                refine Ops.v (Yv.move rfl) ?_
                refine Ops.skip ⟨_, rfl, rfl⟩ ?_
                refine Ops.skip ⟨_, rfl, rfl⟩ ?_
                refine Ops.skip ⟨_, rfl, rfl⟩ ?_
                refine Ops.skip ⟨_, rfl, rfl⟩ ?_
                refine Ops.v (Yv.pick1 rfl rfl) ?_
                refine Ops.nil ?_
                refine ⟨hs13, Sub.le ⟨rfl, rfl, rfl, rfl, rfl, rfl, rfl, rfl, rfl, rfl, lookB rfl (by first | (simp only [h14, h15, h16, h17, h18, h19, ne_eq, not_true_eq_false, not_false_eq_true, or_true, true_or, or_false, false_or, and_true, true_and, and_false, false_and, decide_true, decide_false, or_self, and_self, Bool.decide_eq_true]; done) | simp [h14, h15, h16, h17, h18, h19]), trivial⟩⟩
              · -- no
                refine Ops.v (Yv.pick0 rfl rfl) ?_
                refine Ops.v (Yv.move rfl) ?_
                refine Ops.vg ⟨_, rfl, rfl⟩ (Yv.fld F29_1 rfl) ?_
                refine Ops.vg ⟨_, rfl, rfl⟩ (Yv.load A3 rfl (now (hs13.cell 1 rfl 1 rfl))) ?_
                refine Ops.vg ⟨_, rfl, rfl⟩ (Yv.gt rfl rfl) ?_
                refine Ops.dec (fun h20 => ?_) (fun h20 => ?_)
                · -- yes
                  refine Ops.v (Yv.pick0 rfl rfl) ?_
                  refine Ops.v (Yv.move rfl) ?_
                  refine Ops.skip ⟨_, rfl, rfl⟩ ?_
                  refine Ops.skip ⟨_, rfl, rfl⟩ ?_
                  refine Ops.skip ⟨_, rfl, rfl⟩ ?_
                  refine Ops.v (Yv.pick1 rfl rfl) ?_
                  refine Ops.v (Yv.move rfl) ?_
                  refine Ops.skip ⟨_, rfl, rfl⟩ ?_
                  refine Ops.skip ⟨_, rfl, rfl⟩ ?_
                  refine Ops.skip ⟨_, rfl, rfl⟩ ?_
                  refine Ops.v (Yv.pick1 rfl rfl) ?_
                  refine Ops.v (Yv.move rfl) ?_
                  refine Ops.skip ⟨_, rfl, rfl⟩ ?_
                  refine Ops.skip ⟨_, rfl, rfl⟩ ?_
                  refine Ops.skip ⟨_, rfl, rfl⟩ ?_
                  refine Ops.v (Yv.pick1 rfl rfl) ?_
                  refine Ops.v (Yv.move rfl) ?_
                  refine Ops.skip ⟨_, rfl, rfl⟩ ?_
                  refine Ops.skip ⟨_, rfl, rfl⟩ ?_
                  refine Ops.skip ⟨_, rfl, rfl⟩ ?_
                  refine Ops.v (Yv.pick1 rfl rfl) ?_
                  refine Ops.v (Yv.move rfl) ?_
                  refine Ops.skip ⟨_, rfl, rfl⟩ ?_
                  refine Ops.skip ⟨_, rfl, rfl⟩ ?_
                  refine Ops.skip ⟨_, rfl, rfl⟩ ?_
                  refine Ops.skip ⟨_, rfl, rfl⟩ ?_
                  refine Ops.v (Yv.pick1 rfl rfl) ?_
                  refine Ops.v (Yv.move rfl) ?_
                  refine Ops.skip ⟨_, rfl, rfl⟩ ?_
                  refine Ops.skip ⟨_, rfl, rfl⟩ ?_
                  refine Ops.skip ⟨_, rfl, rfl⟩ ?_
                  refine Ops.skip ⟨_, rfl, rfl⟩ ?_
                  refine Ops.v (Yv.pick1 rfl rfl) ?_
                  refine Ops.nil ?_
                  refine ⟨hs13, Sub.le ⟨rfl, rfl, rfl, rfl, rfl, rfl, rfl, rfl, rfl, rfl, lookB rfl (by first | (simp only [h14, h15, h16, h17, h18, h19, h20, ne_eq, not_true_eq_false, not_false_eq_true, or_true, true_or, or_false, false_or, and_true, true_and, and_false, false_and, decide_true, decide_false, or_self, and_self, Bool.decide_eq_true]; done) | simp [h14, h15, h16, h17, h18, h19, h20]), trivial⟩⟩
                · -- no
                  refine Ops.v (Yv.pick0 rfl rfl) ?_
                  refine Ops.v (Yv.move rfl) ?_
                  refine Ops.vg ⟨_, rfl, rfl⟩ (Yv.fld F29_2 rfl) ?_
                  refine Ops.vg ⟨_, rfl, rfl⟩ (Yv.load A3 rfl (now (hs13.cell 1 rfl 2 rfl))) ?_
                  refine Ops.vg ⟨_, rfl, rfl⟩ (Yv.lt rfl rfl) ?_
                  refine Ops.dec (fun h21 => ?_) (fun h21 => ?_)
                  · -- yes
                    refine Ops.v (Yv.pick0 rfl rfl) ?_
                    refine Ops.v (Yv.move rfl) ?_
                    refine Ops.skip ⟨_, rfl, rfl⟩ ?_
                    refine Ops.skip ⟨_, rfl, rfl⟩ ?_
                    refine Ops.skip ⟨_, rfl, rfl⟩ ?_
                    refine Ops.v (Yv.pick1 rfl rfl) ?_
                    refine Ops.v (Yv.move rfl) ?_
                    refine Ops.skip ⟨_, rfl, rfl⟩ ?_
                    refine Ops.skip ⟨_, rfl, rfl⟩ ?_
                    refine Ops.skip ⟨_, rfl, rfl⟩ ?_
                    refine Ops.v (Yv.pick1 rfl rfl) ?_
                    refine Ops.v (Yv.move rfl) ?_
                    refine Ops.skip ⟨_, rfl, rfl⟩ ?_
                    refine Ops.skip ⟨_, rfl, rfl⟩ ?_
                    refine Ops.skip ⟨_, rfl, rfl⟩ ?_
                    refine Ops.v (Yv.pick1 rfl rfl) ?_
                    refine Ops.v (Yv.move rfl) ?_
                    refine Ops.skip ⟨_, rfl, rfl⟩ ?_
                    refine Ops.skip ⟨_, rfl, rfl⟩ ?_
                    refine Ops.skip ⟨_, rfl, rfl⟩ ?_
                    refine Ops.skip ⟨_, rfl, rfl⟩ ?_
                    refine Ops.v (Yv.pick1 rfl rfl) ?_
                    refine Ops.v (Yv.move rfl) ?_
                    refine Ops.skip ⟨_, rfl, rfl⟩ ?_
                    refine Ops.skip ⟨_, rfl, rfl⟩ ?_
                    refine Ops.skip ⟨_, rfl, rfl⟩ ?_
                    refine Ops.skip ⟨_, rfl, rfl⟩ ?_
                    refine Ops.v (Yv.pick1 rfl rfl) ?_
                    refine Ops.nil ?_
                    refine ⟨hs13, Sub.le ⟨rfl, rfl, rfl, rfl, rfl, rfl, rfl, rfl, rfl, rfl, lookB rfl (by first | (simp only [h14, h15, h16, h17, h18, h19, h20, h21, ne_eq, not_true_eq_false, not_false_eq_true, or_true, true_or, or_false, false_or, and_true, true_and, and_false, false_and, decide_true, decide_false, or_self, and_self, Bool.decide_eq_true]; done) | simp [h14, h15, h16, h17, h18, h19, h20, h21]), trivial⟩⟩
                  · -- no
                    refine Ops.v (Yv.pick0 rfl rfl) ?_
                    refine Ops.v (Yv.move rfl) ?_
                    refine Ops.vg ⟨_, rfl, rfl⟩ (Yv.fld F29_2 rfl) ?_
                    refine Ops.vg ⟨_, rfl, rfl⟩ (Yv.load A3 rfl (now (hs13.cell 1 rfl 2 rfl))) ?_
                    refine Ops.vg ⟨_, rfl, rfl⟩ (Yv.gt rfl rfl) ?_
                    refine Ops.dec (fun h22 => ?_) (fun h22 => ?_)
                    · -- yes
                      refine Ops.v (Yv.pick0 rfl rfl) ?_
                      refine Ops.v (Yv.move rfl) ?_
                      refine Ops.skip ⟨_, rfl, rfl⟩ ?_
                      refine Ops.skip ⟨_, rfl, rfl⟩ ?_
                      refine Ops.skip ⟨_, rfl, rfl⟩ ?_
                      refine Ops.v (Yv.pick1 rfl rfl) ?_
                      refine Ops.v (Yv.move rfl) ?_
                      refine Ops.skip ⟨_, rfl, rfl⟩ ?_
                      refine Ops.skip ⟨_, rfl, rfl⟩ ?_
                      refine Ops.skip ⟨_, rfl, rfl⟩ ?_
                      refine Ops.v (Yv.pick1 rfl rfl) ?_
                      refine Ops.v (Yv.move rfl) ?_
                      refine Ops.skip ⟨_, rfl, rfl⟩ ?_
                      refine Ops.skip ⟨_, rfl, rfl⟩ ?_
                      refine Ops.skip ⟨_, rfl, rfl⟩ ?_
                      refine Ops.skip ⟨_, rfl, rfl⟩ ?_
                      refine Ops.v (Yv.pick1 rfl rfl) ?_
                      refine Ops.v (Yv.move rfl) ?_
                      refine Ops.skip ⟨_, rfl, rfl⟩ ?_
                      refine Ops.skip ⟨_, rfl, rfl⟩ ?_
                      refine Ops.skip ⟨_, rfl, rfl⟩ ?_
                      refine Ops.skip ⟨_, rfl, rfl⟩ ?_
                      refine Ops.v (Yv.pick1 rfl rfl) ?_
                      refine Ops.nil ?_
                      refine ⟨hs13, Sub.le ⟨rfl, rfl, rfl, rfl, rfl, rfl, rfl, rfl, rfl, rfl, lookB rfl (by first | (simp only [h14, h15, h16, h17, h18, h19, h20, h21, h22, ne_eq, not_true_eq_false, not_false_eq_true, or_true, true_or, or_false, false_or, and_true, true_and, and_false, false_and, decide_true, decide_false, or_self, and_self, Bool.decide_eq_true]; done) | simp [h14, h15, h16, h17, h18, h19, h20, h21, h22]), trivial⟩⟩
                    · -- no
                      refine Ops.v (Yv.pick0 rfl rfl) ?_
                      refine Ops.v (Yv.move rfl) ?_
                      refine Ops.vg ⟨_, rfl, rfl⟩ (Yv.fld F29_3 rfl) ?_
                      refine Ops.vg ⟨_, rfl, rfl⟩ (Yv.load A3 rfl (now (hs13.cell 1 rfl 3 rfl))) ?_
                      refine Ops.vg ⟨_, rfl, rfl⟩ (Yv.lt rfl rfl) ?_
                      refine Ops.dec (fun h23 => ?_) (fun h23 => ?_)
                      · -- yes
                        refine Ops.v (Yv.pick0 rfl rfl) ?_
                        refine Ops.v (Yv.move rfl) ?_
                        refine Ops.skip ⟨_, rfl, rfl⟩ ?_
                        refine Ops.skip ⟨_, rfl, rfl⟩ ?_
                        refine Ops.skip ⟨_, rfl, rfl⟩ ?_
                        refine Ops.v (Yv.pick1 rfl rfl) ?_
                        refine Ops.v (Yv.move rfl) ?_
                        refine Ops.skip ⟨_, rfl, rfl⟩ ?_
                        refine Ops.skip ⟨_, rfl, rfl⟩ ?_
                        refine Ops.skip ⟨_, rfl, rfl⟩ ?_
                        refine Ops.skip ⟨_, rfl, rfl⟩ ?_
                        refine Ops.v (Yv.pick1 rfl rfl) ?_
                        refine Ops.v (Yv.move rfl) ?_
                        refine Ops.skip ⟨_, rfl, rfl⟩ ?_
                        refine Ops.skip ⟨_, rfl, rfl⟩ ?_
                        refine Ops.skip ⟨_, rfl, rfl⟩ ?_
                        refine Ops.skip ⟨_, rfl, rfl⟩ ?_
                        refine Ops.v (Yv.pick1 rfl rfl) ?_
                        refine Ops.nil ?_
                        refine ⟨hs13, Sub.le ⟨rfl, rfl, rfl, rfl, rfl, rfl, rfl, rfl, rfl, rfl, lookB rfl (by first | (simp only [h14, h15, h16, h17, h18, h19, h20, h21, h22, h23, ne_eq, not_true_eq_false, not_false_eq_true, or_true, true_or, or_false, false_or, and_true, true_and, and_false, false_and, decide_true, decide_false, or_self, and_self, Bool.decide_eq_true]; done) | simp [h14, h15, h16, h17, h18, h19, h20, h21, h22, h23]), trivial⟩⟩
                      · -- no
                        refine Ops.v (Yv.pick0 rfl rfl) ?_
                        refine Ops.v (Yv.move rfl) ?_
                        refine Ops.vg ⟨_, rfl, rfl⟩ (Yv.fld F29_3 rfl) ?_
                        refine Ops.vg ⟨_, rfl, rfl⟩ (Yv.load A3 rfl (now (hs13.cell 1 rfl 3 rfl))) ?_
                        refine Ops.vg ⟨_, rfl, rfl⟩ (Yv.gt rfl rfl) ?_
                        refine Ops.dec (fun h24 => ?_) (fun h24 => ?_)
                        · -- yes
                          refine Ops.v (Yv.pick0 rfl rfl) ?_
                          refine Ops.v (Yv.move rfl) ?_
                          refine Ops.skip ⟨_, rfl, rfl⟩ ?_
                          refine Ops.skip ⟨_, rfl, rfl⟩ ?_
                          refine Ops.skip ⟨_, rfl, rfl⟩ ?_
                          refine Ops.skip ⟨_, rfl, rfl⟩ ?_
                          refine Ops.v (Yv.pick1 rfl rfl) ?_
                          refine Ops.v (Yv.move rfl) ?_
                          refine Ops.skip ⟨_, rfl, rfl⟩ ?_
                          refine Ops.skip ⟨_, rfl, rfl⟩ ?_
                          refine Ops.skip ⟨_, rfl, rfl⟩ ?_
                          refine Ops.skip ⟨_, rfl, rfl⟩ ?_
                          refine Ops.v (Yv.pick1 rfl rfl) ?_
                          refine Ops.nil ?_
                          refine ⟨hs13, Sub.le ⟨rfl, rfl, rfl, rfl, rfl, rfl, rfl, rfl, rfl, rfl, lookB rfl (by first | (simp only [h14, h15, h16, h17, h18, h19, h20, h21, h22, h23, h24, ne_eq, not_true_eq_false, not_false_eq_true, or_true, true_or, or_false, false_or, and_true, true_and, and_false, false_and, decide_true, decide_false, or_self, and_self, Bool.decide_eq_true]; done) | simp [h14, h15, h16, h17, h18, h19, h20, h21, h22, h23, h24]), trivial⟩⟩
                        · -- no
                          refine Ops.v (Yv.pick0 rfl rfl) ?_
                          refine Ops.v (Yv.move rfl) ?_
                          refine Ops.vg ⟨_, rfl, rfl⟩ (Yv.fld F31_0 rfl) ?_
                          refine Ops.vg ⟨_, rfl, rfl⟩ (Yv.load A3 rfl (now (hs13.cell 0 rfl 0 rfl))) ?_
                          refine Ops.s (Step.call rfl rfl (part_fun) (?_) ⟨_, rfl, rfl⟩ (by rfl))
                          rintro _ _ ⟨rfl, rfl⟩
                          refine Ops.dec (fun h26 => ?_) (fun h26 => ?_)
                          · -- yes
                            refine Ops.vg ⟨_, rfl, rfl⟩ (Yv.not rfl) ?_
                            refine Ops.v (Yv.pick0 rfl rfl) ?_
                            refine Ops.v (Yv.move rfl) ?_
                            refine Ops.vg ⟨_, rfl, rfl⟩ (Yv.fld F31_1 rfl) ?_
                            refine Ops.vg ⟨_, rfl, rfl⟩ (Yv.load A3 rfl (now (hs13.cell 0 rfl 1 rfl))) ?_
                            refine Ops.s (Step.call rfl rfl (part_fun) (?_) ⟨_, rfl, rfl⟩ (by rfl))
                            rintro _ _ ⟨rfl, rfl⟩
                            refine Ops.vg ⟨_, rfl, rfl⟩ (Yv.notp rfl) ?_
                            refine Ops.v (Yv.pick0 rfl rfl) ?_
                            refine Ops.nil ?_
                            refine ⟨hs13, Sub.le ⟨rfl, rfl, rfl, rfl, rfl, rfl, rfl, rfl, rfl, rfl, lookB rfl (by first | (simp only [h14, h15, h16, h17, h18, h19, h20, h21, h22, h23, h24, h26, ne_eq, not_true_eq_false, not_false_eq_true, or_true, true_or, or_false, false_or, and_true, true_and, and_false, false_and, decide_true, decide_false, or_self, and_self, Bool.decide_eq_true]; done) | simp [h14, h15, h16, h17, h18, h19, h20, h21, h22, h23, h24, h26]), trivial⟩⟩
                          · -- no
                            refine Ops.vg ⟨_, rfl, rfl⟩ (Yv.not rfl) ?_
                            refine Ops.v (Yv.pick0 rfl rfl) ?_
                            refine Ops.v (Yv.move rfl) ?_
                            refine Ops.skip ⟨_, rfl, rfl⟩ ?_
                            refine Ops.skip ⟨_, rfl, rfl⟩ ?_
                            refine Ops.skip ⟨_, rfl, rfl⟩ ?_
                            refine Ops.skip ⟨_, rfl, rfl⟩ ?_
                            refine Ops.v (Yv.pick1 rfl rfl) ?_
                            refine Ops.nil ?_
                            refine ⟨hs13, Sub.le ⟨rfl, rfl, rfl, rfl, rfl, rfl, rfl, rfl, rfl, rfl, lookB rfl (by first | (simp only [h14, h15, h16, h17, h18, h19, h20, h21, h22, h23, h24, h26, ne_eq, not_true_eq_false, not_false_eq_true, or_true, true_or, or_false, false_or, and_true, true_and, and_false, false_and, decide_true, decide_false, or_self, and_self, Bool.decide_eq_true]; done) | simp [h14, h15, h16, h17, h18, h19, h20, h21, h22, h23, h24, h26]), trivial⟩⟩
  rintro e28 w28 ⟨hs28, he28⟩
  refine k12 _ _ ?_
  refine Run.le he28 ?_
  refine run_ifp rfl (fun _ => ?_) (fun hx => absurd (by omega) hx)
  refine run_seq fun K29 k29 => ?_
  refine run_region ?_
  refine Ops.v (Yv.assign rfl) ?_
  refine Ops.v (Yv.assign rfl) ?_
  refine Ops.nil ?_
  refine k29 _ _ ?_
  refine run_ret ?_
  refine ⟨[.slice none 0 0, .int .i64 2], ⟨_, _, rfl, rfl, ⟨_, _, rfl, rfl, rfl⟩⟩, ?_⟩
  obtain ⟨e1, e2⟩ := single_bad (W0 := W0) (H0 := H0) (m0 := m0) (W1 := W1) (H1 := H1) (m1 := m1) (W2 := W2) (H2 := H2) (m2 := m2) (xs0 := xs0) (xs1 := xs1) (xs2 := xs2) (n := n) (X := X) (Y := Y) (bw := bw) (bh := bh) (vx := vx) (vy := vy) (kd := kd) (by unfold singleOk; omega)
  rw [e1, e2]
  exact ⟨none, 0, rfl, (hs28.pick [] [] (by decide) rfl).nilRow 5 1⟩

theorem rsingle_fun {w : World} {W0 H0 W1 H1 W2 H2 : Int} {A0 A1 A2 : Option Addr} {m0 m1 m2 c0 c1 c2 : Nat} {xs0 xs1 xs2 : List Int} (hr0 : Rd w A0 m0 1 (u8s xs0)) (hx0 : Bytes xs0) (hr1 : Rd w A1 m1 1 (u8s xs1)) (hx1 : Bytes xs1) (hr2 : Rd w A2 m2 1 (u8s xs2)) (hx2 : Bytes xs2) (hc0 : m0 ≤ c0) (hc1 : m1 ≤ c1) (hc2 : m2 ≤ c2) {X Y bw bh vx vy kd : Int} {n : Int} : Fun Try.prog 13 [.agg #[.int .i64 W0, .int .i64 H0, .slice A0 m0 c0, .int .i64 W1, .int .i64 H1, .slice A1 m1 c1, .int .i64 W2, .int .i64 H2, .slice A2 m2 c2], .int .i64 n, .agg #[.int .i64 X, .int .i64 Y, .int .i64 bw, .int .i64 bh], .agg #[.int .i64 vx, .int .i64 vy], .int .i64 kd] w fun v w' => ∃ A' c', v = .tuple #[.slice A' (singleOut W0 H0 m0 W1 H1 m1 W2 H2 m2 xs0 xs1 xs2 n X Y bw bh vx vy kd).length c', .int .i64 (singleE W0 H0 m0 W1 H1 m1 W2 H2 m2 n X Y bw bh vx vy kd)] ∧ HS w [.row A' (singleOut W0 H0 m0 W1 H1 m1 W2 H2 m2 xs0 xs1 xs2 n X Y bw bh vx vy kd).length c' (u8s (singleOut W0 H0 m0 W1 H1 m1 W2 H2 m2 xs0 xs1 xs2 n X Y bw bh vx vy kd)) 5 1] w' := by
  by_cases h : 0 ≤ n ∧ n ≤ 2
  · have h3 : n = 0 ∨ n = 1 ∨ n = 2 := by omega
    rcases h3 with rfl | rfl | rfl
    · exact rsingle_0 hr0 hx0 hr1 hx1 hr2 hx2 hc0 hc1 hc2
    · exact rsingle_1 hr0 hx0 hr1 hx1 hr2 hx2 hc0 hc1 hc2
    · exact rsingle_2 hr0 hx0 hr1 hx1 hr2 hx2 hc0 hc1 hc2
  · exact rsingle_x hr0 hx0 hr1 hx1 hr2 hx2 hc0 hc1 hc2 h

end Go.Proofs.Zed
