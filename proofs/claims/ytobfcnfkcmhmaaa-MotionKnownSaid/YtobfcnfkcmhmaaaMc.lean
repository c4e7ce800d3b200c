/- The walks of what motion (chapter 15) and its reference share: weights, pairs, what is told. -/
import Derived.Test.YtobfcnfkcmhmaaaZt
import Derived.Test.YtobfcnfkcmhmaaaMs
set_option linter.unusedVariables false
set_option linter.unusedSimpArgs false
namespace Go.Proofs.Zed
open Go Go.RowKit Tf
attribute [local irreducible] Try.prog

theorem bring_fun {w : World} {i n : Int} (hn : n ≤ 1000000000) : Fun Try.prog 30 [.int .i64 i, .int .i64 n] w fun v w' => v = .int .i64 (bringF i n) ∧ w = w' := by
  refine fun_run (m := 16) (rs := [.tmp 4]) Try.func30 rfl rfl rfl rfl rfl ?_
  have hs0 := HS.start w
  refine run_seq fun K1 k1 => ?_
  refine run_region ?_
  refine Ops.v (Yv.assign rfl) ?_
  refine Ops.nil ?_
  refine k1 _ _ ?_
  refine run_seq fun K2 k2 => ?_
  refine run_seq fun K3 k3 => ?_
  refine run_region ?_
  refine Ops.v (Yv.move rfl) ?_
  refine Ops.v (Yv.le rfl rfl) ?_
  refine Ops.nil ?_
  refine k3 _ _ ?_
  refine run_ifp rfl (fun h4 => ?_) (fun h4 => ?_)
  · -- yes n ≤ (0 : Int)
    refine run_seq fun K5 k5 => ?_
    refine run_region ?_
    refine Ops.v (Yv.assign rfl) ?_
    refine Ops.nil ?_
    refine k5 _ _ ?_
    refine run_ret ?_
    refine ⟨[.int .i64 0], ⟨_, _, rfl, rfl, rfl⟩, ?_⟩
    exact ⟨by rw [bringF, if_pos h4], rfl⟩
  · -- no
    refine run_skip ?_
    refine k2 _ _ ?_
    refine run_seq fun K6 k6 => ?_
    refine run_region ?_
    refine Ops.v (Yv.move rfl) ?_
    refine Ops.v (Yv.move rfl) ?_
    refine Ops.v (Yv.remt rfl rfl (by omega)) ?_
    refine Ops.v (Yv.assign rfl) ?_
    refine Ops.nil ?_
    refine k6 _ _ ?_
    refine run_seq fun K7 k7 => ?_
    refine run_seq fun K8 k8 => ?_
    refine run_region ?_
    have htm := tmod_bd (i := i) (n := n) (by omega)
    refine Ops.v (Yv.move rfl) ?_
    refine Ops.v (Yv.lt rfl rfl) ?_
    refine Ops.nil ?_
    refine k8 _ _ ?_
    refine run_ifp rfl (fun h9 => ?_) (fun h9 => ?_)
    · -- yes (Int.tmod i n) < (0 : Int)
      refine run_region ?_
      refine Ops.v (Yv.move rfl) ?_
      refine Ops.v (Yv.move rfl) ?_
      refine Ops.v (Yv.add rfl rfl (by omega)) ?_
      refine Ops.v (Yv.assign rfl) ?_
      refine Ops.nil ?_
      refine k7 _ _ ?_
      refine run_seq fun K10 k10 => ?_
      refine run_region ?_
      refine Ops.v (Yv.move rfl) ?_
      refine Ops.v (Yv.assign rfl) ?_
      refine Ops.nil ?_
      refine k10 _ _ ?_
      refine run_ret ?_
      refine ⟨[.int .i64 ((Int.tmod i n) + n)], ⟨_, _, rfl, rfl, rfl⟩, ?_⟩
      exact ⟨by rw [bring_neg (by omega) h9], rfl⟩
    · -- no
      refine run_skip ?_
      refine k7 _ _ ?_
      refine run_seq fun K11 k11 => ?_
      refine run_region ?_
      refine Ops.v (Yv.move rfl) ?_
      refine Ops.v (Yv.assign rfl) ?_
      refine Ops.nil ?_
      refine k11 _ _ ?_
      refine run_ret ?_
      refine ⟨[.int .i64 (Int.tmod i n)], ⟨_, _, rfl, rfl, rfl⟩, ?_⟩
      exact ⟨by rw [bring_pos (by omega) h9], rfl⟩

theorem eqBytes_fun {w : World} {A B : Option Addr} {m1 c1 m2 c2 : Nat} {xs ys : List Int} (hr : Rd w A m1 1 (u8s xs)) (hr2 : Rd w B m2 1 (u8s ys)) : Fun Try.prog 20 [.slice A m1 c1, .slice B m2 c2] w fun v w' => v = .bool (decide (xs = ys)) ∧ HS w [] w' := by
  refine fun_run (m := 26) (rs := [.tmp 4]) Try.func20 rfl rfl rfl rfl rfl ?_
  have hs0 := HS.start w
  have hbig := hr.big
  have hlen_xs : xs.length = m1 := by have := hr.len; rw [u8s_length] at this; omega
  have hlen_ys : ys.length = m2 := by have := hr2.len; rw [u8s_length] at this; omega
  refine run_seq fun K1 k1 => ?_
  refine run_region ?_
  refine Ops.v (Yv.assign rfl) ?_
  refine Ops.nil ?_
  refine k1 _ _ ?_
  refine run_seq fun K2 k2 => ?_
  refine run_seq fun K3 k3 => ?_
  refine run_region ?_
  refine Ops.v (Yv.move rfl) ?_
  refine Ops.v (Yv.len (by rw [L22]; rfl) rfl) ?_
  refine Ops.v (Yv.move rfl) ?_
  refine Ops.v (Yv.len (by rw [L22]; rfl) rfl) ?_
  refine Ops.v (Yv.ne rfl rfl) ?_
  refine Ops.nil ?_
  refine k3 _ _ ?_
  refine run_ifp rfl (fun h4 => ?_) (fun h4 => ?_)
  · -- yes (m1 : Int) ≠ (m2 : Int)
    refine run_seq fun K5 k5 => ?_
    refine run_region ?_
    refine Ops.v (Yv.assign rfl) ?_
    refine Ops.nil ?_
    refine k5 _ _ ?_
    refine run_ret ?_
    refine ⟨[.bool false], ⟨_, _, rfl, rfl, rfl⟩, ?_⟩
    exact ⟨by rw [decide_eq_false (fun e => by subst e; omega)], hs0.pick [] _ (by decide) rfl⟩
  · -- no
    refine run_skip ?_
    refine k2 _ _ ?_
    refine run_seq fun K6 k6 => ?_
    refine run_seq fun K7 k7 => ?_
    refine run_region ?_
    refine Ops.v (Yv.assign rfl) ?_
    refine Ops.nil ?_
    refine k7 _ _ ?_
    refine run_block ?_
    refine Run.sub [(0, _), (1, _), (5, _), (10, _)] ⟨rfl, rfl, rfl, rfl, trivial⟩ ?_
    refine run_loop (σ := Nat) (fun k e_ w_ => HS w [] w_ ∧ e_ = [(0, .slice A m1 c1), (1, .slice B m2 c2), (5, .int .i64 (k : Int)), (10, .bool (decide ((m1 : Int) ≠ (m2 : Int))))] ∧ k ≤ m1 ∧ ∀ j : Nat, j < k → gi xs j = gi ys j)
      (fun k => m1 - k) 0 ?_ ?_
    · -- at the start
      refine ⟨hs0, rfl, by omega, (fun j h => by omega)⟩
    · -- a round
      rintro k _ w8 ⟨hs8, rfl, f1, f2⟩
      refine run_seq fun K9 k9 => ?_
      refine run_seq fun K10 k10 => ?_
      refine run_region ?_
      refine Ops.v (Yv.move rfl) ?_
      refine Ops.v (Yv.move rfl) ?_
      refine Ops.v (Yv.len (by rw [L22]; rfl) rfl) ?_
      refine Ops.v (Yv.lt rfl rfl) ?_
      refine Ops.nil ?_
      refine k10 _ _ ?_
      refine run_ifp rfl (fun h11 => ?_) (fun h11 => ?_)
      · -- yes (k : Int) < (m1 : Int)
        refine run_skip ?_
        refine k9 _ _ ?_
        refine run_seq fun K12 k12 => ?_
        refine run_block ?_
        refine run_seq fun K13 k13 => ?_
        refine run_drawn [] (fun x => Below (w8.drew).heap.size (w8.drew) x) ?_ Tf.mixed (by kernel_rfl) (fun _ _ _ h => h)
        have hs14 := hs8.drew
        have hS15 := Below.refl (w8.drew).heap.size (w8.drew)
        refine Drw.a 0 rfl (by kernel_rfl) (Yv.move rfl) ?_
        refine Drw.a 1 rfl (by kernel_rfl) (Yv.move rfl) ?_
        refine Drw.a 2 rfl (by kernel_rfl) (Yv.idx L22 rfl rfl ((hs14.rd hr).isSome (i := (k : Int)) (by omega) (by omega)) (by omega) (by omega)) ?_
        refine Drw.l 3 rfl (by kernel_rfl) hS15 (Yv.load A5 rfl (fun _ hq_ => (((hs14.grow hq_).rd hr).u8 (by omega) (by omega)))) ?_
        refine Drw.a 4 rfl (by kernel_rfl) (Yv.move rfl) ?_
        refine Drw.a 5 rfl (by kernel_rfl) (Yv.move rfl) ?_
        refine Drw.a 6 rfl (by kernel_rfl) (Yv.idx L22 rfl rfl ((hs14.rd hr2).isSome (i := (k : Int)) (by omega) (by omega)) (by omega) (by omega)) ?_
        refine Drw.l 7 rfl (by kernel_rfl) hS15 (Yv.load A5 rfl (fun _ hq_ => (((hs14.grow hq_).rd hr2).u8 (by omega) (by omega)))) ?_
        refine Drw.a 8 rfl (by kernel_rfl) (Yv.ne rfl rfl) ?_
        refine Drw.done ?_ (by kernel_rfl)
        refine k13 _ _ ?_
        refine run_ifp rfl (fun h16 => ?_) (fun h16 => ?_)
        · -- yes (gi xs (k : Int)) ≠ (gi ys (k : Int))
          refine run_seq fun K17 k17 => ?_
          refine run_region ?_
          refine Ops.v (Yv.assign rfl) ?_
          refine Ops.nil ?_
          refine k17 _ _ ?_
          refine run_ret ?_
          refine ⟨[.bool false], ⟨_, _, rfl, rfl, rfl⟩, ?_⟩
          exact ⟨by rw [decide_eq_false (fun e => by subst e; exact h16 rfl)], hs14.pick [] _ (by decide) rfl⟩
        · -- no
          refine run_skip ?_
          refine k12 _ _ ?_
          refine run_region ?_
          refine Ops.v (Yv.move rfl) ?_
          refine Ops.v (Yv.add rfl rfl (by omega)) ?_
          refine Ops.v (Yv.assign rfl) ?_
          refine Ops.nil ?_
          refine ⟨k + 1, _, ⟨hs14, rfl, by omega, (fun j h => by rcases Nat.lt_or_ge j k with h2 | h2; exact f2 j h2; rw [show j = k from by omega]; exact Decidable.not_not.1 h16)⟩, Sub.le ⟨rfl, rfl, lookI rfl (by omega), rfl, trivial⟩, by omega⟩
      · -- no
        refine run_exit ?_
        refine k6 _ _ ?_
        refine run_seq fun K18 k18 => ?_
        refine run_region ?_
        refine Ops.v (Yv.assign rfl) ?_
        refine Ops.nil ?_
        refine k18 _ _ ?_
        refine run_ret ?_
        refine ⟨[.bool true], ⟨_, _, rfl, rfl, rfl⟩, ?_⟩
        exact ⟨by rw [decide_eq_true (eq_to f2 (by omega) (by omega))], hs8.pick [] _ (by decide) rfl⟩

theorem eqInts_fun {w : World} {A B : Option Addr} {m1 c1 m2 c2 : Nat} {xs ys : List Int} (hr : Rd w A m1 1 (i64s xs)) (hr2 : Rd w B m2 1 (i64s ys)) : Fun Try.prog 23 [.slice A m1 c1, .slice B m2 c2] w fun v w' => v = .bool (decide (xs = ys)) ∧ HS w [] w' := by
  refine fun_run (m := 26) (rs := [.tmp 4]) Try.func23 rfl rfl rfl rfl rfl ?_
  have hs0 := HS.start w
  have hbig := hr.big
  have hlen_xs : xs.length = m1 := by have := hr.len; rw [i64s_length] at this; omega
  have hlen_ys : ys.length = m2 := by have := hr2.len; rw [i64s_length] at this; omega
  refine run_seq fun K1 k1 => ?_
  refine run_region ?_
  refine Ops.v (Yv.assign rfl) ?_
  refine Ops.nil ?_
  refine k1 _ _ ?_
  refine run_seq fun K2 k2 => ?_
  refine run_seq fun K3 k3 => ?_
  refine run_region ?_
  refine Ops.v (Yv.move rfl) ?_
  refine Ops.v (Yv.len (by rw [L45]; rfl) rfl) ?_
  refine Ops.v (Yv.move rfl) ?_
  refine Ops.v (Yv.len (by rw [L45]; rfl) rfl) ?_
  refine Ops.v (Yv.ne rfl rfl) ?_
  refine Ops.nil ?_
  refine k3 _ _ ?_
  refine run_ifp rfl (fun h4 => ?_) (fun h4 => ?_)
  · -- yes (m1 : Int) ≠ (m2 : Int)
    refine run_seq fun K5 k5 => ?_
    refine run_region ?_
    refine Ops.v (Yv.assign rfl) ?_
    refine Ops.nil ?_
    refine k5 _ _ ?_
    refine run_ret ?_
    refine ⟨[.bool false], ⟨_, _, rfl, rfl, rfl⟩, ?_⟩
    exact ⟨by rw [decide_eq_false (fun e => by subst e; omega)], hs0.pick [] _ (by decide) rfl⟩
  · -- no
    refine run_skip ?_
    refine k2 _ _ ?_
    refine run_seq fun K6 k6 => ?_
    refine run_seq fun K7 k7 => ?_
    refine run_region ?_
    refine Ops.v (Yv.assign rfl) ?_
    refine Ops.nil ?_
    refine k7 _ _ ?_
    refine run_block ?_
    refine Run.sub [(0, _), (1, _), (5, _), (10, _)] ⟨rfl, rfl, rfl, rfl, trivial⟩ ?_
    refine run_loop (σ := Nat) (fun k e_ w_ => HS w [] w_ ∧ e_ = [(0, .slice A m1 c1), (1, .slice B m2 c2), (5, .int .i64 (k : Int)), (10, .bool (decide ((m1 : Int) ≠ (m2 : Int))))] ∧ k ≤ m1 ∧ ∀ j : Nat, j < k → gi xs j = gi ys j)
      (fun k => m1 - k) 0 ?_ ?_
    · -- at the start
      refine ⟨hs0, rfl, by omega, (fun j h => by omega)⟩
    · -- a round
      rintro k _ w8 ⟨hs8, rfl, f1, f2⟩
      refine run_seq fun K9 k9 => ?_
      refine run_seq fun K10 k10 => ?_
      refine run_region ?_
      refine Ops.v (Yv.move rfl) ?_
      refine Ops.v (Yv.move rfl) ?_
      refine Ops.v (Yv.len (by rw [L45]; rfl) rfl) ?_
      refine Ops.v (Yv.lt rfl rfl) ?_
      refine Ops.nil ?_
      refine k10 _ _ ?_
      refine run_ifp rfl (fun h11 => ?_) (fun h11 => ?_)
      · -- yes (k : Int) < (m1 : Int)
        refine run_skip ?_
        refine k9 _ _ ?_
        refine run_seq fun K12 k12 => ?_
        refine run_block ?_
        refine run_seq fun K13 k13 => ?_
        refine run_drawn [] (fun x => Below (w8.drew).heap.size (w8.drew) x) ?_ Tf.mixed (by kernel_rfl) (fun _ _ _ h => h)
        have hs14 := hs8.drew
        have hS15 := Below.refl (w8.drew).heap.size (w8.drew)
        refine Drw.a 0 rfl (by kernel_rfl) (Yv.move rfl) ?_
        refine Drw.a 1 rfl (by kernel_rfl) (Yv.move rfl) ?_
        refine Drw.a 2 rfl (by kernel_rfl) (Yv.idx L45 rfl rfl ((hs14.rd hr).isSome (i := (k : Int)) (by omega) (by omega)) (by omega) (by omega)) ?_
        refine Drw.l 3 rfl (by kernel_rfl) hS15 (Yv.load A3 rfl (fun _ hq_ => (((hs14.grow hq_).rd hr).i64 (by omega) (by omega)))) ?_
        refine Drw.a 4 rfl (by kernel_rfl) (Yv.move rfl) ?_
        refine Drw.a 5 rfl (by kernel_rfl) (Yv.move rfl) ?_
        refine Drw.a 6 rfl (by kernel_rfl) (Yv.idx L45 rfl rfl ((hs14.rd hr2).isSome (i := (k : Int)) (by omega) (by omega)) (by omega) (by omega)) ?_
        refine Drw.l 7 rfl (by kernel_rfl) hS15 (Yv.load A3 rfl (fun _ hq_ => (((hs14.grow hq_).rd hr2).i64 (by omega) (by omega)))) ?_
        refine Drw.a 8 rfl (by kernel_rfl) (Yv.ne rfl rfl) ?_
        refine Drw.done ?_ (by kernel_rfl)
        refine k13 _ _ ?_
        refine run_ifp rfl (fun h16 => ?_) (fun h16 => ?_)
        · -- yes (gi xs (k : Int)) ≠ (gi ys (k : Int))
          refine run_seq fun K17 k17 => ?_
          refine run_region ?_
          refine Ops.v (Yv.assign rfl) ?_
          refine Ops.nil ?_
          refine k17 _ _ ?_
          refine run_ret ?_
          refine ⟨[.bool false], ⟨_, _, rfl, rfl, rfl⟩, ?_⟩
          exact ⟨by rw [decide_eq_false (fun e => by subst e; exact h16 rfl)], hs14.pick [] _ (by decide) rfl⟩
        · -- no
          refine run_skip ?_
          refine k12 _ _ ?_
          refine run_region ?_
          refine Ops.v (Yv.move rfl) ?_
          refine Ops.v (Yv.add rfl rfl (by omega)) ?_
          refine Ops.v (Yv.assign rfl) ?_
          refine Ops.nil ?_
          refine ⟨k + 1, _, ⟨hs14, rfl, by omega, (fun j h => by rcases Nat.lt_or_ge j k with h2 | h2; exact f2 j h2; rw [show j = k from by omega]; exact Decidable.not_not.1 h16)⟩, Sub.le ⟨rfl, rfl, lookI rfl (by omega), rfl, trivial⟩, by omega⟩
      · -- no
        refine run_exit ?_
        refine k6 _ _ ?_
        refine run_seq fun K18 k18 => ?_
        refine run_region ?_
        refine Ops.v (Yv.assign rfl) ?_
        refine Ops.nil ?_
        refine k18 _ _ ?_
        refine run_ret ?_
        refine ⟨[.bool true], ⟨_, _, rfl, rfl, rfl⟩, ?_⟩
        exact ⟨by rw [decide_eq_true (eq_to f2 (by omega) (by omega))], hs8.pick [] _ (by decide) rfl⟩

theorem rclip_fun {w : World} {x a b : Int} (hab : a ≤ b) : Fun Try.prog 59 [.int .i64 x, .int .i64 a, .int .i64 b] w fun v w' => v = .int .i64 (min (max x a) b) ∧ w = w' := by
  refine fun_run (m := 16) (rs := [.tmp 6]) Try.func59 rfl rfl rfl rfl rfl ?_
  have hs0 := HS.start w
  refine run_seq fun K1 k1 => ?_
  refine run_region ?_
  refine Ops.v (Yv.assign rfl) ?_
  refine Ops.nil ?_
  refine k1 _ _ ?_
  refine run_seq fun K2 k2 => ?_
  refine run_seq fun K3 k3 => ?_
  refine run_region ?_
  refine Ops.v (Yv.move rfl) ?_
  refine Ops.v (Yv.move rfl) ?_
  refine Ops.v (Yv.lt rfl rfl) ?_
  refine Ops.nil ?_
  refine k3 _ _ ?_
  refine run_ifp rfl (fun h4 => ?_) (fun h4 => ?_)
  · -- yes x < a
    refine run_seq fun K5 k5 => ?_
    refine run_region ?_
    refine Ops.v (Yv.move rfl) ?_
    refine Ops.v (Yv.assign rfl) ?_
    refine Ops.nil ?_
    refine k5 _ _ ?_
    refine run_ret ?_
    refine ⟨[.int .i64 a], ⟨_, _, rfl, rfl, rfl⟩, ?_⟩
    exact ⟨congrArg (Value.int .i64) (by omega), rfl⟩
  · -- no
    refine run_skip ?_
    refine k2 _ _ ?_
    refine run_seq fun K6 k6 => ?_
    refine run_seq fun K7 k7 => ?_
    refine run_region ?_
    refine Ops.v (Yv.move rfl) ?_
    refine Ops.v (Yv.move rfl) ?_
    refine Ops.v (Yv.gt rfl rfl) ?_
    refine Ops.nil ?_
    refine k7 _ _ ?_
    refine run_ifp rfl (fun h8 => ?_) (fun h8 => ?_)
    · -- yes b < x
      refine run_seq fun K9 k9 => ?_
      refine run_region ?_
      refine Ops.v (Yv.move rfl) ?_
      refine Ops.v (Yv.assign rfl) ?_
      refine Ops.nil ?_
      refine k9 _ _ ?_
      refine run_ret ?_
      refine ⟨[.int .i64 b], ⟨_, _, rfl, rfl, rfl⟩, ?_⟩
      exact ⟨congrArg (Value.int .i64) (by omega), rfl⟩
    · -- no
      refine run_skip ?_
      refine k6 _ _ ?_
      refine run_seq fun K10 k10 => ?_
      refine run_region ?_
      refine Ops.v (Yv.move rfl) ?_
      refine Ops.v (Yv.assign rfl) ?_
      refine Ops.nil ?_
      refine k10 _ _ ?_
      refine run_ret ?_
      refine ⟨[.int .i64 x], ⟨_, _, rfl, rfl, rfl⟩, ?_⟩
      exact ⟨congrArg (Value.int .i64) (by omega), rfl⟩

theorem copyBytes_fun {w : World} {A : Option Addr} {m c : Nat} {xs : List Int} (hr : Rd w A m 1 (u8s xs)) (hm : m ≤ 140737488355328) : Fun Try.prog 17 [.slice A m c] w fun v w' => ∃ A' c', v = .slice A' m c' ∧ HS w [.row A' m c' (u8s xs) 5 1] w' := by
  refine fun_run (m := 8) (rs := [.tmp 2]) Try.func17 rfl rfl rfl rfl rfl ?_
  have hs0 := HS.start w
  refine run_seq fun K1 k1 => ?_
  refine run_region ?_
  refine Ops.v (Yv.assign rfl) ?_
  refine Ops.nil ?_
  refine k1 _ _ ?_
  refine run_seq fun K2 k2 => ?_
  refine run_region ?_
  refine Ops.v (Yv.assign rfl) ?_
  refine Ops.nil ?_
  refine k2 _ _ ?_
  refine run_seq fun K3 k3 => ?_
  refine run_region ?_
  refine Ops.v (Yv.move rfl) ?_
  refine Ops.v (Yv.move rfl) ?_
  have hs4 := hs0.nilRow 5 1
  refine Ops.s (Step.append0 0 hs4 rfl rfl L22 Z5 rfl (by decide) rfl (hs4.rd hr) (u8s_one _) (by omega) (by decide) (fun Ad7 c8 w6 hs6 => ?_) True.intro (by rfl))
  replace hs6 : HS w [.row Ad7 m c8 (u8s xs) 5 1] w6 := by simpa only [List.set, u8s_append] using hs6
  refine Ops.v (Yv.assign rfl) ?_
  refine Ops.nil ?_
  refine k3 _ _ ?_
  refine run_seq fun K9 k9 => ?_
  refine run_region ?_
  refine Ops.v (Yv.move rfl) ?_
  refine Ops.v (Yv.assign rfl) ?_
  refine Ops.nil ?_
  refine k9 _ _ ?_
  refine run_ret ?_
  refine ⟨[.slice Ad7 m c8], ⟨_, _, rfl, rfl, rfl⟩, ?_⟩
  exact ⟨_, _, rfl, hs6.pick [0] _ (by decide) rfl⟩

theorem clone_fun {w : World} {A : Option Addr} {m c : Nat} {xs : List Int} (hr : Rd w A m 1 (u8s xs)) (hm : m ≤ 140737488355328) : Fun Try.prog 43 [.slice A m c] w fun v w' => ∃ A' c', v = .slice A' m c' ∧ HS w [.row A' m c' (u8s xs) 5 1] w' := by
  refine fun_run (m := 8) (rs := [.tmp 2]) Try.func43 rfl rfl rfl rfl rfl ?_
  have hs0 := HS.start w
  refine run_seq fun K1 k1 => ?_
  refine run_region ?_
  refine Ops.v (Yv.assign rfl) ?_
  refine Ops.nil ?_
  refine k1 _ _ ?_
  refine run_seq fun K2 k2 => ?_
  refine run_seq fun K3 k3 => ?_
  refine run_region ?_
  refine Ops.v (Yv.move rfl) ?_
  refine Ops.v (Yv.eqNil (by rw [L22]; rfl) rfl rfl) ?_
  refine Ops.nil ?_
  refine k3 _ _ ?_
  refine run_if rfl (fun h4 => ?_) (fun h4 => ?_)
  · -- yes Option.isNone A
    refine run_seq fun K5 k5 => ?_
    refine run_region ?_
    refine Ops.v (Yv.assign rfl) ?_
    refine Ops.nil ?_
    refine k5 _ _ ?_
    refine run_ret ?_
    refine ⟨[.slice none 0 0], ⟨_, _, rfl, rfl, rfl⟩, ?_⟩
    have h0 : m = 0 := by
      rcases Nat.eq_zero_or_pos m with h | h
      · exact h
      · have := hr.some_ h
        rw [Option.isNone_iff_eq_none.1 h4] at this
        cases this
    have hx0 : xs = [] := List.eq_nil_of_length_eq_zero (by have := hr.len; rw [u8s_length] at this; omega)
    subst h0 hx0
    exact ⟨none, 0, rfl, hs0.nilRow 5 1⟩
  · -- no
    refine run_skip ?_
    refine k2 _ _ ?_
    refine run_seq fun K6 k6 => ?_
    refine run_region ?_
    refine Ops.s (Step.lit0 hs0 L22 (fun b8 w7 hs7 hb7 => ?_) True.intro (by rfl))
    refine Ops.v (Yv.move rfl) ?_
    refine Ops.s (Step.append0 0 hs7 rfl rfl L22 Z5 rfl (by decide) rfl (hs7.rd hr) (u8s_one _) (by omega) (by decide) (fun Ad11 c12 w10 hs10 => ?_) True.intro (by rfl))
    replace hs10 : HS w [.row Ad11 m c12 (u8s xs) 5 1] w10 := by simpa only [List.set, u8s_append] using hs10
    refine Ops.v (Yv.assign rfl) ?_
    refine Ops.nil ?_
    refine k6 _ _ ?_
    refine run_ret ?_
    refine ⟨[.slice Ad11 m c12], ⟨_, _, rfl, rfl, rfl⟩, ?_⟩
    exact ⟨_, _, rfl, hs10.pick [0] _ (by decide) rfl⟩

theorem within_fun {w : World} {n a b : Int} : Fun Try.prog 37 [.int .i64 n, .int .i64 a, .int .i64 b] w fun v w' => v = .bool (decide (a ≤ n ∧ n ≤ b)) ∧ w = w' := by
  refine fun_run (m := 15) (rs := [.tmp 6]) Try.func37 rfl rfl rfl rfl rfl ?_
  have hs0 := HS.start w
  refine run_seq fun K1 k1 => ?_
  refine run_region ?_
  refine Ops.v (Yv.assign rfl) ?_
  refine Ops.nil ?_
  refine k1 _ _ ?_
  refine run_seq fun K2 k2 => ?_
  refine Run.cut (fun e_ w_ => w = w_ ∧ Le [(0, .int .i64 n), (1, .int .i64 a), (2, .int .i64 b), (6, .bool (decide ((a ≤ n) ∧ (n ≤ b))))] e_) ?_ ?_
  · -- region 1: its ways meet again
    refine run_region ?_
    refine Ops.v (Yv.move rfl) ?_
    refine Ops.v (Yv.move rfl) ?_
    refine Ops.v (Yv.ge rfl rfl) ?_
    refine Ops.dec (fun h3 => ?_) (fun h3 => ?_)
    · -- yes
      refine Ops.v (Yv.move rfl) ?_
      refine Ops.vg ⟨_, rfl, rfl⟩ (Yv.move rfl) ?_
      refine Ops.vg ⟨_, rfl, rfl⟩ (Yv.move rfl) ?_
      refine Ops.vg ⟨_, rfl, rfl⟩ (Yv.le rfl rfl) ?_
      refine Ops.v (Yv.pick1 rfl rfl) ?_
      refine Ops.v (Yv.assign rfl) ?_
      refine Ops.nil ?_
      refine ⟨rfl, Sub.le ⟨rfl, rfl, rfl, lookB rfl (by first | (simp only [h3, ne_eq, not_true_eq_false, not_false_eq_true, or_true, true_or, or_false, false_or, and_true, true_and, and_false, false_and, decide_true, decide_false, or_self, and_self, Bool.decide_eq_true]; done) | simp [h3]), trivial⟩⟩
    · -- no
      refine Ops.v (Yv.move rfl) ?_
      refine Ops.skip ⟨_, rfl, rfl⟩ ?_
      refine Ops.skip ⟨_, rfl, rfl⟩ ?_
      refine Ops.skip ⟨_, rfl, rfl⟩ ?_
      refine Ops.v (Yv.pick0 rfl rfl) ?_
      refine Ops.v (Yv.assign rfl) ?_
      refine Ops.nil ?_
      refine ⟨rfl, Sub.le ⟨rfl, rfl, rfl, lookB rfl (by first | (simp only [h3, ne_eq, not_true_eq_false, not_false_eq_true, or_true, true_or, or_false, false_or, and_true, true_and, and_false, false_and, decide_true, decide_false, or_self, and_self, Bool.decide_eq_true]; done) | simp [h3]), trivial⟩⟩
  rintro e4 _ ⟨rfl, he4⟩
  refine k2 _ _ ?_
  refine Run.le he4 ?_
  refine run_ret ?_
  refine ⟨[.bool (decide ((a ≤ n) ∧ (n ≤ b)))], ⟨_, _, rfl, rfl, rfl⟩, ?_⟩
  exact ⟨rfl, rfl⟩

theorem weights_fun {w : World} {n : Int} : Fun Try.prog 21 [.int .i64 n] w fun v w' => ∃ A' c', v = .tuple #[.slice A' (wtOut n).length c', .int .i64 (wtE n)] ∧ HS w [.row A' (wtOut n).length c' (i64s (wtOut n)) 3 1] w' := by
  refine fun_run (m := 28) (rs := [.tmp 2, .tmp 3]) Try.func21 rfl rfl rfl rfl rfl ?_
  have hs0 := HS.start w
  refine run_seq fun K1 k1 => ?_
  refine run_region ?_
  refine Ops.v (Yv.assign rfl) ?_
  refine Ops.v (Yv.assign rfl) ?_
  refine Ops.nil ?_
  refine k1 _ _ ?_
  refine run_seq fun K2 k2 => ?_
  refine run_seq fun K3 k3 => ?_
  refine run_region ?_
  refine Ops.v (Yv.move rfl) ?_
  refine Ops.s (Step.call rfl rfl (within_fun) (?_) True.intro (by rfl))
  rintro _ _ ⟨rfl, rfl⟩
  refine Ops.v (Yv.notp rfl) ?_
  refine Ops.nil ?_
  refine k3 _ _ ?_
  refine run_ifp rfl (fun h5 => ?_) (fun h5 => ?_)
  · -- yes ¬ ((4 : Int) ≤ n ∧ n ≤ 32)
    refine run_seq fun K6 k6 => ?_
    refine run_region ?_
    refine Ops.v (Yv.assign rfl) ?_
    refine Ops.v (Yv.assign rfl) ?_
    refine Ops.nil ?_
    refine k6 _ _ ?_
    refine run_ret ?_
    refine ⟨[.slice none 0 0, .int .i64 2], ⟨_, _, rfl, rfl, ⟨_, _, rfl, rfl, rfl⟩⟩, ?_⟩
    obtain ⟨e1, e2⟩ := wt_bad h5
    rw [e1, e2]
    exact ⟨none, 0, rfl, (hs0.pick [] [] (by decide) rfl).nilRow 3 1⟩
  · -- no
    refine run_skip ?_
    refine k2 _ _ ?_
    refine run_seq fun K7 k7 => ?_
    refine run_region ?_
    refine Ops.v (Yv.move rfl) ?_
    refine Ops.s (Step.make hs0 L45 Z3 rfl rfl (by omega) (by omega) (by omega) (fun b9 w8 hs8 hb8 => ?_) True.intro (by rfl))
    rw [i64s_rep] at hs8
    refine Ops.v (Yv.assign rfl) ?_
    refine Ops.nil ?_
    refine k7 _ _ ?_
    refine run_seq fun K11 k11 => ?_
    refine run_seq fun K12 k12 => ?_
    refine run_region ?_
    refine Ops.v (Yv.move rfl) ?_
    refine Ops.v (Yv.len (by rw [L45]; rfl) rfl) ?_
    refine Ops.v (Yv.move rfl) ?_
    refine Ops.nil ?_
    refine k12 _ _ ?_
    refine run_block ?_
    refine Run.sub [(0, _), (2, _), (3, _), (4, _), (8, _), (12, _), (13, _)] ⟨rfl, rfl, rfl, rfl, rfl, rfl, rfl, trivial⟩ ?_
    refine run_loop (σ := Nat) (fun k e_ w_ => HS w [.row (some ⟨b9, 0, none⟩) n.toNat n.toNat (i64s (wtIn n k)) 3 1] w_ ∧ e_ = [(0, .int .i64 n), (2, .slice none 0 0), (3, .int .i64 0), (4, .slice (some ⟨b9, 0, none⟩) n.toNat n.toNat), (8, .bool (decide (¬ ((4 : Int) ≤ n ∧ n ≤ 32)))), (12, .int .i64 (n.toNat : Int)), (13, .int .i64 (k : Int))] ∧ k ≤ n.toNat)
      (fun k => n.toNat - k) 0 ?_ ?_
    · -- at the start
      refine ⟨hs8, rfl, by omega⟩
    · -- a round
      rintro k _ w13 ⟨hs13, rfl, f1⟩
      have hlw := wtIn_length (n := n) (k := k) f1
      refine run_seq fun K14 k14 => ?_
      refine run_region ?_
      refine Ops.v (Yv.lt rfl rfl) ?_
      refine Ops.nil ?_
      refine k14 _ _ ?_
      refine run_seq fun K15 k15 => ?_
      refine run_ifp rfl (fun h16 => ?_) (fun h16 => ?_)
      · -- yes (k : Int) < (n.toNat : Int)
        refine run_skip ?_
        refine k15 _ _ ?_
        refine run_seq fun K17 k17 => ?_
        refine run_block ?_
        refine run_seq fun K18 k18 => ?_
        refine run_region ?_
        refine Ops.v (Yv.move rfl) ?_
        refine Ops.v (Yv.assign rfl) ?_
        refine Ops.nil ?_
        refine k18 _ _ ?_
        refine run_region ?_
        refine Ops.v (Yv.move rfl) ?_
        refine Ops.v (Yv.move rfl) ?_
        refine Ops.v (Yv.move rfl) ?_
        refine Ops.v (Yv.mul rfl rfl (by omega)) ?_
        refine Ops.v (Yv.add rfl rfl (by omega)) ?_
        refine Ops.v (Yv.mul rfl rfl (by omega)) ?_
        refine Ops.v (Yv.move rfl) ?_
        refine Ops.v (Yv.quo rfl rfl (by omega) (by omega) (by omega)) ?_
        have hd := div_bd (a := ((((2 : Int) * (k : Int)) + 1) * 16)) (b := n) (by omega) (by omega)
        refine Ops.v (Yv.add rfl rfl (by omega)) ?_
        refine Ops.v (Yv.idx L45 rfl rfl ((hs13.rdRow 0 rfl).isSome (i := (k : Int)) (by omega) (by omega)) (by omega) (by omega)) ?_
        refine Ops.s (Step.storeRow (vs := [.int .i64 ((32 : Int) + (((((2 : Int) * (k : Int)) + 1) * 16) / n))]) 0 hs13 rfl rfl rfl rfl S3 (by have hl_ := (hs13.rdRow 0 rfl).len; show ((k : Int)).toNat * 1 + 1 ≤ _; omega) (Nat.succ_pos _) rfl (fun w19 hs19 => ?_) True.intro)
        have hs19_ := i64s_put (xs := wtIn n k) (i := ((k : Int)).toNat * 1) (v := (32 : Int) + (((((2 : Int) * (k : Int)) + 1) * 16) / n)) (by have hl_ := (hs13.rdRow 0 rfl).len; rw [i64s_length] at hl_; omega)
        simp only [Nat.mul_one] at hs19_
        replace hs19 : HS w [.row (some ⟨b9, 0, none⟩) n.toNat n.toNat (i64s ((wtIn n k).set (((k : Int)).toNat) ((32 : Int) + (((((2 : Int) * (k : Int)) + 1) * 16) / n)))) 3 1] w19 := by simpa only [List.set, Nat.mul_one, hs19_] using hs19
        refine Ops.nil ?_
        refine k17 _ _ ?_
        refine run_region ?_
        refine Ops.v (Yv.add rfl rfl (by omega)) ?_
        refine Ops.v (Yv.move rfl) ?_
        refine Ops.nil ?_
        refine ⟨k + 1, _, ⟨(hs19.to (by rw [← wtIn_next (by omega)]; rfl)), rfl, by omega⟩, Sub.le ⟨rfl, rfl, rfl, rfl, rfl, rfl, lookI rfl (by omega), trivial⟩, by omega⟩
      · -- no
        refine run_exit ?_
        refine k11 _ _ ?_
        refine run_seq fun K20 k20 => ?_
        refine run_region ?_
        refine Ops.v (Yv.move rfl) ?_
        refine Ops.v (Yv.assign rfl) ?_
        refine Ops.v (Yv.assign rfl) ?_
        refine Ops.nil ?_
        refine k20 _ _ ?_
        refine run_ret ?_
        refine ⟨[.slice (some ⟨b9, 0, none⟩) n.toNat n.toNat, .int .i64 0], ⟨_, _, rfl, rfl, ⟨_, _, rfl, rfl, rfl⟩⟩, ?_⟩
        obtain ⟨e1, e2⟩ := wt_ok (Decidable.not_not.1 h5)
        rw [e1, e2, wtTo_length]
        have hz := hs13.pick [0] [.row (some ⟨b9, 0, none⟩) n.toNat n.toNat (i64s (wtIn n k)) 3 1] (by decide) rfl
        exact ⟨_, _, rfl, hz.to (by rw [show k = n.toNat from by omega, wtIn_done])⟩

theorem rweights_fun {w : World} {n : Int} : Fun Try.prog 22 [.int .i64 n] w fun v w' => ∃ A' c', v = .tuple #[.slice A' (wtOut n).length c', .int .i64 (wtE n)] ∧ HS w [.row A' (wtOut n).length c' (i64s (wtOut n)) 3 1] w' := by
  refine fun_run (m := 29) (rs := [.tmp 2, .tmp 3]) Try.func22 rfl rfl rfl rfl rfl ?_
  have hs0 := HS.start w
  refine run_seq fun K1 k1 => ?_
  refine run_region ?_
  refine Ops.v (Yv.assign rfl) ?_
  refine Ops.v (Yv.assign rfl) ?_
  refine Ops.nil ?_
  refine k1 _ _ ?_
  refine run_seq fun K2 k2 => ?_
  refine run_seq fun K3 k3 => ?_
  refine Run.cut (fun e_ w_ => w = w_ ∧ Le [(0, .int .i64 n), (2, .slice none 0 0), (3, .int .i64 0), (11, .bool (decide ((n < (4 : Int)) ∨ ((32 : Int) < n))))] e_) ?_ ?_
  · -- region 1: its ways meet again
    refine run_region ?_
    refine Ops.v (Yv.move rfl) ?_
    refine Ops.v (Yv.lt rfl rfl) ?_
    refine Ops.dec (fun h4 => ?_) (fun h4 => ?_)
    · -- yes
      refine Ops.v (Yv.move rfl) ?_
      refine Ops.skip ⟨_, rfl, rfl⟩ ?_
      refine Ops.skip ⟨_, rfl, rfl⟩ ?_
      refine Ops.v (Yv.pick1 rfl rfl) ?_
      refine Ops.nil ?_
      refine ⟨rfl, Sub.le ⟨rfl, rfl, rfl, lookB rfl (by first | (simp only [h4, ne_eq, not_true_eq_false, not_false_eq_true, or_true, true_or, or_false, false_or, and_true, true_and, and_false, false_and, decide_true, decide_false, or_self, and_self, Bool.decide_eq_true]; done) | simp [h4]), trivial⟩⟩
    · -- no
      refine Ops.v (Yv.move rfl) ?_
      refine Ops.vg ⟨_, rfl, rfl⟩ (Yv.move rfl) ?_
      refine Ops.vg ⟨_, rfl, rfl⟩ (Yv.gt rfl rfl) ?_
      refine Ops.v (Yv.pick0 rfl rfl) ?_
      refine Ops.nil ?_
      refine ⟨rfl, Sub.le ⟨rfl, rfl, rfl, lookB rfl (by first | (simp only [h4, ne_eq, not_true_eq_false, not_false_eq_true, or_true, true_or, or_false, false_or, and_true, true_and, and_false, false_and, decide_true, decide_false, or_self, and_self, Bool.decide_eq_true]; done) | simp [h4]), trivial⟩⟩
  rintro e5 _ ⟨rfl, he5⟩
  refine k3 _ _ ?_
  refine Run.le he5 ?_
  refine run_ifp rfl (fun h6 => ?_) (fun h6 => ?_)
  · -- yes (n < (4 : Int)) ∨ ((32 : Int) < n)
    refine run_seq fun K7 k7 => ?_
    refine run_region ?_
    refine Ops.v (Yv.assign rfl) ?_
    refine Ops.v (Yv.assign rfl) ?_
    refine Ops.nil ?_
    refine k7 _ _ ?_
    refine run_ret ?_
    refine ⟨[.slice none 0 0, .int .i64 2], ⟨_, _, rfl, rfl, ⟨_, _, rfl, rfl, rfl⟩⟩, ?_⟩
    obtain ⟨e1, e2⟩ := wt_bad (n := n) (by omega)
    rw [e1, e2]
    exact ⟨none, 0, rfl, (hs0.pick [] [] (by decide) rfl).nilRow 3 1⟩
  · -- no
    refine run_skip ?_
    refine k2 _ _ ?_
    refine run_seq fun K8 k8 => ?_
    refine run_region ?_
    refine Ops.v (Yv.assign rfl) ?_
    refine Ops.nil ?_
    refine k8 _ _ ?_
    refine run_seq fun K9 k9 => ?_
    refine run_seq fun K10 k10 => ?_
    refine run_region ?_
    refine Ops.v (Yv.assign rfl) ?_
    refine Ops.nil ?_
    refine k10 _ _ ?_
    refine run_block ?_
    refine Run.sub [(0, _), (2, _), (3, _), (4, _), (5, _), (11, _)] ⟨rfl, rfl, rfl, rfl, rfl, rfl, trivial⟩ ?_
    refine run_loop (σ := Nat × Option Addr × Nat) (fun (k, A_, c_) e_ w_ => HS w [.row A_ k c_ (i64s (wtTo n k)) 3 1] w_ ∧ e_ = [(0, .int .i64 n), (2, .slice none 0 0), (3, .int .i64 0), (4, .slice A_ k c_), (5, .int .i64 (k : Int)), (11, .bool (decide ((n < (4 : Int)) ∨ ((32 : Int) < n))))] ∧ k ≤ n.toNat)
      (fun (k, A_, c_) => n.toNat - k) (0, none, 0) ?_ ?_
    · -- at the start
      refine ⟨hs0.nilRow 3 1, rfl, by omega⟩
    · -- a round
      rintro ⟨k, A_, c_⟩ _ w11 ⟨hs11, rfl, f1⟩
      refine run_seq fun K12 k12 => ?_
      refine run_seq fun K13 k13 => ?_
      refine run_region ?_
      refine Ops.v (Yv.move rfl) ?_
      refine Ops.v (Yv.move rfl) ?_
      refine Ops.v (Yv.lt rfl rfl) ?_
      refine Ops.nil ?_
      refine k13 _ _ ?_
      refine run_ifp rfl (fun h14 => ?_) (fun h14 => ?_)
      · -- yes (k : Int) < n
        refine run_skip ?_
        refine k12 _ _ ?_
        refine run_seq fun K15 k15 => ?_
        refine run_block ?_
        refine run_region ?_
        refine Ops.v (Yv.move rfl) ?_
        refine Ops.v (Yv.move rfl) ?_
        refine Ops.v (Yv.mul rfl rfl (by omega)) ?_
        refine Ops.v (Yv.add rfl rfl (by omega)) ?_
        refine Ops.v (Yv.mul rfl rfl (by omega)) ?_
        refine Ops.v (Yv.move rfl) ?_
        refine Ops.v (Yv.mul rfl rfl (by omega)) ?_
        refine Ops.v (Yv.quo rfl rfl (by omega) (by omega) (by omega)) ?_
        have hd := div_bd (a := ((((2 : Int) * (k : Int)) + 1) * 32)) (b := ((2 : Int) * n)) (by omega) (by omega)
        refine Ops.v (Yv.add rfl rfl (by omega)) ?_
        refine Ops.s (Step.lit (ps := [(0, .int .i64 ((32 : Int) + (((((2 : Int) * (k : Int)) + 1) * 32) / ((2 : Int) * n))))]) (cs := [.int .i64 ((32 : Int) + (((((2 : Int) * (k : Int)) + 1) * 32) / ((2 : Int) * n)))]) hs11 L45 ⟨_, Z3, rfl⟩ rfl (by decide) (by decide) (by kernel_rfl) rfl (by decide) (fun b17 w16 hs16 hb16 => ?_) True.intro (by rfl))
        replace hs16 : HS w [.row (some ⟨b17, 0, none⟩) 1 1 (i64s [(32 : Int) + (((((2 : Int) * (k : Int)) + 1) * 32) / ((2 : Int) * n))]) 3 1, .row A_ k c_ (i64s (wtTo n k)) 3 1] w16 := hs16
        refine Ops.s (Step.append 1 hs16 rfl rfl L45 Z3 rfl (by decide) rfl (hs16.rdRow 0 rfl) (i64s_one _) (by omega) (by decide) (fun Ad20 c21 w19 hs19 => ?_) True.intro (by rfl))
        replace hs19 : HS w [.row (some ⟨b17, 0, none⟩) 1 1 (i64s [(32 : Int) + (((((2 : Int) * (k : Int)) + 1) * 32) / ((2 : Int) * n))]) 3 1, .row Ad20 (k + 1) c21 (i64s ((wtTo n k) ++ [(32 : Int) + (((((2 : Int) * (k : Int)) + 1) * 32) / ((2 : Int) * n))])) 3 1] w19 := by simpa only [List.set, i64s_append] using hs19
        refine Ops.v (Yv.assign rfl) ?_
        refine Ops.nil ?_
        refine k15 _ _ ?_
        refine run_region ?_
        refine Ops.v (Yv.move rfl) ?_
        refine Ops.v (Yv.add rfl rfl (by omega)) ?_
        refine Ops.v (Yv.assign rfl) ?_
        refine Ops.nil ?_
        refine ⟨(k + 1, Ad20, c21), _, ⟨((hs19.pick [1] [.row Ad20 (k + 1) c21 (i64s ((wtTo n k) ++ [(32 : Int) + (((((2 : Int) * (k : Int)) + 1) * 32) / ((2 : Int) * n))])) 3 1] (by decide) rfl).to (by rw [wtTo, wtV, ← wt_same (by omega)])), rfl, by omega⟩, Sub.le ⟨rfl, rfl, rfl, rfl, lookI rfl (by omega), rfl, trivial⟩, (by show n.toNat - (k + 1) < n.toNat - k; omega)⟩
      · -- no
        refine run_exit ?_
        refine k9 _ _ ?_
        refine run_seq fun K22 k22 => ?_
        refine run_region ?_
        refine Ops.v (Yv.move rfl) ?_
        refine Ops.v (Yv.assign rfl) ?_
        refine Ops.v (Yv.assign rfl) ?_
        refine Ops.nil ?_
        refine k22 _ _ ?_
        refine run_ret ?_
        refine ⟨[.slice A_ k c_, .int .i64 0], ⟨_, _, rfl, rfl, ⟨_, _, rfl, rfl, rfl⟩⟩, ?_⟩
        obtain ⟨e1, e2⟩ := wt_ok (n := n) (by omega)
        rw [e1, e2, wtTo_length, show n.toNat = k from by omega]
        have hz := hs11.pick [0] [.row A_ k c_ (i64s (wtTo n k)) 3 1] (by decide) rfl
        exact ⟨_, _, rfl, hz⟩

theorem pair_fun {w : World} {A : Option Addr} {m c : Nat} {xs : List Int} (hr : Rd w A m 1 (u8s xs)) (hx : Bytes xs) {B : Option Addr} {m2 c2 : Nat} {ys : List Int} (hr2 : Rd w B m2 1 (u8s ys)) (hy : Bytes ys) (hm : m ≤ 140737488355328) : Fun Try.prog 18 [.slice A m c, .slice B m2 c2] w fun v w' => ∃ A' c', v = .tuple #[.slice A' (pairOut xs ys).length c', .int .i64 (pairE xs ys)] ∧ HS w [.row A' (pairOut xs ys).length c' (u8s (pairOut xs ys)) 5 1] w' := by
  refine fun_run (m := 39) (rs := [.tmp 4, .tmp 5]) Try.func18 rfl rfl rfl rfl rfl ?_
  have hs0 := HS.start w
  have hbig := hr.big
  have hlen_xs : xs.length = m := by have := hr.len; rw [u8s_length] at this; omega
  have hlen_ys : ys.length = m2 := by have := hr2.len; rw [u8s_length] at this; omega
  refine run_seq fun K1 k1 => ?_
  refine run_region ?_
  refine Ops.v (Yv.assign rfl) ?_
  refine Ops.v (Yv.assign rfl) ?_
  refine Ops.nil ?_
  refine k1 _ _ ?_
  refine run_seq fun K2 k2 => ?_
  refine run_seq fun K3 k3 => ?_
  refine run_region ?_
  refine Ops.v (Yv.move rfl) ?_
  refine Ops.v (Yv.len (by rw [L22]; rfl) rfl) ?_
  refine Ops.v (Yv.move rfl) ?_
  refine Ops.v (Yv.len (by rw [L22]; rfl) rfl) ?_
  refine Ops.v (Yv.ne rfl rfl) ?_
  refine Ops.nil ?_
  refine k3 _ _ ?_
  refine run_ifp rfl (fun h4 => ?_) (fun h4 => ?_)
  · -- yes (m : Int) ≠ (m2 : Int)
    refine run_seq fun K5 k5 => ?_
    refine run_region ?_
    refine Ops.v (Yv.assign rfl) ?_
    refine Ops.v (Yv.assign rfl) ?_
    refine Ops.nil ?_
    refine k5 _ _ ?_
    refine run_ret ?_
    refine ⟨[.slice none 0 0, .int .i64 2], ⟨_, _, rfl, rfl, ⟨_, _, rfl, rfl, rfl⟩⟩, ?_⟩
    obtain ⟨e1, e2⟩ := pair_bad (a := xs) (b := ys) (by omega)
    rw [e1, e2]
    exact ⟨none, 0, rfl, (hs0.pick [] [] (by decide) rfl).nilRow 5 1⟩
  · -- no
    refine run_skip ?_
    refine k2 _ _ ?_
    refine run_seq fun K6 k6 => ?_
    refine run_region ?_
    refine Ops.v (Yv.move rfl) ?_
    refine Ops.s (Step.call rfl rfl (clone_fun (hs0.rd hr) (by omega)) (?_) True.intro (by rfl))
    rintro _ w10 ⟨Ad7, c8, rfl, hs10⟩
    replace hs10 := hs0.call hs10
    refine Ops.v (Yv.assign rfl) ?_
    refine Ops.nil ?_
    refine k6 _ _ ?_
    refine run_seq fun K11 k11 => ?_
    refine run_seq fun K12 k12 => ?_
    refine run_region ?_
    refine Ops.v (Yv.move rfl) ?_
    refine Ops.v (Yv.len (by rw [L22]; rfl) rfl) ?_
    refine Ops.v (Yv.move rfl) ?_
    refine Ops.nil ?_
    refine k12 _ _ ?_
    refine run_block ?_
    refine Run.sub [(0, _), (1, _), (4, _), (5, _), (6, _), (13, _), (16, _), (17, _), (18, _)] ⟨rfl, rfl, rfl, rfl, rfl, rfl, rfl, rfl, rfl, trivial⟩ ?_
    refine run_loop (σ := Nat) (fun k e_ w_ => HS w [.row Ad7 m c8 (u8s (pairIn xs ys k)) 5 1] w_ ∧ e_ = [(0, .slice A m c), (1, .slice B m2 c2), (4, .slice none 0 0), (5, .int .i64 0), (6, .slice Ad7 m c8), (13, .bool (decide ((m : Int) ≠ (m2 : Int)))), (16, .slice B m2 c2), (17, .int .i64 (m2 : Int)), (18, .int .i64 (k : Int))] ∧ k ≤ m2)
      (fun k => m2 - k) 0 ?_ ?_
    · -- at the start
      refine ⟨hs10, rfl, by omega⟩
    · -- a round
      rintro k _ w13 ⟨hs13, rfl, f1⟩
      have hlp := pairIn_length (a := xs) (b := ys) (k := k) (by omega)
      refine run_seq fun K14 k14 => ?_
      refine run_region ?_
      refine Ops.v (Yv.lt rfl rfl) ?_
      refine Ops.nil ?_
      refine k14 _ _ ?_
      refine run_seq fun K15 k15 => ?_
      refine run_ifp rfl (fun h16 => ?_) (fun h16 => ?_)
      · -- yes (k : Int) < (m2 : Int)
        refine run_skip ?_
        refine k15 _ _ ?_
        refine run_seq fun K17 k17 => ?_
        refine run_block ?_
        refine run_seq fun K18 k18 => ?_
        refine run_region ?_
        refine Ops.v (Yv.move rfl) ?_
        refine Ops.v (Yv.idx L22 rfl rfl ((hs13.rd hr2).isSome (i := (k : Int)) (by omega) (by omega)) (by omega) (by omega)) ?_
        refine Ops.v (Yv.load A5 rfl (now ((hs13.rd hr2).u8 (by omega) (by omega)))) ?_
        have g19 := gi_bytes (xs := ys) hy (k : Int)
        refine Ops.v (Yv.assign rfl) ?_
        refine Ops.v (Yv.assign rfl) ?_
        have g19 := gi_bytes (xs := ys) hy (k : Int)
        refine Ops.nil ?_
        refine k18 _ _ ?_
        refine run_region ?_
        refine Ops.v (Yv.move rfl) ?_
        refine Ops.v (Yv.move rfl) ?_
        refine Ops.v (Yv.move rfl) ?_
        refine Ops.v (Yv.move rfl) ?_
        refine Ops.v (Yv.idx L22 rfl rfl ((hs13.rdRow 0 rfl).isSome (i := (k : Int)) (by omega) (by omega)) (by omega) (by omega)) ?_
        refine Ops.v (Yv.load A5 rfl (now ((hs13.rdRow 0 rfl).u8 (by omega) (by omega)))) ?_
        have g20 := gi_bytes (xs := pairIn xs ys k) (pairIn_bytes hx hy k) (k : Int)
        refine Ops.v (Yv.convK U73 V5 rfl (wrap_u64 (by omega) (by omega))) ?_
        refine Ops.v (Yv.move rfl) ?_
        have g19 := gi_bytes (xs := ys) hy (k : Int)
        refine Ops.v (Yv.convK U73 V5 rfl (wrap_u64 (by omega) (by omega))) ?_
        refine Ops.v ((Yv.addw rfl rfl).to (v := .int .u64 ((gi (pairIn xs ys k) (k : Int)) + (gi ys (k : Int)))) (toV (wrap_u64 (by omega) (by omega)))) ?_
        refine Ops.v ((Yv.addw rfl rfl).to (v := .int .u64 (((gi (pairIn xs ys k) (k : Int)) + (gi ys (k : Int))) + 1)) (toV (wrap_u64 (by omega) (by omega)))) ?_
        refine Ops.v (Yv.shrk rfl rfl 1 (by first | rfl | omega) (by decide)) ?_
        refine Ops.v (Yv.toByte U5 V73 rfl (by omega)) ?_
        refine Ops.v (Yv.idx L22 rfl rfl ((hs13.rdRow 0 rfl).isSome (i := (k : Int)) (by omega) (by omega)) (by omega) (by omega)) ?_
        refine Ops.s (Step.storeRow (vs := [.int .u8 ((((gi (pairIn xs ys k) (k : Int)) + (gi ys (k : Int))) + 1) / 2 ^ 1)]) 0 hs13 rfl rfl rfl rfl S5 (by have hl_ := (hs13.rdRow 0 rfl).len; show ((k : Int)).toNat * 1 + 1 ≤ _; omega) (Nat.succ_pos _) rfl (fun w21 hs21 => ?_) True.intro)
        have hs21_ := u8s_put (xs := pairIn xs ys k) (i := ((k : Int)).toNat * 1) (v := (((gi (pairIn xs ys k) (k : Int)) + (gi ys (k : Int))) + 1) / 2 ^ 1) (by have hl_ := (hs13.rdRow 0 rfl).len; rw [u8s_length] at hl_; omega)
        simp only [Nat.mul_one] at hs21_
        replace hs21 : HS w [.row Ad7 m c8 (u8s ((pairIn xs ys k).set (((k : Int)).toNat) ((((gi (pairIn xs ys k) (k : Int)) + (gi ys (k : Int))) + 1) / 2 ^ 1))) 5 1] w21 := by simpa only [List.set, Nat.mul_one, hs21_] using hs21
        refine Ops.nil ?_
        refine k17 _ _ ?_
        refine run_region ?_
        refine Ops.v (Yv.add rfl rfl (by omega)) ?_
        refine Ops.v (Yv.move rfl) ?_
        refine Ops.nil ?_
        refine ⟨k + 1, _, ⟨(hs21.to (by rw [pairIn_at, ← pairIn_next (by omega)]; rfl)), rfl, by omega⟩, Sub.le ⟨rfl, rfl, rfl, rfl, rfl, rfl, rfl, rfl, lookI rfl (by omega), trivial⟩, by omega⟩
      · -- no
        refine run_exit ?_
        refine k11 _ _ ?_
        refine run_seq fun K22 k22 => ?_
        refine run_region ?_
        refine Ops.v (Yv.move rfl) ?_
        refine Ops.v (Yv.assign rfl) ?_
        refine Ops.v (Yv.assign rfl) ?_
        refine Ops.nil ?_
        refine k22 _ _ ?_
        refine run_ret ?_
        refine ⟨[.slice Ad7 m c8, .int .i64 0], ⟨_, _, rfl, rfl, ⟨_, _, rfl, rfl, rfl⟩⟩, ?_⟩
        obtain ⟨e1, e2⟩ := pair_ok (a := xs) (b := ys) (by omega)
        rw [e1, e2, pairTo_length, hlen_xs]
        have hz := hs13.pick [0] [.row Ad7 m c8 (u8s (pairIn xs ys k)) 5 1] (by decide) rfl
        exact ⟨_, _, rfl, hz.to (by rw [show k = xs.length from by omega, pairIn_done, hlen_xs])⟩

theorem rpair_fun {w : World} {A : Option Addr} {m c : Nat} {xs : List Int} (hr : Rd w A m 1 (u8s xs)) (hx : Bytes xs) {B : Option Addr} {m2 c2 : Nat} {ys : List Int} (hr2 : Rd w B m2 1 (u8s ys)) (hy : Bytes ys) (hm : m ≤ 140737488355328) : Fun Try.prog 19 [.slice A m c, .slice B m2 c2] w fun v w' => ∃ A' c', v = .tuple #[.slice A' (pairOut xs ys).length c', .int .i64 (pairE xs ys)] ∧ HS w [.row A' (pairOut xs ys).length c' (u8s (pairOut xs ys)) 5 1] w' := by
  refine fun_run (m := 37) (rs := [.tmp 4, .tmp 5]) Try.func19 rfl rfl rfl rfl rfl ?_
  have hs0 := HS.start w
  have hbig := hr.big
  have hlen_xs : xs.length = m := by have := hr.len; rw [u8s_length] at this; omega
  have hlen_ys : ys.length = m2 := by have := hr2.len; rw [u8s_length] at this; omega
  refine run_seq fun K1 k1 => ?_
  refine run_region ?_
  refine Ops.v (Yv.assign rfl) ?_
  refine Ops.v (Yv.assign rfl) ?_
  refine Ops.nil ?_
  refine k1 _ _ ?_
  refine run_seq fun K2 k2 => ?_
  refine run_seq fun K3 k3 => ?_
  refine run_region ?_
  refine Ops.v (Yv.move rfl) ?_
  refine Ops.v (Yv.len (by rw [L22]; rfl) rfl) ?_
  refine Ops.v (Yv.move rfl) ?_
  refine Ops.v (Yv.len (by rw [L22]; rfl) rfl) ?_
  refine Ops.v (Yv.ne rfl rfl) ?_
  refine Ops.nil ?_
  refine k3 _ _ ?_
  refine run_ifp rfl (fun h4 => ?_) (fun h4 => ?_)
  · -- yes (m : Int) ≠ (m2 : Int)
    refine run_seq fun K5 k5 => ?_
    refine run_region ?_
    refine Ops.v (Yv.assign rfl) ?_
    refine Ops.v (Yv.assign rfl) ?_
    refine Ops.nil ?_
    refine k5 _ _ ?_
    refine run_ret ?_
    refine ⟨[.slice none 0 0, .int .i64 2], ⟨_, _, rfl, rfl, ⟨_, _, rfl, rfl, rfl⟩⟩, ?_⟩
    obtain ⟨e1, e2⟩ := pair_bad (a := xs) (b := ys) (by omega)
    rw [e1, e2]
    exact ⟨none, 0, rfl, (hs0.pick [] [] (by decide) rfl).nilRow 5 1⟩
  · -- no
    refine run_skip ?_
    refine k2 _ _ ?_
    refine run_seq fun K6 k6 => ?_
    refine run_region ?_
    refine Ops.v (Yv.assign rfl) ?_
    refine Ops.nil ?_
    refine k6 _ _ ?_
    refine run_seq fun K7 k7 => ?_
    refine run_seq fun K8 k8 => ?_
    refine run_region ?_
    refine Ops.v (Yv.assign rfl) ?_
    refine Ops.nil ?_
    refine k8 _ _ ?_
    refine run_block ?_
    refine Run.sub [(0, _), (1, _), (4, _), (5, _), (6, _), (7, _), (12, _)] ⟨rfl, rfl, rfl, rfl, rfl, rfl, rfl, trivial⟩ ?_
    refine run_loop (σ := Nat × Option Addr × Nat) (fun (k, A_, c_) e_ w_ => HS w [.row A_ k c_ (u8s (pairTo xs ys k)) 5 1] w_ ∧ e_ = [(0, .slice A m c), (1, .slice B m2 c2), (4, .slice none 0 0), (5, .int .i64 0), (6, .slice A_ k c_), (7, .int .i64 (k : Int)), (12, .bool (decide ((m : Int) ≠ (m2 : Int))))] ∧ k ≤ m)
      (fun (k, A_, c_) => m - k) (0, none, 0) ?_ ?_
    · -- at the start
      refine ⟨hs0.nilRow 5 1, rfl, by omega⟩
    · -- a round
      rintro ⟨k, A_, c_⟩ _ w9 ⟨hs9, rfl, f1⟩
      refine run_seq fun K10 k10 => ?_
      refine run_seq fun K11 k11 => ?_
      refine run_region ?_
      refine Ops.v (Yv.move rfl) ?_
      refine Ops.v (Yv.move rfl) ?_
      refine Ops.v (Yv.len (by rw [L22]; rfl) rfl) ?_
      refine Ops.v (Yv.lt rfl rfl) ?_
      refine Ops.nil ?_
      refine k11 _ _ ?_
      refine run_ifp rfl (fun h12 => ?_) (fun h12 => ?_)
      · -- yes (k : Int) < (m : Int)
        refine run_skip ?_
        refine k10 _ _ ?_
        refine run_seq fun K13 k13 => ?_
        refine run_block ?_
        refine run_drawn [] (fun x => HS w [] x) ?_ Tf.mixed (by kernel_rfl) (fun _ _ _ h => h)
        have hs14 := hs9.drew
        have hS15 := hs14.pick [] [] (by decide) rfl
        refine Drw.a 0 rfl (by kernel_rfl) (Yv.move rfl) ?_
        refine Drw.a 1 rfl (by kernel_rfl) (Yv.move rfl) ?_
        refine Drw.a 2 rfl (by kernel_rfl) (Yv.move rfl) ?_
        refine Drw.a 3 rfl (by kernel_rfl) (Yv.idx L22 rfl rfl ((hs14.rd hr).isSome (i := (k : Int)) (by omega) (by omega)) (by omega) (by omega)) ?_
        refine Drw.l 4 rfl (by kernel_rfl) hS15 (Yv.load A5 rfl (fun _ hq_ => ((hq_.rd hr).u8 (by omega) (by omega)))) ?_
        have g16 := gi_bytes (xs := xs) hx (k : Int)
        refine Drw.a 5 rfl (by kernel_rfl) (Yv.toInt U3 V5 rfl (by omega)) ?_
        refine Drw.a 6 rfl (by kernel_rfl) (Yv.move rfl) ?_
        refine Drw.a 7 rfl (by kernel_rfl) (Yv.move rfl) ?_
        refine Drw.a 8 rfl (by kernel_rfl) (Yv.idx L22 rfl rfl ((hs14.rd hr2).isSome (i := (k : Int)) (by omega) (by omega)) (by omega) (by omega)) ?_
        refine Drw.l 9 rfl (by kernel_rfl) hS15 (Yv.load A5 rfl (fun _ hq_ => ((hq_.rd hr2).u8 (by omega) (by omega)))) ?_
        have g17 := gi_bytes (xs := ys) hy (k : Int)
        refine Drw.a 10 rfl (by kernel_rfl) (Yv.toInt U3 V5 rfl (by omega)) ?_
        refine Drw.a 11 rfl (by kernel_rfl) (Yv.add rfl rfl (by omega)) ?_
        refine Drw.a 12 rfl (by kernel_rfl) (Yv.add rfl rfl (by omega)) ?_
        refine Drw.a 13 rfl (by kernel_rfl) (Yv.quo rfl rfl (by omega) (by omega) (by omega)) ?_
        refine Drw.a 14 rfl (by kernel_rfl) (Yv.toByte U5 V3 rfl (by omega)) ?_
        refine Drw.one 15 rfl (by kernel_rfl) (Step.lit (ps := [(0, .int .u8 ((((gi xs (k : Int)) + (gi ys (k : Int))) + 1) / 2))]) (cs := [.int .u8 ((((gi xs (k : Int)) + (gi ys (k : Int))) + 1) / 2)]) hs14 L22 ⟨_, Z5, rfl⟩ rfl (by decide) (by decide) (by kernel_rfl) rfl (by decide) (fun b19 w18 hs18 hb18 => ?_) True.intro (by rfl))
        replace hs18 : HS w [.row (some ⟨b19, 0, none⟩) 1 1 (u8s [(((gi xs (k : Int)) + (gi ys (k : Int))) + 1) / 2]) 5 1, .row A_ k c_ (u8s (pairTo xs ys k)) 5 1] w18 := hs18
        have by21 : Bytes [(((gi xs (k : Int)) + (gi ys (k : Int))) + 1) / 2] := by intro x hx_; simp only [List.mem_cons, List.not_mem_nil, or_false] at hx_; omega
        have hS22 := hs18.pick [] [] (by decide) rfl
        refine ⟨fun _ _ => hS22, ?_⟩
        refine Drw.one 16 rfl (by kernel_rfl) (Step.append 1 hs18 rfl rfl L22 Z5 rfl (by decide) rfl (hs18.rdRow 0 rfl) (u8s_one _) (by omega) (by decide) (fun Ad24 c25 w23 hs23 => ?_) True.intro (by rfl))
        replace hs23 : HS w [.row (some ⟨b19, 0, none⟩) 1 1 (u8s [(((gi xs (k : Int)) + (gi ys (k : Int))) + 1) / 2]) 5 1, .row Ad24 (k + 1) c25 (u8s ((pairTo xs ys k) ++ [(((gi xs (k : Int)) + (gi ys (k : Int))) + 1) / 2])) 5 1] w23 := by simpa only [List.set, u8s_append] using hs23
        have hS26 := hs23.pick [] [] (by decide) rfl
        refine ⟨fun _ _ => hS26, ?_⟩
        refine Drw.a 17 rfl (by kernel_rfl) (Yv.assign rfl) ?_
        refine Drw.done ?_ (by kernel_rfl)
        refine k13 _ _ ?_
        refine run_region ?_
        refine Ops.v (Yv.move rfl) ?_
        refine Ops.v (Yv.add rfl rfl (by omega)) ?_
        refine Ops.v (Yv.assign rfl) ?_
        refine Ops.nil ?_
        refine ⟨(k + 1, Ad24, c25), _, ⟨((hs23.pick [1] [.row Ad24 (k + 1) c25 (u8s ((pairTo xs ys k) ++ [(((gi xs (k : Int)) + (gi ys (k : Int))) + 1) / 2])) 5 1] (by decide) rfl).to (by rw [pairTo, pairV])), rfl, by omega⟩, Sub.le ⟨rfl, rfl, rfl, rfl, rfl, lookI rfl (by omega), rfl, trivial⟩, (by show m - (k + 1) < m - k; omega)⟩
      · -- no
        refine run_exit ?_
        refine k7 _ _ ?_
        refine run_seq fun K27 k27 => ?_
        refine run_region ?_
        refine Ops.v (Yv.move rfl) ?_
        refine Ops.v (Yv.assign rfl) ?_
        refine Ops.v (Yv.assign rfl) ?_
        refine Ops.nil ?_
        refine k27 _ _ ?_
        refine run_ret ?_
        refine ⟨[.slice A_ k c_, .int .i64 0], ⟨_, _, rfl, rfl, ⟨_, _, rfl, rfl, rfl⟩⟩, ?_⟩
        obtain ⟨e1, e2⟩ := pair_ok (a := xs) (b := ys) (by omega)
        rw [e1, e2, pairTo_length, hlen_xs]
        have hk : k = m := by omega
        subst hk
        have hz := hs9.pick [0] [.row A_ k c_ (u8s (pairTo xs ys k)) 5 1] (by decide) rfl
        exact ⟨_, _, rfl, hz⟩

theorem told_fun {w0 w : World} {H : List Ent} {A B : Option Addr} {m c m2 c2 : Nat} {xs ys : List Int} {e f : Int} (hs0 : HS w0 (.row A m c (u8s xs) 5 1 :: H) w) (hr2 : Rd w B m2 1 (u8s ys)) (hx : Bytes xs) : Fun Try.prog 14 [.slice A m c, .int .i64 e, .slice B m2 c2, .int .i64 f] w fun v w' => v = .bool (decide (e = f ∧ xs = ys)) ∧ ∃ zs, Bytes zs ∧ zs.length = xs.length ∧ HS w0 (.row A m c (u8s zs) 5 1 :: H) w' := by
  refine fun_run (m := 34) (rs := [.tmp 8]) Try.func14 rfl rfl rfl rfl rfl ?_
  have hbig := (hs0.rdRow 0 rfl).big
  have hlen : xs.length = m := by have := (hs0.rdRow 0 rfl).len; rw [u8s_length] at this; omega
  refine run_seq fun K1 k1 => ?_
  refine run_region ?_
  refine Ops.v (Yv.assign rfl) ?_
  refine Ops.nil ?_
  refine k1 _ _ ?_
  refine run_seq fun K2 k2 => ?_
  refine Run.cut (fun e_ w_ => HS w0 (.row A m c (u8s xs) 5 1 :: H) w_ ∧ Le [(0, .slice A m c), (1, .int .i64 e), (2, .slice B m2 c2), (3, .int .i64 f), (8, .bool false), (9, .bool (decide ((e = f) ∧ (xs = ys))))] e_) ?_ ?_
  · -- region 1: its ways meet again
    refine run_region ?_
    refine Ops.v (Yv.move rfl) ?_
    refine Ops.v (Yv.move rfl) ?_
    refine Ops.v (Yv.eq rfl rfl) ?_
    refine Ops.dec (fun h3 => ?_) (fun h3 => ?_)
    · -- yes
      refine Ops.v (Yv.move rfl) ?_
      refine Ops.vg ⟨_, rfl, rfl⟩ (Yv.move rfl) ?_
      refine Ops.vg ⟨_, rfl, rfl⟩ (Yv.move rfl) ?_
      refine Ops.s (Step.call rfl rfl (eqBytes_fun (hs0.rdRow 0 rfl) hr2) (?_) ⟨_, rfl, rfl⟩ (by rfl))
      rintro _ w4 ⟨rfl, hs4⟩
      replace hs4 : HS w0 (.row A m c (u8s xs) 5 1 :: H) w4 := hs0.call hs4
      refine Ops.v (Yv.pick1 rfl rfl) ?_
      refine Ops.v (Yv.assign rfl) ?_
      refine Ops.nil ?_
      refine ⟨hs4, Sub.le ⟨rfl, rfl, rfl, rfl, rfl, lookB rfl (by first | (simp only [h3, ne_eq, not_true_eq_false, not_false_eq_true, or_true, true_or, or_false, false_or, and_true, true_and, and_false, false_and, decide_true, decide_false, or_self, and_self, Bool.decide_eq_true]; done) | simp [h3]), trivial⟩⟩
    · -- no
      refine Ops.v (Yv.move rfl) ?_
      refine Ops.skip ⟨_, rfl, rfl⟩ ?_
      refine Ops.skip ⟨_, rfl, rfl⟩ ?_
      refine Ops.skip ⟨_, rfl, rfl⟩ ?_
      refine Ops.v (Yv.pick0 rfl rfl) ?_
      refine Ops.v (Yv.assign rfl) ?_
      refine Ops.nil ?_
      refine ⟨hs0, Sub.le ⟨rfl, rfl, rfl, rfl, rfl, lookB rfl (by first | (simp only [h3, ne_eq, not_true_eq_false, not_false_eq_true, or_true, true_or, or_false, false_or, and_true, true_and, and_false, false_and, decide_true, decide_false, or_self, and_self, Bool.decide_eq_true]; done) | simp [h3]), trivial⟩⟩
  rintro e5 w5 ⟨hs5, he5⟩
  refine k2 _ _ ?_
  refine Run.le he5 ?_
  refine run_seq fun K6 k6 => ?_
  refine run_seq fun K7 k7 => ?_
  refine run_region ?_
  refine Ops.v (Yv.assign rfl) ?_
  refine Ops.nil ?_
  refine k7 _ _ ?_
  refine run_block ?_
  refine Run.sub [(0, _), (1, _), (2, _), (3, _), (8, _), (9, _), (10, _)] ⟨rfl, rfl, rfl, rfl, rfl, rfl, rfl, trivial⟩ ?_
  refine run_loop (σ := Nat × List Int) (fun (k, zs) e_ w_ => HS w0 (.row A m c (u8s zs) 5 1 :: H) w_ ∧ e_ = [(0, .slice A m c), (1, .int .i64 e), (2, .slice B m2 c2), (3, .int .i64 f), (8, .bool false), (9, .bool (decide ((e = f) ∧ (xs = ys)))), (10, .int .i64 (k : Int))] ∧ k ≤ m ∧ Bytes zs ∧ zs.length = xs.length)
    (fun (k, zs) => m - k) (0, xs) ?_ ?_
  · -- at the start
    refine ⟨hs5, rfl, by omega, hx, rfl⟩
  · -- a round
    rintro ⟨k, zs⟩ _ w8 ⟨hs8, rfl, f1, f2, f3⟩
    refine run_seq fun K9 k9 => ?_
    refine run_seq fun K10 k10 => ?_
    refine run_region ?_
    refine Ops.v (Yv.move rfl) ?_
    refine Ops.v (Yv.move rfl) ?_
    refine Ops.v (Yv.len (by rw [L22]; rfl) rfl) ?_
    refine Ops.v (Yv.lt rfl rfl) ?_
    refine Ops.nil ?_
    refine k10 _ _ ?_
    refine run_ifp rfl (fun h11 => ?_) (fun h11 => ?_)
    · -- yes (k : Int) < (m : Int)
      refine run_skip ?_
      refine k9 _ _ ?_
      refine run_seq fun K12 k12 => ?_
      refine run_block ?_
      refine run_region ?_
      refine Ops.v (Yv.move rfl) ?_
      refine Ops.v (Yv.move rfl) ?_
      refine Ops.v (Yv.move rfl) ?_
      refine Ops.v (Yv.move rfl) ?_
      refine Ops.v (Yv.idx L22 rfl rfl ((hs8.rdRow 0 rfl).isSome (i := (k : Int)) (by omega) (by omega)) (by omega) (by omega)) ?_
      refine Ops.v (Yv.load A5 rfl (now ((hs8.rdRow 0 rfl).u8 (by omega) (by omega)))) ?_
      have g13 := gi_bytes (xs := zs) f2 (k : Int)
      refine Ops.v (Yv.xor8 rfl rfl (by omega) (by omega)) ?_
      have g14 := xorF_bd (x := gi zs (k : Int)) (y := 255) (by omega) (by omega)
      refine Ops.v (Yv.idx L22 rfl rfl ((hs8.rdRow 0 rfl).isSome (i := (k : Int)) (by omega) (by omega)) (by omega) (by omega)) ?_
      refine Ops.s (Step.storeRow (vs := [.int .u8 (xorF (gi zs (k : Int)) 255)]) 0 hs8 rfl rfl rfl rfl S5 (by have hl_ := (hs8.rdRow 0 rfl).len; show ((k : Int)).toNat * 1 + 1 ≤ _; omega) (Nat.succ_pos _) rfl (fun w15 hs15 => ?_) True.intro)
      have hs15_ := u8s_put (xs := zs) (i := ((k : Int)).toNat * 1) (v := xorF (gi zs (k : Int)) 255) (by have hl_ := (hs8.rdRow 0 rfl).len; rw [u8s_length] at hl_; omega)
      simp only [Nat.mul_one] at hs15_
      replace hs15 : HS w0 (.row A m c (u8s (zs.set (((k : Int)).toNat) (xorF (gi zs (k : Int)) 255))) 5 1 :: H) w15 := by simpa only [List.set, Nat.mul_one, hs15_] using hs15
      refine Ops.nil ?_
      refine k12 _ _ ?_
      refine run_region ?_
      refine Ops.v (Yv.move rfl) ?_
      refine Ops.v (Yv.add rfl rfl (by omega)) ?_
      refine Ops.v (Yv.assign rfl) ?_
      refine Ops.nil ?_
      refine ⟨(k + 1, zs.set (((k : Int)).toNat) (xorF (gi zs (k : Int)) 255)), _, ⟨hs15, rfl, by omega, f2.set (by omega), (by rw [List.length_set]; exact f3)⟩, Sub.le ⟨rfl, rfl, rfl, rfl, rfl, rfl, lookI rfl (by omega), trivial⟩, (by show m - (k + 1) < m - k; omega)⟩
    · -- no
      refine run_exit ?_
      refine k6 _ _ ?_
      refine run_seq fun K16 k16 => ?_
      refine run_region ?_
      refine Ops.v (Yv.move rfl) ?_
      refine Ops.v (Yv.assign rfl) ?_
      refine Ops.nil ?_
      refine k16 _ _ ?_
      refine run_ret ?_
      refine ⟨[.bool (decide ((e = f) ∧ (xs = ys)))], ⟨_, _, rfl, rfl, rfl⟩, ?_⟩
      exact ⟨rfl, zs, f2, f3, hs8⟩

end Go.Proofs.Zed
