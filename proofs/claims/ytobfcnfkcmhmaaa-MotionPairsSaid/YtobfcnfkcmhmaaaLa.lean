/- The walk of MotionPairs. -/
import Derived.Test.YtobfcnfkcmhmaaaMy
set_option linter.unusedVariables false
set_option linter.unusedSimpArgs false
namespace Go.Proofs.Zed
open Go Go.RowKit Tf
attribute [local irreducible] Try.prog

set_option maxHeartbeats 4000000 in
theorem MotionPairs_fun {w : World} {A : Option Addr} {m c : Nat} {xs : List Int} (hr : Rd w A m 1 (u8s xs)) (hx : Bytes xs) {B : Option Addr} {m2 c2 : Nat} {ys : List Int} (hr2 : Rd w B m2 1 (u8s ys)) (hy : Bytes ys) {n : Int} (hs1 : m * 1 ≤ 140737488351232) (hs2 : m2 * 1 ≤ 140737488351232) : Fun Try.prog 4 [.slice A m c, .slice B m2 c2, .int .i64 n] w fun v w' => v = .bool true ∧ HS w [] w' := by
  refine fun_run (m := 81) (rs := [.tmp 6]) Try.func4 rfl rfl rfl rfl rfl ?_
  have hs0 := HS.start w
  have hbig := hr.big
  have hlen_xs : xs.length = m := by have := hr.len; rw [u8s_length] at this; omega
  have hlen_ys : ys.length = m2 := by have := hr2.len; rw [u8s_length] at this; omega
  refine run_seq fun K1 k1 => ?_
  refine run_region ?_
  refine Ops.v (Yv.assign rfl) ?_
  refine Ops.nil ?_
  refine k1 _ _ ?_
  refine run_seq fun K2 k2 => ?_
  refine run_region ?_
  refine Ops.v (Yv.move rfl) ?_
  refine Ops.s (Step.call rfl rfl (copyBytes_fun (hs0.rd hr) (by omega)) (?_) True.intro (by rfl))
  rintro _ w6 ⟨Ad3, c4, rfl, hs6⟩
  replace hs6 := hs0.call hs6
  refine Ops.v (Yv.move rfl) ?_
  refine Ops.s (Step.call rfl rfl (copyBytes_fun (hs6.rd hr2) (by omega)) (?_) True.intro (by rfl))
  rintro _ w10 ⟨Ad7, c8, rfl, hs10⟩
  replace hs10 := hs6.call hs10
  refine Ops.v (Yv.assign rfl) ?_
  refine Ops.v (Yv.assign rfl) ?_
  refine Ops.nil ?_
  refine k2 _ _ ?_
  refine run_seq fun K11 k11 => ?_
  refine run_region ?_
  refine Ops.v (Yv.move rfl) ?_
  refine Ops.v (Yv.move rfl) ?_
  refine Ops.s (Step.call rfl rfl (pair_fun (hs10.rdRow 1 rfl) hx (hs10.rdRow 0 rfl) hy (by omega)) (?_) True.intro (by rfl))
  rintro _ w15 ⟨Ad12, c13, rfl, hs15⟩
  replace hs15 := hs10.call hs15
  refine Ops.v (Yv.move rfl) ?_
  refine Ops.v (Yv.extract rfl rfl) ?_
  refine Ops.v (Yv.extract rfl rfl) ?_
  refine Ops.v (Yv.assign rfl) ?_
  refine Ops.v (Yv.assign rfl) ?_
  refine Ops.nil ?_
  refine k11 _ _ ?_
  refine run_seq fun K16 k16 => ?_
  refine run_region ?_
  refine Ops.v (Yv.move rfl) ?_
  refine Ops.v (Yv.move rfl) ?_
  refine Ops.s (Step.call rfl rfl (rpair_fun (hs15.rd hr) hx (hs15.rd hr2) hy (by omega)) (?_) True.intro (by rfl))
  rintro _ w20 ⟨Ad17, c18, rfl, hs20⟩
  replace hs20 := hs15.call hs20
  refine Ops.v (Yv.move rfl) ?_
  refine Ops.v (Yv.extract rfl rfl) ?_
  refine Ops.v (Yv.extract rfl rfl) ?_
  refine Ops.v (Yv.assign rfl) ?_
  refine Ops.v (Yv.assign rfl) ?_
  refine Ops.nil ?_
  refine k16 _ _ ?_
  refine run_seq fun K21 k21 => ?_
  refine run_seq fun K22 k22 => ?_
  refine run_region ?_
  refine Ops.v (Yv.move rfl) ?_
  refine Ops.v (Yv.move rfl) ?_
  refine Ops.v (Yv.move rfl) ?_
  refine Ops.v (Yv.move rfl) ?_
  refine Ops.s (Step.call rfl rfl (told_fun (hs20.pick [1, 0, 2, 3] [.row Ad12 ((pairOut xs ys).length) c13 (u8s (pairOut xs ys)) 5 1, .row Ad17 ((pairOut xs ys).length) c18 (u8s (pairOut xs ys)) 5 1, .row Ad7 m2 c8 (u8s ys) 5 1, .row Ad3 m c4 (u8s xs) 5 1] (by decide) rfl) (hs20.rdRow 0 rfl) (pairOut_bytes hx hy)) (?_) True.intro (by rfl))
  rintro _ w24 ⟨rfl, zs23, hbzs23, hlzs23, hs24⟩
  refine Ops.dec1 (⟨rfl, rfl⟩) ?_
  refine Ops.v (Yv.not rfl) ?_
  refine Ops.v (Yv.move rfl) ?_
  refine Ops.vg ⟨_, rfl, rfl⟩ (Yv.move rfl) ?_
  refine Ops.vg ⟨_, rfl, rfl⟩ (Yv.move rfl) ?_
  refine Ops.s (Step.call rfl rfl (eqBytes_fun (hs24.rdRow 3 rfl) (hs24.rd hr)) (?_) ⟨_, rfl, rfl⟩ (by rfl))
  rintro _ w25 ⟨rfl, hs25⟩
  replace hs25 := hs24.call hs25
  refine Ops.dec1 (rfl) ?_
  refine Ops.vg ⟨_, rfl, rfl⟩ (Yv.not rfl) ?_
  refine Ops.v (Yv.pick0 rfl rfl) ?_
  refine Ops.v (Yv.move rfl) ?_
  refine Ops.vg ⟨_, rfl, rfl⟩ (Yv.move rfl) ?_
  refine Ops.vg ⟨_, rfl, rfl⟩ (Yv.move rfl) ?_
  refine Ops.s (Step.call rfl rfl (eqBytes_fun (hs25.rdRow 2 rfl) (hs25.rd hr2)) (?_) ⟨_, rfl, rfl⟩ (by rfl))
  rintro _ w26 ⟨rfl, hs26⟩
  replace hs26 := hs25.call hs26
  refine Ops.vg ⟨_, rfl, rfl⟩ (Yv.notp rfl) ?_
  refine Ops.v (Yv.pick0 rfl rfl) ?_
  refine Ops.nil ?_
  refine k22 _ _ ?_
  refine run_ifp rfl (fun hx => absurd hx (fun h_ => h_ (rfl))) (fun _ => ?_)
  refine run_skip ?_
  refine k21 _ _ ?_
  refine run_seq fun K27 k27 => ?_
  refine run_seq fun K28 k28 => ?_
  refine run_region ?_
  refine Ops.v (Yv.assign rfl) ?_
  refine Ops.nil ?_
  refine k28 _ _ ?_
  refine run_block ?_
  refine Run.sub [(0, _), (1, _), (2, _), (7, _), (8, _), (9, _), (10, _), (11, _), (12, _), (13, _), (52, _)] ⟨rfl, rfl, rfl, rfl, rfl, rfl, rfl, rfl, rfl, rfl, rfl, trivial⟩ ?_
  refine run_loop (σ := Nat) (fun k e_ w_ => HS w [.row Ad12 ((pairOut xs ys).length) c13 (u8s zs23) 5 1, .row Ad17 ((pairOut xs ys).length) c18 (u8s (pairOut xs ys)) 5 1, .row Ad7 m2 c8 (u8s ys) 5 1, .row Ad3 m c4 (u8s xs) 5 1] w_ ∧ e_ = [(0, .slice A m c), (1, .slice B m2 c2), (2, .int .i64 n), (7, .slice Ad3 m c4), (8, .slice Ad7 m2 c8), (9, .slice Ad12 ((pairOut xs ys).length) c13), (10, .int .i64 (pairE xs ys)), (11, .slice Ad17 ((pairOut xs ys).length) c18), (12, .int .i64 (pairE xs ys)), (13, .int .i64 ((k : Int) - 1)), (52, .bool (decide (¬ (ys = ys))))] ∧ k ≤ 37)
    (fun k => 37 - k) 0 ?_ ?_
  · -- at the start
    refine ⟨hs26, rfl, by omega⟩
  · -- a round
    rintro k _ w29 ⟨hs29, rfl, f1⟩
    refine run_seq fun K30 k30 => ?_
    refine run_seq fun K31 k31 => ?_
    refine run_region ?_
    refine Ops.v (Yv.move rfl) ?_
    refine Ops.v (Yv.lt rfl rfl) ?_
    refine Ops.nil ?_
    refine k31 _ _ ?_
    refine run_ifp rfl (fun h32 => ?_) (fun h32 => ?_)
    · -- yes ((k : Int) - 1) < (36 : Int)
      refine run_skip ?_
      refine k30 _ _ ?_
      refine run_seq fun K33 k33 => ?_
      refine run_block ?_
      refine run_seq fun K34 k34 => ?_
      refine run_region ?_
      refine Ops.v (Yv.move rfl) ?_
      refine Ops.v (Yv.assign rfl) ?_
      refine Ops.nil ?_
      refine k34 _ _ ?_
      refine run_seq fun K35 k35 => ?_
      refine run_seq fun K36 k36 => ?_
      refine run_region ?_
      refine Ops.v (Yv.move rfl) ?_
      refine Ops.v (Yv.eq rfl rfl) ?_
      refine Ops.nil ?_
      refine k36 _ _ ?_
      refine run_ifp rfl (fun h37 => ?_) (fun h37 => ?_)
      · -- yes ((k : Int) - 1) = (35 : Int)
        refine run_region ?_
        refine Ops.v (Yv.move rfl) ?_
        refine Ops.v (Yv.assign rfl) ?_
        refine Ops.nil ?_
        refine k35 _ _ ?_
        refine run_seq fun K38 k38 => ?_
        refine run_region ?_
        refine Ops.v (Yv.move rfl) ?_
        refine Ops.s (Step.call rfl rfl (weights_fun) (?_) True.intro (by rfl))
        rintro _ w42 ⟨Ad39, c40, rfl, hs42⟩
        replace hs42 := hs29.call hs42
        refine Ops.v (Yv.move rfl) ?_
        refine Ops.v (Yv.extract rfl rfl) ?_
        refine Ops.v (Yv.extract rfl rfl) ?_
        refine Ops.v (Yv.assign rfl) ?_
        refine Ops.v (Yv.assign rfl) ?_
        refine Ops.nil ?_
        refine k38 _ _ ?_
        refine run_seq fun K43 k43 => ?_
        refine run_region ?_
        refine Ops.v (Yv.move rfl) ?_
        refine Ops.s (Step.call rfl rfl (rweights_fun) (?_) True.intro (by rfl))
        rintro _ w47 ⟨Ad44, c45, rfl, hs47⟩
        replace hs47 := hs42.call hs47
        refine Ops.v (Yv.move rfl) ?_
        refine Ops.v (Yv.extract rfl rfl) ?_
        refine Ops.v (Yv.extract rfl rfl) ?_
        refine Ops.v (Yv.assign rfl) ?_
        refine Ops.v (Yv.assign rfl) ?_
        refine Ops.nil ?_
        refine k43 _ _ ?_
        refine run_seq fun K48 k48 => ?_
        refine run_region ?_
        refine Ops.v (Yv.move rfl) ?_
        refine Ops.v (Yv.move rfl) ?_
        refine Ops.v (Yv.ne rfl rfl) ?_
        refine Ops.dec0 (fun h_ => h_ rfl) ?_
        refine Ops.v (Yv.move rfl) ?_
        refine Ops.vg ⟨_, rfl, rfl⟩ (Yv.move rfl) ?_
        refine Ops.vg ⟨_, rfl, rfl⟩ (Yv.move rfl) ?_
        refine Ops.s (Step.call rfl rfl (eqInts_fun (hs47.rdRow 1 rfl) (hs47.rdRow 0 rfl)) (?_) ⟨_, rfl, rfl⟩ (by rfl))
        rintro _ w49 ⟨rfl, hs49⟩
        replace hs49 := hs47.call hs49
        refine Ops.vg ⟨_, rfl, rfl⟩ (Yv.notp rfl) ?_
        refine Ops.v (Yv.pick0 rfl rfl) ?_
        refine Ops.nil ?_
        refine k48 _ _ ?_
        refine run_ifp rfl (fun hx => absurd hx (fun h_ => h_ (rfl))) (fun _ => ?_)
        refine run_skip ?_
        refine k33 _ _ ?_
        refine run_region ?_
        refine Ops.v (Yv.move rfl) ?_
        refine Ops.v (Yv.add rfl rfl (by omega)) ?_
        refine Ops.v (Yv.assign rfl) ?_
        refine Ops.nil ?_
        refine ⟨k + 1, _, ⟨(hs49.pick [2, 3, 4, 5] [.row Ad12 ((pairOut xs ys).length) c13 (u8s zs23) 5 1, .row Ad17 ((pairOut xs ys).length) c18 (u8s (pairOut xs ys)) 5 1, .row Ad7 m2 c8 (u8s ys) 5 1, .row Ad3 m c4 (u8s xs) 5 1] (by decide) rfl), rfl, by omega⟩, Sub.le ⟨rfl, rfl, rfl, rfl, rfl, rfl, rfl, rfl, rfl, lookI rfl (by omega), rfl, trivial⟩, by omega⟩
      · -- no
        refine run_skip ?_
        refine k35 _ _ ?_
        refine run_seq fun K50 k50 => ?_
        refine run_region ?_
        refine Ops.v (Yv.move rfl) ?_
        refine Ops.s (Step.call rfl rfl (weights_fun) (?_) True.intro (by rfl))
        rintro _ w54 ⟨Ad51, c52, rfl, hs54⟩
        replace hs54 := hs29.call hs54
        refine Ops.v (Yv.move rfl) ?_
        refine Ops.v (Yv.extract rfl rfl) ?_
        refine Ops.v (Yv.extract rfl rfl) ?_
        refine Ops.v (Yv.assign rfl) ?_
        refine Ops.v (Yv.assign rfl) ?_
        refine Ops.nil ?_
        refine k50 _ _ ?_
        refine run_seq fun K55 k55 => ?_
        refine run_region ?_
        refine Ops.v (Yv.move rfl) ?_
        refine Ops.s (Step.call rfl rfl (rweights_fun) (?_) True.intro (by rfl))
        rintro _ w59 ⟨Ad56, c57, rfl, hs59⟩
        replace hs59 := hs54.call hs59
        refine Ops.v (Yv.move rfl) ?_
        refine Ops.v (Yv.extract rfl rfl) ?_
        refine Ops.v (Yv.extract rfl rfl) ?_
        refine Ops.v (Yv.assign rfl) ?_
        refine Ops.v (Yv.assign rfl) ?_
        refine Ops.nil ?_
        refine k55 _ _ ?_
        refine run_seq fun K60 k60 => ?_
        refine run_region ?_
        refine Ops.v (Yv.move rfl) ?_
        refine Ops.v (Yv.move rfl) ?_
        refine Ops.v (Yv.ne rfl rfl) ?_
        refine Ops.dec0 (fun h_ => h_ rfl) ?_
        refine Ops.v (Yv.move rfl) ?_
        refine Ops.vg ⟨_, rfl, rfl⟩ (Yv.move rfl) ?_
        refine Ops.vg ⟨_, rfl, rfl⟩ (Yv.move rfl) ?_
        refine Ops.s (Step.call rfl rfl (eqInts_fun (hs59.rdRow 1 rfl) (hs59.rdRow 0 rfl)) (?_) ⟨_, rfl, rfl⟩ (by rfl))
        rintro _ w61 ⟨rfl, hs61⟩
        replace hs61 := hs59.call hs61
        refine Ops.vg ⟨_, rfl, rfl⟩ (Yv.notp rfl) ?_
        refine Ops.v (Yv.pick0 rfl rfl) ?_
        refine Ops.nil ?_
        refine k60 _ _ ?_
        refine run_ifp rfl (fun hx => absurd hx (fun h_ => h_ (rfl))) (fun _ => ?_)
        refine run_skip ?_
        refine k33 _ _ ?_
        refine run_region ?_
        refine Ops.v (Yv.move rfl) ?_
        refine Ops.v (Yv.add rfl rfl (by omega)) ?_
        refine Ops.v (Yv.assign rfl) ?_
        refine Ops.nil ?_
        refine ⟨k + 1, _, ⟨(hs61.pick [2, 3, 4, 5] [.row Ad12 ((pairOut xs ys).length) c13 (u8s zs23) 5 1, .row Ad17 ((pairOut xs ys).length) c18 (u8s (pairOut xs ys)) 5 1, .row Ad7 m2 c8 (u8s ys) 5 1, .row Ad3 m c4 (u8s xs) 5 1] (by decide) rfl), rfl, by omega⟩, Sub.le ⟨rfl, rfl, rfl, rfl, rfl, rfl, rfl, rfl, rfl, lookI rfl (by omega), rfl, trivial⟩, by omega⟩
    · -- no
      refine run_exit ?_
      refine k27 _ _ ?_
      refine run_seq fun K62 k62 => ?_
      refine run_region ?_
      refine Ops.s (Step.call rfl rfl (works_fun) (?_) True.intro (by rfl))
      rintro _ w63 ⟨rfl, hs63⟩
      replace hs63 := hs29.call hs63
      refine Ops.v (Yv.assign rfl) ?_
      refine Ops.nil ?_
      refine k62 _ _ ?_
      refine run_ret ?_
      refine ⟨[.bool true], ⟨_, _, rfl, rfl, rfl⟩, ?_⟩
      exact ⟨rfl, hs63.pick [] _ (by decide) rfl⟩

end Go.Proofs.Zed
