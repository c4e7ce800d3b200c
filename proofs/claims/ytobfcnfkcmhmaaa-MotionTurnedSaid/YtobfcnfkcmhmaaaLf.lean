/- The walk of MotionTurned. -/
import Derived.Test.YtobfcnfkcmhmaaaMy
import Derived.Test.YtobfcnfkcmhmaaaMk
set_option linter.unusedVariables false
set_option linter.unusedSimpArgs false
namespace Go.Proofs.Zed
open Go Go.RowKit Tf
attribute [local irreducible] Try.prog

set_option maxHeartbeats 8000000 in
theorem MotionTurned_fun {w : World} {A : Option Addr} {m c : Nat} {xs : List Int} (hr : Rd w A m 1 (u8s xs)) (hx : Bytes xs) {B : Option Addr} {m2 c2 : Nat} {ys : List Int} (hr2 : Rd w B m2 1 (u8s ys)) (hy : Bytes ys) {sw X Y W H : Int} (hs1 : m * 1 ≤ 140737488351232) (hs2 : m2 * 1 ≤ 140737488351232) : Fun Try.prog 8 [.agg #[.slice A m c, .int .i64 sw, .int .i64 X, .int .i64 Y, .int .i64 W, .int .i64 H, .slice B m2 c2]] w fun v w' => v = .bool true ∧ HS w [] w' := by
  refine fun_run (m := 174) (rs := [.tmp 2]) Try.func8 rfl rfl rfl rfl rfl ?_
  have hs0 := HS.start w
  have hbig := hr.big
  have hlen_xs : xs.length = m := by have := hr.len; rw [u8s_length] at this; omega
  have hlen_ys : ys.length = m2 := by have := hr2.len; rw [u8s_length] at this; omega
  refine run_seq fun K1 k1 => ?_
  refine run_region ?_
  refine Ops.s (Step.box (cs := [.slice A m c, .int .i64 sw, .int .i64 X, .int .i64 Y, .int .i64 W, .int .i64 H, .slice B m2 c2]) hs0 rfl rfl (fun b2 w3 hs3 hb3 => ?_) True.intro (by rfl))
  refine Ops.v (Yv.assign rfl) ?_
  refine Ops.nil ?_
  refine k1 _ _ ?_
  refine run_seq fun K5 k5 => ?_
  refine run_seq fun K6 k6 => ?_
  refine run_region ?_
  refine Ops.s (Step.call rfl rfl (works_fun) (?_) True.intro (by rfl))
  rintro _ w7 ⟨rfl, hs7⟩
  replace hs7 := hs3.call hs7
  refine Ops.v (Yv.not rfl) ?_
  refine Ops.nil ?_
  refine k6 _ _ ?_
  refine run_if0 rfl ?_
  refine run_skip ?_
  refine k5 _ _ ?_
  refine run_seq fun K8 k8 => ?_
  refine run_region ?_
  refine Ops.v (Yv.assign rfl) ?_
  refine Ops.nil ?_
  refine k8 _ _ ?_
  refine run_seq fun K9 k9 => ?_
  refine run_seq fun K10 k10 => ?_
  refine run_region ?_
  refine Ops.v (Yv.assign rfl) ?_
  refine Ops.nil ?_
  refine k10 _ _ ?_
  refine run_block ?_
  refine Run.sub [(0, _), (1, _), (3, _), (4, _), (13, _)] ⟨rfl, rfl, rfl, rfl, rfl, trivial⟩ ?_
  refine run_loop (σ := Nat) (fun k e_ w_ => HS w [.blk b2 [.slice A m c, .int .i64 sw, .int .i64 X, .int .i64 Y, .int .i64 W, .int .i64 H, .slice B m2 c2] 51] w_ ∧ e_ = [(0, .agg #[.slice A m c, .int .i64 sw, .int .i64 X, .int .i64 Y, .int .i64 W, .int .i64 H, .slice B m2 c2]), (1, .pointer (some ⟨b2, 0, none⟩)), (3, .int .i64 (lastF k)), (4, .int .i64 ((k : Int) + 4)), (13, .bool false)] ∧ k ≤ 29)
    (fun k => 29 - k) 0 ?_ ?_
  · -- at the start
    refine ⟨hs7, rfl, by omega⟩
  · -- a round
    rintro k _ w11 ⟨hs11, rfl, f1⟩
    refine run_seq fun K12 k12 => ?_
    refine run_seq fun K13 k13 => ?_
    refine run_region ?_
    refine Ops.v (Yv.move rfl) ?_
    refine Ops.v (Yv.le rfl rfl) ?_
    refine Ops.nil ?_
    refine k13 _ _ ?_
    refine run_ifp rfl (fun h14 => ?_) (fun h14 => ?_)
    · -- yes ((k : Int) + 4) ≤ (32 : Int)
      refine run_skip ?_
      refine k12 _ _ ?_
      refine run_seq fun K15 k15 => ?_
      refine run_block ?_
      refine run_seq fun K16 k16 => ?_
      refine run_region ?_
      refine Ops.v (Yv.move rfl) ?_
      refine Ops.s (Step.call rfl rfl (weights_fun) (?_) True.intro (by rfl))
      rintro _ w20 ⟨Ad17, c18, rfl, hs20⟩
      replace hs20 := hs11.call hs20
      refine Ops.v (Yv.move rfl) ?_
      refine Ops.v (Yv.extract rfl rfl) ?_
      refine Ops.v (Yv.extract rfl rfl) ?_
      refine Ops.v (Yv.assign rfl) ?_
      refine Ops.v (Yv.assign rfl) ?_
      refine Ops.nil ?_
      refine k16 _ _ ?_
      refine run_seq fun K21 k21 => ?_
      refine run_seq fun K22 k22 => ?_
      refine run_region ?_
      have hwe := wt_ok (n := ((k : Int) + 4)) (by omega)
      have hwl : ((wtOut ((k : Int) + 4)).length : Int) = ((k : Int) + 4) := by rw [hwe.2, wtTo_length]; omega
      have hwb : ∀ q, 0 ≤ q → q < ((k : Int) + 4) → 32 ≤ gi (wtOut ((k : Int) + 4)) q ∧ gi (wtOut ((k : Int) + 4)) q ≤ 63 := fun q h0 h1 => by rw [hwe.2]; exact wt_bd (by omega) h0 h1
      refine Ops.v (Yv.move rfl) ?_
      refine Ops.v (Yv.ne rfl rfl) ?_
      refine Ops.dec0 (fun h_ => h_ hwe.1) ?_
      refine Ops.v (Yv.move rfl) ?_
      refine Ops.vg ⟨_, rfl, rfl⟩ (Yv.move rfl) ?_
      refine Ops.vg ⟨_, rfl, rfl⟩ (Yv.len (by rw [L45]; rfl) rfl) ?_
      refine Ops.vg ⟨_, rfl, rfl⟩ (Yv.move rfl) ?_
      refine Ops.vg ⟨_, rfl, rfl⟩ (Yv.ne rfl rfl) ?_
      refine Ops.dec0 (by omega) ?_
      refine Ops.v (Yv.pick0 rfl rfl) ?_
      refine Ops.v (Yv.move rfl) ?_
      refine Ops.vg ⟨_, rfl, rfl⟩ (Yv.move rfl) ?_
      refine Ops.vg ⟨_, rfl, rfl⟩ (Yv.idx L45 rfl rfl ((hs20.rdRow 0 rfl).isSome (i := 0) (by omega) (by omega)) (by omega) (by omega)) ?_
      refine Ops.vg ⟨_, rfl, rfl⟩ (Yv.load A3 rfl (now ((hs20.rdRow 0 rfl).i64 (by omega) (by omega)))) ?_
      refine Ops.vg ⟨_, rfl, rfl⟩ (Yv.lt rfl rfl) ?_
      refine Ops.dec0 (by have := hwb 0 (by omega) (by omega); omega) ?_
      refine Ops.v (Yv.pick0 rfl rfl) ?_
      refine Ops.v (Yv.move rfl) ?_
      refine Ops.vg ⟨_, rfl, rfl⟩ (Yv.move rfl) ?_
      refine Ops.vg ⟨_, rfl, rfl⟩ (Yv.move rfl) ?_
      refine Ops.vg ⟨_, rfl, rfl⟩ (Yv.sub rfl rfl (by omega)) ?_
      refine Ops.vg ⟨_, rfl, rfl⟩ (Yv.idx L45 rfl rfl ((hs20.rdRow 0 rfl).isSome (i := ((k : Int) + 4) - 1) (by omega) (by omega)) (by omega) (by omega)) ?_
      refine Ops.vg ⟨_, rfl, rfl⟩ (Yv.load A3 rfl (now ((hs20.rdRow 0 rfl).i64 (by omega) (by omega)))) ?_
      refine Ops.vg ⟨_, rfl, rfl⟩ (Yv.gt rfl rfl) ?_
      refine Ops.dec0 (by have := hwb (((k : Int) + 4) - 1) (by omega) (by omega); omega) ?_
      refine Ops.v (Yv.pick0 rfl rfl) ?_
      refine Ops.nil ?_
      refine k22 _ _ ?_
      refine run_if0 rfl ?_
      refine run_skip ?_
      refine k21 _ _ ?_
      refine run_seq fun K23 k23 => ?_
      refine run_seq fun K24 k24 => ?_
      refine run_region ?_
      refine Ops.v (Yv.assign rfl) ?_
      refine Ops.nil ?_
      refine k24 _ _ ?_
      refine run_block ?_
      refine Run.sub [(0, _), (1, _), (3, _), (4, _), (5, _), (6, _), (7, _), (13, _), (15, _), (44, _)] ⟨rfl, rfl, rfl, rfl, rfl, rfl, rfl, rfl, rfl, rfl, trivial⟩ ?_
      refine run_loop (σ := Nat) (fun i e_ w_ => HS w [.row Ad17 ((wtOut ((k : Int) + 4)).length) c18 (i64s (wtOut ((k : Int) + 4))) 3 1, .blk b2 [.slice A m c, .int .i64 sw, .int .i64 X, .int .i64 Y, .int .i64 W, .int .i64 H, .slice B m2 c2] 51] w_ ∧ e_ = [(0, .agg #[.slice A m c, .int .i64 sw, .int .i64 X, .int .i64 Y, .int .i64 W, .int .i64 H, .slice B m2 c2]), (1, .pointer (some ⟨b2, 0, none⟩)), (3, .int .i64 (lastF k)), (4, .int .i64 ((k : Int) + 4)), (5, .slice Ad17 ((wtOut ((k : Int) + 4)).length) c18), (6, .int .i64 (wtE ((k : Int) + 4))), (7, .int .i64 ((i : Int) + 1)), (13, .bool false), (15, .bool (decide (((k : Int) + 4) ≤ (32 : Int)))), (44, .bool false)] ∧ (i : Int) + 1 ≤ ((k : Int) + 4))
        (fun i => ((k : Int) + 4).toNat - i) 0 ?_ ?_
      · -- at the start
        refine ⟨hs20, rfl, by omega⟩
      · -- a round
        rintro i _ w25 ⟨hs25, rfl, f2⟩
        refine run_seq fun K26 k26 => ?_
        refine run_seq fun K27 k27 => ?_
        refine run_region ?_
        refine Ops.v (Yv.move rfl) ?_
        refine Ops.v (Yv.move rfl) ?_
        refine Ops.v (Yv.lt rfl rfl) ?_
        refine Ops.nil ?_
        refine k27 _ _ ?_
        refine run_ifp rfl (fun h28 => ?_) (fun h28 => ?_)
        · -- yes ((i : Int) + 1) < ((k : Int) + 4)
          refine run_skip ?_
          refine k26 _ _ ?_
          refine run_seq fun K29 k29 => ?_
          refine run_block ?_
          refine run_seq fun K30 k30 => ?_
          refine run_drawn [] (fun x => Below (w25.drew).heap.size (w25.drew) x) ?_ Tf.mixed (by kernel_rfl) (fun _ _ _ h => h)
          have hs31 := hs25.drew
          have hS32 := Below.refl (w25.drew).heap.size (w25.drew)
          refine Drw.a 0 rfl (by kernel_rfl) (Yv.move rfl) ?_
          refine Drw.a 1 rfl (by kernel_rfl) (Yv.move rfl) ?_
          refine Drw.a 2 rfl (by kernel_rfl) (Yv.idx L45 rfl rfl ((hs31.rdRow 0 rfl).isSome (i := (i : Int) + 1) (by omega) (by omega)) (by omega) (by omega)) ?_
          refine Drw.l 3 rfl (by kernel_rfl) hS32 (Yv.load A3 rfl (fun _ hq_ => (((hs31.grow hq_).rdRow 0 rfl).i64 (by omega) (by omega)))) ?_
          refine Drw.a 4 rfl (by kernel_rfl) (Yv.move rfl) ?_
          refine Drw.a 5 rfl (by kernel_rfl) (Yv.move rfl) ?_
          refine Drw.a 6 rfl (by kernel_rfl) (Yv.sub rfl rfl (by omega)) ?_
          refine Drw.a 7 rfl (by kernel_rfl) (Yv.idx L45 rfl rfl ((hs31.rdRow 0 rfl).isSome (i := ((i : Int) + 1) - 1) (by omega) (by omega)) (by omega) (by omega)) ?_
          refine Drw.l 8 rfl (by kernel_rfl) hS32 (Yv.load A3 rfl (fun _ hq_ => (((hs31.grow hq_).rdRow 0 rfl).i64 (by omega) (by omega)))) ?_
          have hri := wt_rise (n := ((k : Int) + 4)) (i := i) (by omega) (by omega)
          rw [← hwe.2] at hri
          refine Drw.a 9 rfl (by kernel_rfl) (Yv.lt rfl rfl) ?_
          refine Drw.dec0 (by rw [show ((i : Int) + 1 - 1) = i from by omega]; omega) ?_
          refine Drw.done ?_ (by kernel_rfl)
          refine k30 _ _ ?_
          refine run_if0 rfl ?_
          refine run_skip ?_
          refine k29 _ _ ?_
          refine run_region ?_
          refine Ops.v (Yv.move rfl) ?_
          refine Ops.v (Yv.add rfl rfl (by omega)) ?_
          refine Ops.v (Yv.assign rfl) ?_
          refine Ops.nil ?_
          refine ⟨i + 1, _, ⟨hs31, rfl, by omega⟩, Sub.le ⟨rfl, rfl, rfl, rfl, rfl, rfl, lookI rfl (by omega), rfl, rfl, rfl, trivial⟩, (by show ((k : Int) + 4).toNat - (i + 1) < ((k : Int) + 4).toNat - i; omega)⟩
        · -- no
          refine run_exit ?_
          refine k23 _ _ ?_
          refine run_region ?_
          refine Ops.v (Yv.move rfl) ?_
          refine Ops.v (Yv.move rfl) ?_
          refine Ops.v (Yv.sub rfl rfl (by omega)) ?_
          refine Ops.v (Yv.idx L45 rfl rfl ((hs25.rdRow 0 rfl).isSome (i := ((k : Int) + 4) - 1) (by omega) (by omega)) (by omega) (by omega)) ?_
          refine Ops.v (Yv.load A3 rfl (now ((hs25.rdRow 0 rfl).i64 (by omega) (by omega)))) ?_
          refine Ops.v (Yv.assign rfl) ?_
          refine Ops.nil ?_
          refine k15 _ _ ?_
          refine run_region ?_
          refine Ops.v (Yv.move rfl) ?_
          refine Ops.v (Yv.add rfl rfl (by omega)) ?_
          refine Ops.v (Yv.assign rfl) ?_
          refine Ops.nil ?_
          refine ⟨k + 1, _, ⟨(hs25.pick [1] [.blk b2 [.slice A m c, .int .i64 sw, .int .i64 X, .int .i64 Y, .int .i64 W, .int .i64 H, .slice B m2 c2] 51] (by decide) rfl), rfl, by omega⟩, Sub.le ⟨rfl, rfl, rfl, lookI rfl (by omega), rfl, trivial⟩, by omega⟩
    · -- no
      refine run_exit ?_
      have hk9 : k = 29 := by omega
      subst hk9
      refine k9 _ _ ?_
      refine run_seq fun K33 k33 => ?_
      refine run_region ?_
      refine Ops.v (Yv.fld F51_0 rfl) ?_
      refine Ops.v (Yv.load A22 rfl (now (hs11.cell 0 rfl 0 rfl))) ?_
      refine Ops.v (Yv.fld F51_1 rfl) ?_
      refine Ops.v (Yv.load A3 rfl (now (hs11.cell 0 rfl 1 rfl))) ?_
      refine Ops.v (Yv.fld F51_2 rfl) ?_
      refine Ops.v (Yv.loadn (cs := [.int .i64 X, .int .i64 Y, .int .i64 W, .int .i64 H]) A29 S29 rfl (now (hs11.cells 0 rfl 2 4))) ?_
      refine Ops.v (Yv.fld F51_3 rfl) ?_
      refine Ops.v (Yv.load A22 rfl (now (hs11.cell 0 rfl 6 rfl))) ?_
      refine Ops.s (Step.call rfl rfl (above_fun (hs11.rd hr) hx (hs11.rd hr2) hy (by omega)) (?_) True.intro (by rfl))
      rintro _ w37 ⟨Ad34, c35, rfl, hs37⟩
      replace hs37 := hs11.call hs37
      refine Ops.v (Yv.move rfl) ?_
      refine Ops.v (Yv.extract rfl rfl) ?_
      refine Ops.v (Yv.extract rfl rfl) ?_
      refine Ops.v (Yv.assign rfl) ?_
      refine Ops.v (Yv.assign rfl) ?_
      refine Ops.nil ?_
      refine k33 _ _ ?_
      refine run_seq fun K38 k38 => ?_
      refine run_seq fun K39 k39 => ?_
      refine run_region' _ rfl ?_
      refine Ops.v (Yv.move rfl) ?_
      refine Ops.v (Yv.ne rfl rfl) ?_
      refine Ops.dec (fun h40 => ?_) (fun h40 => ?_)
      · -- yes
        refine Ops.v (Yv.move rfl) ?_
        refine Ops.skip ⟨_, rfl, rfl⟩ ?_
        refine Ops.skip ⟨_, rfl, rfl⟩ ?_
        refine Ops.skip ⟨_, rfl, rfl⟩ ?_
        refine Ops.v (Yv.pick1 rfl rfl) ?_
        refine Ops.v (Yv.move rfl) ?_
        refine Ops.skip ⟨_, rfl, rfl⟩ ?_
        refine Ops.skip ⟨_, rfl, rfl⟩ ?_
        refine Ops.skip ⟨_, rfl, rfl⟩ ?_
        refine Ops.skip ⟨_, rfl, rfl⟩ ?_
        refine Ops.v (Yv.pick1 rfl rfl) ?_
        refine Ops.v (Yv.move rfl) ?_
        refine Ops.skip ⟨_, rfl, rfl⟩ ?_
        refine Ops.skip ⟨_, rfl, rfl⟩ ?_
        refine Ops.skip ⟨_, rfl, rfl⟩ ?_
        refine Ops.skip ⟨_, rfl, rfl⟩ ?_
        refine Ops.skip ⟨_, rfl, rfl⟩ ?_
        refine Ops.skip ⟨_, rfl, rfl⟩ ?_
        refine Ops.skip ⟨_, rfl, rfl⟩ ?_
        refine Ops.v (Yv.pick1 rfl rfl) ?_
        refine Ops.v (Yv.move rfl) ?_
        refine Ops.skip ⟨_, rfl, rfl⟩ ?_
        refine Ops.skip ⟨_, rfl, rfl⟩ ?_
        refine Ops.skip ⟨_, rfl, rfl⟩ ?_
        refine Ops.skip ⟨_, rfl, rfl⟩ ?_
        refine Ops.skip ⟨_, rfl, rfl⟩ ?_
        refine Ops.skip ⟨_, rfl, rfl⟩ ?_
        refine Ops.skip ⟨_, rfl, rfl⟩ ?_
        refine Ops.skip ⟨_, rfl, rfl⟩ ?_
        refine Ops.skip ⟨_, rfl, rfl⟩ ?_
        refine Ops.skip ⟨_, rfl, rfl⟩ ?_
        refine Ops.skip ⟨_, rfl, rfl⟩ ?_
        refine Ops.v (Yv.pick1 rfl rfl) ?_
        refine Ops.nil ?_
        refine k39 _ _ ?_
        refine run_if1 rfl ?_
        refine run_seq fun K41 k41 => ?_
        refine run_region ?_
        refine Ops.v (Yv.move rfl) ?_
        refine Ops.v (Yv.eq rfl rfl) ?_
        refine Ops.dec1 (blend_two (by assumption)) ?_
        refine Ops.v (Yv.move rfl) ?_
        refine Ops.vg ⟨_, rfl, rfl⟩ (Yv.move rfl) ?_
        refine Ops.vg ⟨_, rfl, rfl⟩ (Yv.eq rfl rfl) ?_
        refine Ops.dec1 (last_63) ?_
        refine Ops.v (Yv.pick1 rfl rfl) ?_
        refine Ops.v (Yv.assign rfl) ?_
        refine Ops.nil ?_
        refine k41 _ _ ?_
        refine run_ret ?_
        refine ⟨[.bool true], ⟨_, _, rfl, rfl, rfl⟩, ?_⟩
        exact ⟨rfl, hs37.pick [] _ (by decide) rfl⟩
      · -- no
        refine Ops.v (Yv.move rfl) ?_
        refine Ops.vg ⟨_, rfl, rfl⟩ (Yv.fld F51_1 rfl) ?_
        have hbe : blendE xs ys sw X Y W H H = 0 := by omega
        have hok := blend_of hbe
        have hlf := lies_facts hok.2.1
        have hWH := mul_bd (a := W) (b := H) (x := 64) (y := 64) (by omega) (by omega) (by omega) (by omega)
        have hq9 := hok.2.2
        rw [hlen_xs] at hlf
        rw [hlen_ys] at hq9
        have hmm : (m : Int) % sw = 0 := by have := hok.2.1.1.2.1; rwa [hlen_xs] at this
        have hm2w : (m2 : Int) % W = 0 := by rw [hq9]; exact Int.mul_emod_right _ _
        refine Ops.vg ⟨_, rfl, rfl⟩ (Yv.load A3 rfl (now (hs37.cell 1 rfl 1 rfl))) ?_
        refine Ops.vg ⟨_, rfl, rfl⟩ (Yv.lt rfl rfl) ?_
        refine Ops.dec0 (by omega) ?_
        refine Ops.v (Yv.pick0 rfl rfl) ?_
        refine Ops.v (Yv.move rfl) ?_
        refine Ops.vg ⟨_, rfl, rfl⟩ (Yv.fld F51_2 rfl) ?_
        refine Ops.vg ⟨_, rfl, rfl⟩ (Yv.fld F29_2 rfl) ?_
        refine Ops.vg ⟨_, rfl, rfl⟩ (Yv.load A3 rfl (now (hs37.cell 1 rfl 4 rfl))) ?_
        refine Ops.vg ⟨_, rfl, rfl⟩ (Yv.lt rfl rfl) ?_
        refine Ops.dec0 (by omega) ?_
        refine Ops.v (Yv.pick0 rfl rfl) ?_
        refine Ops.v (Yv.move rfl) ?_
        refine Ops.vg ⟨_, rfl, rfl⟩ (Yv.fld F51_0 rfl) ?_
        refine Ops.vg ⟨_, rfl, rfl⟩ (Yv.load A22 rfl (now (hs37.cell 1 rfl 0 rfl))) ?_
        refine Ops.vg ⟨_, rfl, rfl⟩ (Yv.len (by rw [L22]; rfl) rfl) ?_
        refine Ops.vg ⟨_, rfl, rfl⟩ (Yv.fld F51_1 rfl) ?_
        refine Ops.vg ⟨_, rfl, rfl⟩ (Yv.load A3 rfl (now (hs37.cell 1 rfl 1 rfl))) ?_
        refine Ops.vg ⟨_, rfl, rfl⟩ (Yv.rem rfl rfl (by omega) (by omega)) ?_
        refine Ops.vg ⟨_, rfl, rfl⟩ (Yv.ne rfl rfl) ?_
        refine Ops.dec0 (fun h_ => h_ hmm) ?_
        refine Ops.v (Yv.pick0 rfl rfl) ?_
        refine Ops.v (Yv.move rfl) ?_
        refine Ops.vg ⟨_, rfl, rfl⟩ (Yv.fld F51_3 rfl) ?_
        refine Ops.vg ⟨_, rfl, rfl⟩ (Yv.load A22 rfl (now (hs37.cell 1 rfl 6 rfl))) ?_
        refine Ops.vg ⟨_, rfl, rfl⟩ (Yv.len (by rw [L22]; rfl) rfl) ?_
        refine Ops.vg ⟨_, rfl, rfl⟩ (Yv.fld F51_2 rfl) ?_
        refine Ops.vg ⟨_, rfl, rfl⟩ (Yv.fld F29_2 rfl) ?_
        refine Ops.vg ⟨_, rfl, rfl⟩ (Yv.load A3 rfl (now (hs37.cell 1 rfl 4 rfl))) ?_
        refine Ops.vg ⟨_, rfl, rfl⟩ (Yv.fld F51_2 rfl) ?_
        refine Ops.vg ⟨_, rfl, rfl⟩ (Yv.fld F29_3 rfl) ?_
        refine Ops.vg ⟨_, rfl, rfl⟩ (Yv.load A3 rfl (now (hs37.cell 1 rfl 5 rfl))) ?_
        refine Ops.vg ⟨_, rfl, rfl⟩ (Yv.mul rfl rfl (by omega)) ?_
        refine Ops.vg ⟨_, rfl, rfl⟩ (Yv.ne rfl rfl) ?_
        refine Ops.dec0 (fun h_ => h_ hq9) ?_
        refine Ops.v (Yv.pick0 rfl rfl) ?_
        refine Ops.nil ?_
        refine k39 _ _ ?_
        refine run_if0 rfl ?_
        refine run_skip ?_
        refine k38 _ _ ?_
        refine run_seq fun K42 k42 => ?_
        refine run_drawn [] (fun x => Below (w37.drew).heap.size (w37.drew) x) ?_ Tf.mixed (by kernel_rfl) (fun _ _ _ h => h)
        have hs43 := hs37.drew
        have hS44 := Below.refl (w37.drew).heap.size (w37.drew)
        refine Drw.a 0 rfl (by kernel_rfl) (Yv.fld F51_0 rfl) ?_
        refine Drw.l 1 rfl (by kernel_rfl) hS44 (Yv.load A22 rfl (fun _ hq_ => ((hs43.grow hq_).cell 1 rfl 0 rfl))) ?_
        refine Drw.a 2 rfl (by kernel_rfl) (Yv.fld F51_1 rfl) ?_
        refine Drw.l 3 rfl (by kernel_rfl) hS44 (Yv.load A3 rfl (fun _ hq_ => ((hs43.grow hq_).cell 1 rfl 1 rfl))) ?_
        refine Drw.a 5 rfl (by kernel_rfl) (Yv.fld F51_0 rfl) ?_
        refine Drw.l 6 rfl (by kernel_rfl) hS44 (Yv.load A22 rfl (fun _ hq_ => ((hs43.grow hq_).cell 1 rfl 0 rfl))) ?_
        refine Drw.a 7 rfl (by kernel_rfl) (Yv.len (by rw [L22]; rfl) rfl) ?_
        refine Drw.a 8 rfl (by kernel_rfl) (Yv.fld F51_1 rfl) ?_
        refine Drw.l 9 rfl (by kernel_rfl) hS44 (Yv.load A3 rfl (fun _ hq_ => ((hs43.grow hq_).cell 1 rfl 1 rfl))) ?_
        refine Drw.a 10 rfl (by kernel_rfl) (Yv.quo rfl rfl (by omega) (by omega) (by omega)) ?_
        refine Drw.a 11 rfl (by kernel_rfl) (Yv.fld F51_2 rfl) ?_
        refine Drw.a 12 rfl (by kernel_rfl) (Yv.fld F29_1 rfl) ?_
        refine Drw.l 13 rfl (by kernel_rfl) hS44 (Yv.load A3 rfl (fun _ hq_ => ((hs43.grow hq_).cell 1 rfl 3 rfl))) ?_
        refine Drw.a 14 rfl (by kernel_rfl) (Yv.fld F51_2 rfl) ?_
        refine Drw.a 15 rfl (by kernel_rfl) (Yv.fld F29_0 rfl) ?_
        refine Drw.l 16 rfl (by kernel_rfl) hS44 (Yv.load A3 rfl (fun _ hq_ => ((hs43.grow hq_).cell 1 rfl 2 rfl))) ?_
        refine Drw.a 17 rfl (by kernel_rfl) (Yv.fld F51_2 rfl) ?_
        refine Drw.a 18 rfl (by kernel_rfl) (Yv.fld F29_3 rfl) ?_
        refine Drw.l 19 rfl (by kernel_rfl) hS44 (Yv.load A3 rfl (fun _ hq_ => ((hs43.grow hq_).cell 1 rfl 5 rfl))) ?_
        refine Drw.a 20 rfl (by kernel_rfl) (Yv.fld F51_2 rfl) ?_
        refine Drw.a 21 rfl (by kernel_rfl) (Yv.fld F29_2 rfl) ?_
        refine Drw.l 22 rfl (by kernel_rfl) hS44 (Yv.load A3 rfl (fun _ hq_ => ((hs43.grow hq_).cell 1 rfl 4 rfl))) ?_
        refine Drw.a 23 rfl (by kernel_rfl) (Yv.buildS (cs := #[.int .i64 Y, .int .i64 X, .int .i64 H, .int .i64 W]) T29 rfl rfl) ?_
        refine Drw.a 24 rfl (by kernel_rfl) (Yv.fld F51_3 rfl) ?_
        refine Drw.l 25 rfl (by kernel_rfl) hS44 (Yv.load A22 rfl (fun _ hq_ => ((hs43.grow hq_).cell 1 rfl 6 rfl))) ?_
        refine Drw.a 26 rfl (by kernel_rfl) (Yv.fld F51_2 rfl) ?_
        refine Drw.a 27 rfl (by kernel_rfl) (Yv.fld F29_2 rfl) ?_
        refine Drw.l 28 rfl (by kernel_rfl) hS44 (Yv.load A3 rfl (fun _ hq_ => ((hs43.grow hq_).cell 1 rfl 4 rfl))) ?_
        refine Drw.one 4 rfl (by kernel_rfl) (Step.call rfl rfl (transposed_fun (hs43.rd hr) hx (by omega) (by omega) (by omega)) (?_) True.intro (by rfl))
        rintro _ w48 ⟨Ad45, c46, rfl, hs48⟩
        have hS49 := HS.keepS hS44 (Nat.le_refl _) hs48
        refine ⟨fun _ _ => hS49, ?_⟩
        replace hs48 := hs43.call hs48
        refine Drw.one 29 rfl (by kernel_rfl) (Step.call rfl rfl (transposed_fun (hs48.rd hr2) hy (by omega) (by omega) (by omega)) (?_) True.intro (by rfl))
        rintro _ w53 ⟨Ad50, c51, rfl, hs53⟩
        have hS54 := HS.keepS hS49 (Nat.le_refl _) hs53
        refine ⟨fun _ _ => hS54, ?_⟩
        replace hs53 := hs48.call hs53
        refine Drw.one 30 rfl (by kernel_rfl) (Step.call rfl rfl (left_fun (hs53.rdRow 1 rfl) (turnTo_bytes hx _ _ _ _) (hs53.rdRow 0 rfl) (turnTo_bytes hy _ _ _ _) (by omega)) (?_) True.intro (by rfl))
        rintro _ w58 ⟨Ad55, c56, rfl, hs58⟩
        have hS59 := HS.keepS hS54 (Nat.le_refl _) hs58
        refine ⟨fun _ _ => hS59, ?_⟩
        replace hs58 := hs53.call hs58
        refine Drw.a 31 rfl (by kernel_rfl) (Yv.move rfl) ?_
        refine Drw.a 32 rfl (by kernel_rfl) (Yv.extract rfl rfl) ?_
        refine Drw.a 33 rfl (by kernel_rfl) (Yv.extract rfl rfl) ?_
        refine Drw.a 34 rfl (by kernel_rfl) (Yv.assign rfl) ?_
        refine Drw.a 35 rfl (by kernel_rfl) (Yv.assign rfl) ?_
        refine Drw.done ?_ (by kernel_rfl)
        refine k42 _ _ ?_
        refine run_seq fun K60 k60 => ?_
        refine run_region ?_
        have ht9 := turned_law15 hlen_xs hlen_ys hbe
        have hbl := blend_len (up := true) hbe
        refine Ops.v (Yv.move rfl) ?_
        refine Ops.v (Yv.eq rfl rfl) ?_
        refine Ops.dec1 (ht9.1) ?_
        refine Ops.v (Yv.move rfl) ?_
        refine Ops.vg ⟨_, rfl, rfl⟩ (Yv.move rfl) ?_
        refine Ops.vg ⟨_, rfl, rfl⟩ (Yv.eq rfl rfl) ?_
        refine Ops.dec1 (last_63) ?_
        refine Ops.v (Yv.pick1 rfl rfl) ?_
        refine Ops.v (Yv.move rfl) ?_
        refine Ops.vg ⟨_, rfl, rfl⟩ (Yv.move rfl) ?_
        refine Ops.vg ⟨_, rfl, rfl⟩ (Yv.move rfl) ?_
        refine Ops.vg ⟨_, rfl, rfl⟩ (Yv.fld F51_1 rfl) ?_
        refine Ops.vg ⟨_, rfl, rfl⟩ (Yv.load A3 rfl (now (hs58.cell 4 rfl 1 rfl))) ?_
        have hlw9 : ((blendOut true xs ys sw X Y W H H).length : Int) % sw = 0 := by rw [hbl, hlen_xs]; exact hmm
        refine Ops.s (Step.call rfl rfl (transposed_fun (hs58.rdRow 3 rfl) (blendOut_bytes rfl hx hy) (by omega) (by omega) (by omega)) (?_) ⟨_, rfl, rfl⟩ (by rfl))
        rintro _ w64 ⟨Ad61, c62, rfl, hs64⟩
        replace hs64 := hs58.call hs64
        refine Ops.s (Step.call rfl rfl (eqBytes_fun (hs64.rdRow 1 rfl) (hs64.rdRow 0 rfl)) (?_) ⟨_, rfl, rfl⟩ (by rfl))
        rintro _ w65 ⟨rfl, hs65⟩
        replace hs65 := hs64.call hs65
        refine Ops.dec1 (by rw [ht9.2, hbl, hlen_xs]) ?_
        refine Ops.v (Yv.pick1 rfl rfl) ?_
        refine Ops.v (Yv.move rfl) ?_
        refine Ops.vg ⟨_, rfl, rfl⟩ (Yv.move rfl) ?_
        refine Ops.vg ⟨_, rfl, rfl⟩ (Yv.len (by rw [L22]; rfl) rfl) ?_
        refine Ops.vg ⟨_, rfl, rfl⟩ (Yv.fld F51_0 rfl) ?_
        refine Ops.vg ⟨_, rfl, rfl⟩ (Yv.load A22 rfl (now (hs65.cell 5 rfl 0 rfl))) ?_
        refine Ops.vg ⟨_, rfl, rfl⟩ (Yv.len (by rw [L22]; rfl) rfl) ?_
        refine Ops.vg ⟨_, rfl, rfl⟩ (Yv.eq rfl rfl) ?_
        refine Ops.dec1 (by omega) ?_
        refine Ops.v (Yv.pick1 rfl rfl) ?_
        refine Ops.v (Yv.assign rfl) ?_
        refine Ops.nil ?_
        refine k60 _ _ ?_
        refine run_ret ?_
        refine ⟨[.bool true], ⟨_, _, rfl, rfl, rfl⟩, ?_⟩
        exact ⟨rfl, hs65.pick [] _ (by decide) rfl⟩

end Go.Proofs.Zed
