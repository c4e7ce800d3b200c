/- The walk of MotionBetween. -/
import Derived.Test.YtobfcnfkcmhmaaaMy
import Derived.Test.YtobfcnfkcmhmaaaMk
set_option linter.unusedVariables false
set_option linter.unusedSimpArgs false
namespace Go.Proofs.Zed
open Go Go.RowKit Tf
attribute [local irreducible] Try.prog

set_option maxHeartbeats 8000000 in
theorem MotionBetween_fun {w : World} {A : Option Addr} {m c : Nat} {xs : List Int} (hr : Rd w A m 1 (u8s xs)) (hx : Bytes xs) {B : Option Addr} {m2 c2 : Nat} {ys : List Int} (hr2 : Rd w B m2 1 (u8s ys)) (hy : Bytes ys) {sw X Y W H : Int} {left : Bool} (hs1 : m * 1 ≤ 140737488351232) (hs2 : m2 * 1 ≤ 140737488351232) (hc : m ≤ c) (hc2 : m2 ≤ c2) : Fun Try.prog 7 [.agg #[.slice A m c, .int .i64 sw, .int .i64 X, .int .i64 Y, .int .i64 W, .int .i64 H, .slice B m2 c2], .bool left] w fun v w' => v = .bool true ∧ HS w [] w' := by
  refine fun_run (m := 241) (rs := [.tmp 4]) Try.func7 rfl rfl rfl rfl rfl ?_
  have hs0 := HS.start w
  have hbig := hr.big
  have hlen_xs : xs.length = m := by have := hr.len; rw [u8s_length] at this; omega
  have hlen_ys : ys.length = m2 := by have := hr2.len; rw [u8s_length] at this; omega
  have hl1 : (xs.take (min (m : Int) (m2 : Int) : Int).toNat).length = (min (m : Int) (m2 : Int) : Int).toNat := by rw [List.length_take]; omega
  have hl2 : (ys.take (min (m : Int) (m2 : Int) : Int).toNat).length = (min (m : Int) (m2 : Int) : Int).toNat := by rw [List.length_take]; omega
  have hp1 := pair_ok (a := xs.take (min (m : Int) (m2 : Int) : Int).toNat) (b := ys.take (min (m : Int) (m2 : Int) : Int).toNat) (by rw [hl1, hl2])
  have hp2 := pair_ok (a := ys.take (min (m : Int) (m2 : Int) : Int).toNat) (b := xs.take (min (m : Int) (m2 : Int) : Int).toNat) (by rw [hl1, hl2])
  have hp3 := pair_ok (a := xs) (b := xs) rfl
  have hpl : (pairOut (xs.take (min (m : Int) (m2 : Int) : Int).toNat) (ys.take (min (m : Int) (m2 : Int) : Int).toNat)).length = (min (m : Int) (m2 : Int) : Int).toNat := by rw [hp1.2, pairTo_length, hl1]
  have hpc := pair_comm (a := xs.take (min (m : Int) (m2 : Int) : Int).toNat) (b := ys.take (min (m : Int) (m2 : Int) : Int).toNat) (by rw [hl1, hl2])
  have hps := pair_self xs
  refine run_seq fun K1 k1 => ?_
  refine run_region ?_
  refine Ops.s (Step.box (cs := [.slice A m c, .int .i64 sw, .int .i64 X, .int .i64 Y, .int .i64 W, .int .i64 H, .slice B m2 c2]) hs0 rfl rfl (fun b2 w3 hs3 hb3 => ?_) True.intro (by rfl))
  refine Ops.v (Yv.assign rfl) ?_
  refine Ops.nil ?_
  refine k1 _ _ ?_
  refine run_seq fun K5 k5 => ?_
  refine run_seq fun K6 k6 => ?_
  refine run_region ?_
  refine Ops.s (Step.call rfl rfl (works_fun) (?_) True.intro (by rfl))
  rintro _ w7 ⟨rfl, hs7⟩
  replace hs7 := hs3.call hs7
  refine Ops.v (Yv.not rfl) ?_
  refine Ops.nil ?_
  refine k6 _ _ ?_
  refine run_if0 rfl ?_
  refine run_skip ?_
  refine k5 _ _ ?_
  refine run_seq fun K8 k8 => ?_
  refine run_region ?_
  refine Ops.v (Yv.fld F51_0 rfl) ?_
  refine Ops.v (Yv.load A22 rfl (now (hs7.cell 0 rfl 0 rfl))) ?_
  refine Ops.v (Yv.len (by rw [L22]; rfl) rfl) ?_
  refine Ops.v (Yv.fld F51_3 rfl) ?_
  refine Ops.v (Yv.load A22 rfl (now (hs7.cell 0 rfl 6 rfl))) ?_
  refine Ops.v (Yv.len (by rw [L22]; rfl) rfl) ?_
  refine Ops.v (Yv.min rfl rfl) ?_
  refine Ops.v (Yv.assign rfl) ?_
  refine Ops.nil ?_
  refine k8 _ _ ?_
  refine run_seq fun K9 k9 => ?_
  refine run_drawn [] (fun x => Below (w7.drew).heap.size (w7.drew) x) ?_ Tf.mixed (by kernel_rfl) (fun _ _ _ h => h)
  have hs10 := hs7.drew
  have hS11 := Below.refl (w7.drew).heap.size (w7.drew)
  refine Drw.a 0 rfl (by kernel_rfl) (Yv.fld F51_0 rfl) ?_
  refine Drw.l 1 rfl (by kernel_rfl) hS11 (Yv.load A22 rfl (fun _ hq_ => ((hs10.grow hq_).cell 0 rfl 0 rfl))) ?_
  refine Drw.a 2 rfl (by kernel_rfl) (Yv.move rfl) ?_
  refine Drw.a 3 rfl (by kernel_rfl) (Yv.partTo ((min (m : Int) (m2 : Int) : Int).toNat) L22 rfl rfl (by omega) (by omega)) ?_
  refine Drw.a 4 rfl (by kernel_rfl) (Yv.fld F51_3 rfl) ?_
  refine Drw.l 5 rfl (by kernel_rfl) hS11 (Yv.load A22 rfl (fun _ hq_ => ((hs10.grow hq_).cell 0 rfl 6 rfl))) ?_
  refine Drw.a 6 rfl (by kernel_rfl) (Yv.move rfl) ?_
  refine Drw.a 7 rfl (by kernel_rfl) (Yv.partTo ((min (m : Int) (m2 : Int) : Int).toNat) L22 rfl rfl (by omega) (by omega)) ?_
  refine Drw.one 8 rfl (by kernel_rfl) (Step.call rfl rfl (pair_fun ((hs10.rd hr).pre8 ((min (m : Int) (m2 : Int) : Int).toNat) (by omega)) (take_bytes hx _) ((hs10.rd hr2).pre8 ((min (m : Int) (m2 : Int) : Int).toNat) (by omega)) (take_bytes hy _) (by omega)) (?_) True.intro (by rfl))
  rintro _ w15 ⟨Ad12, c13, rfl, hs15⟩
  have hS16 := HS.keepS hS11 (Nat.le_refl _) hs15
  refine ⟨fun _ _ => hS16, ?_⟩
  replace hs15 := hs10.call hs15
  refine Drw.a 9 rfl (by kernel_rfl) (Yv.move rfl) ?_
  refine Drw.a 10 rfl (by kernel_rfl) (Yv.extract rfl rfl) ?_
  refine Drw.a 11 rfl (by kernel_rfl) (Yv.extract rfl rfl) ?_
  refine Drw.a 12 rfl (by kernel_rfl) (Yv.assign rfl) ?_
  refine Drw.a 13 rfl (by kernel_rfl) (Yv.assign rfl) ?_
  refine Drw.done ?_ (by kernel_rfl)
  refine k9 _ _ ?_
  refine run_seq fun K17 k17 => ?_
  refine run_drawn [] (fun x => Below (w15.drew).heap.size (w15.drew) x) ?_ Tf.mixed (by kernel_rfl) (fun _ _ _ h => h)
  have hs18 := hs15.drew
  have hS19 := Below.refl (w15.drew).heap.size (w15.drew)
  refine Drw.a 0 rfl (by kernel_rfl) (Yv.fld F51_3 rfl) ?_
  refine Drw.l 1 rfl (by kernel_rfl) hS19 (Yv.load A22 rfl (fun _ hq_ => ((hs18.grow hq_).cell 1 rfl 6 rfl))) ?_
  refine Drw.a 2 rfl (by kernel_rfl) (Yv.move rfl) ?_
  refine Drw.a 3 rfl (by kernel_rfl) (Yv.partTo ((min (m : Int) (m2 : Int) : Int).toNat) L22 rfl rfl (by omega) (by omega)) ?_
  refine Drw.a 4 rfl (by kernel_rfl) (Yv.fld F51_0 rfl) ?_
  refine Drw.l 5 rfl (by kernel_rfl) hS19 (Yv.load A22 rfl (fun _ hq_ => ((hs18.grow hq_).cell 1 rfl 0 rfl))) ?_
  refine Drw.a 6 rfl (by kernel_rfl) (Yv.move rfl) ?_
  refine Drw.a 7 rfl (by kernel_rfl) (Yv.partTo ((min (m : Int) (m2 : Int) : Int).toNat) L22 rfl rfl (by omega) (by omega)) ?_
  refine Drw.one 8 rfl (by kernel_rfl) (Step.call rfl rfl (pair_fun ((hs18.rd hr2).pre8 ((min (m : Int) (m2 : Int) : Int).toNat) (by omega)) (take_bytes hy _) ((hs18.rd hr).pre8 ((min (m : Int) (m2 : Int) : Int).toNat) (by omega)) (take_bytes hx _) (by omega)) (?_) True.intro (by rfl))
  rintro _ w23 ⟨Ad20, c21, rfl, hs23⟩
  have hS24 := HS.keepS hS19 (Nat.le_refl _) hs23
  refine ⟨fun _ _ => hS24, ?_⟩
  replace hs23 := hs18.call hs23
  refine Drw.a 9 rfl (by kernel_rfl) (Yv.move rfl) ?_
  refine Drw.a 10 rfl (by kernel_rfl) (Yv.extract rfl rfl) ?_
  refine Drw.a 11 rfl (by kernel_rfl) (Yv.extract rfl rfl) ?_
  refine Drw.a 12 rfl (by kernel_rfl) (Yv.assign rfl) ?_
  refine Drw.a 13 rfl (by kernel_rfl) (Yv.assign rfl) ?_
  refine Drw.done ?_ (by kernel_rfl)
  refine k17 _ _ ?_
  refine run_seq fun K25 k25 => ?_
  refine run_region ?_
  refine Ops.v (Yv.fld F51_0 rfl) ?_
  refine Ops.v (Yv.load A22 rfl (now (hs23.cell 2 rfl 0 rfl))) ?_
  refine Ops.v (Yv.fld F51_0 rfl) ?_
  refine Ops.v (Yv.load A22 rfl (now (hs23.cell 2 rfl 0 rfl))) ?_
  refine Ops.s (Step.call rfl rfl (pair_fun (hs23.rd hr) hx (hs23.rd hr) hx (by omega)) (?_) True.intro (by rfl))
  rintro _ w29 ⟨Ad26, c27, rfl, hs29⟩
  replace hs29 := hs23.call hs29
  refine Ops.v (Yv.move rfl) ?_
  refine Ops.v (Yv.extract rfl rfl) ?_
  refine Ops.v (Yv.extract rfl rfl) ?_
  refine Ops.v (Yv.assign rfl) ?_
  refine Ops.v (Yv.assign rfl) ?_
  refine Ops.nil ?_
  refine k25 _ _ ?_
  refine run_seq fun K30 k30 => ?_
  refine run_seq fun K31 k31 => ?_
  refine run_region ?_
  refine Ops.v (Yv.move rfl) ?_
  refine Ops.v (Yv.ne rfl rfl) ?_
  refine Ops.dec0 (fun h_ => h_ hp1.1) ?_
  refine Ops.v (Yv.move rfl) ?_
  refine Ops.vg ⟨_, rfl, rfl⟩ (Yv.move rfl) ?_
  refine Ops.vg ⟨_, rfl, rfl⟩ (Yv.ne rfl rfl) ?_
  refine Ops.dec0 (fun h_ => h_ hp2.1) ?_
  refine Ops.v (Yv.pick0 rfl rfl) ?_
  refine Ops.v (Yv.move rfl) ?_
  refine Ops.vg ⟨_, rfl, rfl⟩ (Yv.move rfl) ?_
  refine Ops.vg ⟨_, rfl, rfl⟩ (Yv.ne rfl rfl) ?_
  refine Ops.dec0 (fun h_ => h_ hp3.1) ?_
  refine Ops.v (Yv.pick0 rfl rfl) ?_
  refine Ops.v (Yv.move rfl) ?_
  refine Ops.vg ⟨_, rfl, rfl⟩ (Yv.move rfl) ?_
  refine Ops.vg ⟨_, rfl, rfl⟩ (Yv.move rfl) ?_
  refine Ops.s (Step.call rfl rfl (eqBytes_fun (hs29.rdRow 2 rfl) (hs29.rdRow 1 rfl)) (?_) ⟨_, rfl, rfl⟩ (by rfl))
  rintro _ w32 ⟨rfl, hs32⟩
  replace hs32 := hs29.call hs32
  refine Ops.dec1 (hpc) ?_
  refine Ops.vg ⟨_, rfl, rfl⟩ (Yv.not rfl) ?_
  refine Ops.v (Yv.pick0 rfl rfl) ?_
  refine Ops.v (Yv.move rfl) ?_
  refine Ops.vg ⟨_, rfl, rfl⟩ (Yv.move rfl) ?_
  refine Ops.vg ⟨_, rfl, rfl⟩ (Yv.fld F51_0 rfl) ?_
  refine Ops.vg ⟨_, rfl, rfl⟩ (Yv.load A22 rfl (now (hs32.cell 3 rfl 0 rfl))) ?_
  refine Ops.s (Step.call rfl rfl (eqBytes_fun (hs32.rdRow 0 rfl) (hs32.rd hr)) (?_) ⟨_, rfl, rfl⟩ (by rfl))
  rintro _ w33 ⟨rfl, hs33⟩
  replace hs33 := hs32.call hs33
  refine Ops.dec1 (hps) ?_
  refine Ops.vg ⟨_, rfl, rfl⟩ (Yv.not rfl) ?_
  refine Ops.v (Yv.pick0 rfl rfl) ?_
  refine Ops.v (Yv.move rfl) ?_
  refine Ops.vg ⟨_, rfl, rfl⟩ (Yv.move rfl) ?_
  refine Ops.vg ⟨_, rfl, rfl⟩ (Yv.len (by rw [L22]; rfl) rfl) ?_
  refine Ops.vg ⟨_, rfl, rfl⟩ (Yv.move rfl) ?_
  refine Ops.vg ⟨_, rfl, rfl⟩ (Yv.ne rfl rfl) ?_
  refine Ops.dec0 (by omega) ?_
  refine Ops.v (Yv.pick0 rfl rfl) ?_
  refine Ops.nil ?_
  refine k31 _ _ ?_
  refine run_if0 rfl ?_
  refine run_skip ?_
  refine k30 _ _ ?_
  refine run_seq fun K34 k34 => ?_
  refine run_seq fun K35 k35 => ?_
  refine run_region ?_
  refine Ops.v (Yv.assign rfl) ?_
  refine Ops.nil ?_
  refine k35 _ _ ?_
  refine run_block ?_
  refine Run.sub [(0, _), (1, _), (2, _), (5, _), (6, _), (7, _), (8, _), (9, _), (10, _), (11, _), (12, _), (19, _), (87, _)] ⟨rfl, rfl, rfl, rfl, rfl, rfl, rfl, rfl, rfl, rfl, rfl, rfl, rfl, trivial⟩ ?_
  refine run_loop (σ := Nat) (fun k e_ w_ => HS w [.row Ad26 ((pairOut xs xs).length) c27 (u8s (pairOut xs xs)) 5 1, .row Ad20 ((pairOut (ys.take ((min (m : Int) (m2 : Int) : Int).toNat)) (xs.take ((min (m : Int) (m2 : Int) : Int).toNat))).length) c21 (u8s (pairOut (ys.take ((min (m : Int) (m2 : Int) : Int).toNat)) (xs.take ((min (m : Int) (m2 : Int) : Int).toNat)))) 5 1, .row Ad12 ((pairOut (xs.take ((min (m : Int) (m2 : Int) : Int).toNat)) (ys.take ((min (m : Int) (m2 : Int) : Int).toNat))).length) c13 (u8s (pairOut (xs.take ((min (m : Int) (m2 : Int) : Int).toNat)) (ys.take ((min (m : Int) (m2 : Int) : Int).toNat)))) 5 1, .blk b2 [.slice A m c, .int .i64 sw, .int .i64 X, .int .i64 Y, .int .i64 W, .int .i64 H, .slice B m2 c2] 51] w_ ∧ e_ = [(0, .agg #[.slice A m c, .int .i64 sw, .int .i64 X, .int .i64 Y, .int .i64 W, .int .i64 H, .slice B m2 c2]), (1, .bool left), (2, .pointer (some ⟨b2, 0, none⟩)), (5, .int .i64 (min (m : Int) (m2 : Int))), (6, .slice Ad12 ((pairOut (xs.take ((min (m : Int) (m2 : Int) : Int).toNat)) (ys.take ((min (m : Int) (m2 : Int) : Int).toNat))).length) c13), (7, .int .i64 (pairE (xs.take ((min (m : Int) (m2 : Int) : Int).toNat)) (ys.take ((min (m : Int) (m2 : Int) : Int).toNat)))), (8, .slice Ad20 ((pairOut (ys.take ((min (m : Int) (m2 : Int) : Int).toNat)) (xs.take ((min (m : Int) (m2 : Int) : Int).toNat))).length) c21), (9, .int .i64 (pairE (ys.take ((min (m : Int) (m2 : Int) : Int).toNat)) (xs.take ((min (m : Int) (m2 : Int) : Int).toNat)))), (10, .slice Ad26 ((pairOut xs xs).length) c27), (11, .int .i64 (pairE xs xs)), (12, .int .i64 (k : Int)), (19, .bool false), (87, .bool false)] ∧ k ≤ (min (m : Int) (m2 : Int) : Int).toNat)
    (fun k => (min (m : Int) (m2 : Int) : Int).toNat - k) 0 ?_ ?_
  · -- at the start
    refine ⟨hs33, rfl, by omega⟩
  · -- a round
    rintro k _ w36 ⟨hs36, rfl, f1⟩
    refine run_seq fun K37 k37 => ?_
    refine run_seq fun K38 k38 => ?_
    refine run_region ?_
    refine Ops.v (Yv.move rfl) ?_
    refine Ops.v (Yv.move rfl) ?_
    refine Ops.v (Yv.lt rfl rfl) ?_
    refine Ops.nil ?_
    refine k38 _ _ ?_
    refine run_ifp rfl (fun h39 => ?_) (fun h39 => ?_)
    · -- yes (k : Int) < (min (m : Int) (m2 : Int))
      refine run_skip ?_
      refine k37 _ _ ?_
      refine run_seq fun K40 k40 => ?_
      refine run_block ?_
      refine run_seq fun K41 k41 => ?_
      refine run_drawn [] (fun x => Below (w36.drew).heap.size (w36.drew) x) ?_ Tf.mixed (by kernel_rfl) (fun _ _ _ h => h)
      have hs42 := hs36.drew
      have hS43 := Below.refl (w36.drew).heap.size (w36.drew)
      refine Drw.a 0 rfl (by kernel_rfl) (Yv.move rfl) ?_
      refine Drw.a 1 rfl (by kernel_rfl) (Yv.move rfl) ?_
      refine Drw.a 2 rfl (by kernel_rfl) (Yv.idx L22 rfl rfl ((hs42.rdRow 2 rfl).isSome (i := (k : Int)) (by omega) (by omega)) (by omega) (by omega)) ?_
      refine Drw.l 3 rfl (by kernel_rfl) hS43 (Yv.load A5 rfl (fun _ hq_ => (((hs42.grow hq_).rdRow 2 rfl).u8 (by omega) (by omega)))) ?_
      have g44 := gi_bytes (xs := pairOut (xs.take ((min (m : Int) (m2 : Int) : Int).toNat)) (ys.take ((min (m : Int) (m2 : Int) : Int).toNat))) (pairOut_bytes (take_bytes hx _) (take_bytes hy _)) (k : Int)
      refine Drw.a 4 rfl (by kernel_rfl) (Yv.fld F51_0 rfl) ?_
      refine Drw.l 5 rfl (by kernel_rfl) hS43 (Yv.load A22 rfl (fun _ hq_ => ((hs42.grow hq_).cell 3 rfl 0 rfl))) ?_
      refine Drw.a 6 rfl (by kernel_rfl) (Yv.move rfl) ?_
      refine Drw.a 7 rfl (by kernel_rfl) (Yv.idx L22 rfl rfl ((hs42.rd hr).isSome (i := (k : Int)) (by omega) (by omega)) (by omega) (by omega)) ?_
      refine Drw.l 8 rfl (by kernel_rfl) hS43 (Yv.load A5 rfl (fun _ hq_ => (((hs42.grow hq_).rd hr).u8 (by omega) (by omega)))) ?_
      have g45 := gi_bytes (xs := xs) hx (k : Int)
      refine Drw.a 9 rfl (by kernel_rfl) (Yv.fld F51_3 rfl) ?_
      refine Drw.l 10 rfl (by kernel_rfl) hS43 (Yv.load A22 rfl (fun _ hq_ => ((hs42.grow hq_).cell 3 rfl 6 rfl))) ?_
      refine Drw.a 11 rfl (by kernel_rfl) (Yv.move rfl) ?_
      refine Drw.a 12 rfl (by kernel_rfl) (Yv.idx L22 rfl rfl ((hs42.rd hr2).isSome (i := (k : Int)) (by omega) (by omega)) (by omega) (by omega)) ?_
      refine Drw.l 13 rfl (by kernel_rfl) hS43 (Yv.load A5 rfl (fun _ hq_ => (((hs42.grow hq_).rd hr2).u8 (by omega) (by omega)))) ?_
      have g46 := gi_bytes (xs := ys) hy (k : Int)
      have hpb := pair_between (xs := xs) (ys := ys) (i := k) hl1 hl2 (by omega)
      refine Drw.one 14 rfl (by kernel_rfl) (Step.call rfl rfl (between_fun) (?_) True.intro (by rfl))
      rintro _ _ ⟨rfl, rfl⟩
      refine ⟨fun _ h => h, ?_⟩
      refine Drw.dec1 (hpb) ?_
      refine Drw.a 15 rfl (by kernel_rfl) (Yv.not rfl) ?_
      refine Drw.done ?_ (by kernel_rfl)
      refine k41 _ _ ?_
      refine run_if0 rfl ?_
      refine run_skip ?_
      refine k40 _ _ ?_
      refine run_region ?_
      refine Ops.v (Yv.move rfl) ?_
      refine Ops.v (Yv.add rfl rfl (by omega)) ?_
      refine Ops.v (Yv.assign rfl) ?_
      refine Ops.nil ?_
      refine ⟨k + 1, _, ⟨hs42, rfl, by omega⟩, Sub.le ⟨rfl, rfl, rfl, rfl, rfl, rfl, rfl, rfl, rfl, rfl, lookI rfl (by omega), rfl, rfl, trivial⟩, by omega⟩
    · -- no
      refine run_exit ?_
      refine k34 _ _ ?_
      refine run_seq fun K48 k48 => ?_
      refine run_region ?_
      refine Ops.v (Yv.fld F51_0 rfl) ?_
      refine Ops.v (Yv.load A22 rfl (now (hs36.cell 3 rfl 0 rfl))) ?_
      refine Ops.v (Yv.fld F51_1 rfl) ?_
      refine Ops.v (Yv.load A3 rfl (now (hs36.cell 3 rfl 1 rfl))) ?_
      refine Ops.v (Yv.fld F51_2 rfl) ?_
      refine Ops.v (Yv.loadn (cs := [.int .i64 X, .int .i64 Y, .int .i64 W, .int .i64 H]) A29 S29 rfl (now (hs36.cells 3 rfl 2 4))) ?_
      refine Ops.v (Yv.fld F51_3 rfl) ?_
      refine Ops.v (Yv.load A22 rfl (now (hs36.cell 3 rfl 6 rfl))) ?_
      refine Ops.s (Step.call rfl rfl (above_fun (hs36.rd hr) hx (hs36.rd hr2) hy (by omega)) (?_) True.intro (by rfl))
      rintro _ w52 ⟨Ad49, c50, rfl, hs52⟩
      replace hs52 := hs36.call hs52
      refine Ops.v (Yv.move rfl) ?_
      refine Ops.v (Yv.extract rfl rfl) ?_
      refine Ops.v (Yv.extract rfl rfl) ?_
      refine Ops.v (Yv.assign rfl) ?_
      refine Ops.v (Yv.assign rfl) ?_
      refine Ops.nil ?_
      refine k48 _ _ ?_
      refine run_seq fun K53 k53 => ?_
      refine run_seq fun K54 k54 => ?_
      refine run_region ?_
      refine Ops.v (Yv.move rfl) ?_
      refine Ops.nil ?_
      refine k54 _ _ ?_
      refine run_if rfl (fun h55 => ?_) (fun h55 => ?_)
      · -- yes left
        refine run_region ?_
        refine Ops.v (Yv.fld F51_0 rfl) ?_
        refine Ops.v (Yv.load A22 rfl (now (hs52.cell 4 rfl 0 rfl))) ?_
        refine Ops.v (Yv.fld F51_1 rfl) ?_
        refine Ops.v (Yv.load A3 rfl (now (hs52.cell 4 rfl 1 rfl))) ?_
        refine Ops.v (Yv.fld F51_2 rfl) ?_
        refine Ops.v (Yv.loadn (cs := [.int .i64 X, .int .i64 Y, .int .i64 W, .int .i64 H]) A29 S29 rfl (now (hs52.cells 4 rfl 2 4))) ?_
        refine Ops.v (Yv.fld F51_3 rfl) ?_
        refine Ops.v (Yv.load A22 rfl (now (hs52.cell 4 rfl 6 rfl))) ?_
        refine Ops.s (Step.call rfl rfl (left_fun (hs52.rd hr) hx (hs52.rd hr2) hy (by omega)) (?_) True.intro (by rfl))
        rintro _ w59 ⟨Ad56, c57, rfl, hs59⟩
        replace hs59 := hs52.call hs59
        refine Ops.v (Yv.move rfl) ?_
        refine Ops.v (Yv.extract rfl rfl) ?_
        refine Ops.v (Yv.extract rfl rfl) ?_
        refine Ops.v (Yv.assign rfl) ?_
        refine Ops.v (Yv.assign rfl) ?_
        refine Ops.nil ?_
        refine k53 _ _ ?_
        refine run_seq fun K60 k60 => ?_
        refine run_seq fun K61 k61 => ?_
        refine run_region ?_
        refine Ops.v (Yv.move rfl) ?_
        refine Ops.v (Yv.ne rfl rfl) ?_
        refine Ops.nil ?_
        refine k61 _ _ ?_
        refine run_ifp rfl (fun h62 => ?_) (fun h62 => ?_)
        · -- yes (blendE xs ys sw X Y W H W) ≠ (0 : Int)
          refine run_seq fun K63 k63 => ?_
          refine run_region ?_
          refine Ops.v (Yv.move rfl) ?_
          refine Ops.v (Yv.eq rfl rfl) ?_
          refine Ops.dec1 (blend_two (by assumption)) ?_
          refine Ops.v (Yv.move rfl) ?_
          refine Ops.vg ⟨_, rfl, rfl⟩ (Yv.move rfl) ?_
          refine Ops.vg ⟨_, rfl, rfl⟩ (Yv.len (by rw [L22]; rfl) rfl) ?_
          refine Ops.vg ⟨_, rfl, rfl⟩ (Yv.eq rfl rfl) ?_
          refine Ops.dec1 (by rw [blend_len0 (by assumption)]; rfl) ?_
          refine Ops.v (Yv.pick1 rfl rfl) ?_
          refine Ops.v (Yv.assign rfl) ?_
          refine Ops.nil ?_
          refine k63 _ _ ?_
          refine run_ret ?_
          refine ⟨[.bool true], ⟨_, _, rfl, rfl, rfl⟩, ?_⟩
          exact ⟨rfl, hs59.pick [] _ (by decide) rfl⟩
        · -- no
          refine run_skip ?_
          refine k60 _ _ ?_
          refine run_seq fun K64 k64 => ?_
          refine run_seq fun K65 k65 => ?_
          refine run_region ?_
          obtain ⟨n9, hn9, hbe⟩ : ∃ n9, (n9 = H ∨ n9 = W) ∧ blendE xs ys sw X Y W H n9 = 0 := by first | exact ⟨H, .inl rfl, by omega⟩ | exact ⟨W, .inr rfl, by omega⟩
          have hok := blend_of hbe
          have hlf := lies_facts hok.2.1
          have hWH := mul_bd (a := W) (b := H) (x := 64) (y := 64) (by omega) (by omega) (by omega) (by omega)
          have hq9 := hok.2.2
          rw [hlen_xs] at hlf
          rw [hlen_ys] at hq9
          have hmm : (m : Int) % sw = 0 := by have := hok.2.1.1.2.1; rwa [hlen_xs] at this
          have hm2w : (m2 : Int) % W = 0 := by rw [hq9]; exact Int.mul_emod_right _ _
          first | have hol := blend_len (up := true) (show blendE xs ys sw X Y W H H = 0 by omega) | have hol := blend_len (up := false) (show blendE xs ys sw X Y W H W = 0 by omega)
          refine Ops.v (Yv.fld F51_1 rfl) ?_
          refine Ops.v (Yv.load A3 rfl (now (hs59.cell 5 rfl 1 rfl))) ?_
          refine Ops.v (Yv.lt rfl rfl) ?_
          refine Ops.dec0 (by omega) ?_
          refine Ops.v (Yv.move rfl) ?_
          refine Ops.vg ⟨_, rfl, rfl⟩ (Yv.move rfl) ?_
          refine Ops.vg ⟨_, rfl, rfl⟩ (Yv.len (by rw [L22]; rfl) rfl) ?_
          refine Ops.vg ⟨_, rfl, rfl⟩ (Yv.fld F51_0 rfl) ?_
          refine Ops.vg ⟨_, rfl, rfl⟩ (Yv.load A22 rfl (now (hs59.cell 5 rfl 0 rfl))) ?_
          refine Ops.vg ⟨_, rfl, rfl⟩ (Yv.len (by rw [L22]; rfl) rfl) ?_
          refine Ops.vg ⟨_, rfl, rfl⟩ (Yv.ne rfl rfl) ?_
          refine Ops.dec0 (by omega) ?_
          refine Ops.v (Yv.pick0 rfl rfl) ?_
          refine Ops.v (Yv.move rfl) ?_
          refine Ops.vg ⟨_, rfl, rfl⟩ (Yv.fld F51_3 rfl) ?_
          refine Ops.vg ⟨_, rfl, rfl⟩ (Yv.load A22 rfl (now (hs59.cell 5 rfl 6 rfl))) ?_
          refine Ops.vg ⟨_, rfl, rfl⟩ (Yv.len (by rw [L22]; rfl) rfl) ?_
          refine Ops.vg ⟨_, rfl, rfl⟩ (Yv.fld F51_2 rfl) ?_
          refine Ops.vg ⟨_, rfl, rfl⟩ (Yv.fld F29_2 rfl) ?_
          refine Ops.vg ⟨_, rfl, rfl⟩ (Yv.load A3 rfl (now (hs59.cell 5 rfl 4 rfl))) ?_
          refine Ops.vg ⟨_, rfl, rfl⟩ (Yv.fld F51_2 rfl) ?_
          refine Ops.vg ⟨_, rfl, rfl⟩ (Yv.fld F29_3 rfl) ?_
          refine Ops.vg ⟨_, rfl, rfl⟩ (Yv.load A3 rfl (now (hs59.cell 5 rfl 5 rfl))) ?_
          refine Ops.vg ⟨_, rfl, rfl⟩ (Yv.mul rfl rfl (by omega)) ?_
          refine Ops.vg ⟨_, rfl, rfl⟩ (Yv.ne rfl rfl) ?_
          refine Ops.dec0 (fun h_ => h_ hq9) ?_
          refine Ops.v (Yv.pick0 rfl rfl) ?_
          refine Ops.nil ?_
          refine k65 _ _ ?_
          refine run_if0 rfl ?_
          refine run_skip ?_
          refine k64 _ _ ?_
          refine run_seq fun K66 k66 => ?_
          refine run_seq fun K67 k67 => ?_
          refine run_region ?_
          refine Ops.v (Yv.assign rfl) ?_
          refine Ops.nil ?_
          refine k67 _ _ ?_
          refine run_block ?_
          refine Run.sub [(0, _), (1, _), (2, _), (5, _), (6, _), (7, _), (8, _), (9, _), (10, _), (11, _), (12, _), (13, _), (14, _), (15, _), (19, _), (87, _), (90, _), (121, _), (135, _), (166, _)] ⟨rfl, rfl, rfl, rfl, rfl, rfl, rfl, rfl, rfl, rfl, rfl, rfl, rfl, rfl, rfl, rfl, rfl, rfl, rfl, rfl, trivial⟩ ?_
          refine run_loop (σ := Nat) (fun i e_ w_ => HS w [.row Ad56 ((blendOut false xs ys sw X Y W H W).length) c57 (u8s (blendOut false xs ys sw X Y W H W)) 5 1, .row Ad49 ((blendOut true xs ys sw X Y W H H).length) c50 (u8s (blendOut true xs ys sw X Y W H H)) 5 1, .row Ad26 ((pairOut xs xs).length) c27 (u8s (pairOut xs xs)) 5 1, .row Ad20 ((pairOut (ys.take ((min (m : Int) (m2 : Int) : Int).toNat)) (xs.take ((min (m : Int) (m2 : Int) : Int).toNat))).length) c21 (u8s (pairOut (ys.take ((min (m : Int) (m2 : Int) : Int).toNat)) (xs.take ((min (m : Int) (m2 : Int) : Int).toNat)))) 5 1, .row Ad12 ((pairOut (xs.take ((min (m : Int) (m2 : Int) : Int).toNat)) (ys.take ((min (m : Int) (m2 : Int) : Int).toNat))).length) c13 (u8s (pairOut (xs.take ((min (m : Int) (m2 : Int) : Int).toNat)) (ys.take ((min (m : Int) (m2 : Int) : Int).toNat)))) 5 1, .blk b2 [.slice A m c, .int .i64 sw, .int .i64 X, .int .i64 Y, .int .i64 W, .int .i64 H, .slice B m2 c2] 51] w_ ∧ e_ = [(0, .agg #[.slice A m c, .int .i64 sw, .int .i64 X, .int .i64 Y, .int .i64 W, .int .i64 H, .slice B m2 c2]), (1, .bool left), (2, .pointer (some ⟨b2, 0, none⟩)), (5, .int .i64 (min (m : Int) (m2 : Int))), (6, .slice Ad12 ((pairOut (xs.take ((min (m : Int) (m2 : Int) : Int).toNat)) (ys.take ((min (m : Int) (m2 : Int) : Int).toNat))).length) c13), (7, .int .i64 (pairE (xs.take ((min (m : Int) (m2 : Int) : Int).toNat)) (ys.take ((min (m : Int) (m2 : Int) : Int).toNat)))), (8, .slice Ad20 ((pairOut (ys.take ((min (m : Int) (m2 : Int) : Int).toNat)) (xs.take ((min (m : Int) (m2 : Int) : Int).toNat))).length) c21), (9, .int .i64 (pairE (ys.take ((min (m : Int) (m2 : Int) : Int).toNat)) (xs.take ((min (m : Int) (m2 : Int) : Int).toNat)))), (10, .slice Ad26 ((pairOut xs xs).length) c27), (11, .int .i64 (pairE xs xs)), (12, .int .i64 (k : Int)), (13, .slice Ad56 ((blendOut false xs ys sw X Y W H W).length) c57), (14, .int .i64 (blendE xs ys sw X Y W H W)), (15, .int .i64 (i : Int)), (19, .bool false), (87, .bool false), (90, .bool (decide ((k : Int) < (min (m : Int) (m2 : Int))))), (121, .bool left), (135, .bool (decide ((blendE xs ys sw X Y W H W) ≠ (0 : Int)))), (166, .bool false)] ∧ i ≤ m)
            (fun i => m - i) 0 ?_ ?_
          · -- at the start
            refine ⟨hs59, rfl, by omega⟩
          · -- a round
            rintro i _ w68 ⟨hs68, rfl, f2⟩
            refine run_seq fun K69 k69 => ?_
            refine run_seq fun K70 k70 => ?_
            refine run_region ?_
            refine Ops.v (Yv.move rfl) ?_
            refine Ops.v (Yv.move rfl) ?_
            refine Ops.v (Yv.len (by rw [L22]; rfl) rfl) ?_
            refine Ops.v (Yv.lt rfl rfl) ?_
            refine Ops.nil ?_
            refine k70 _ _ ?_
            refine run_ifp rfl (fun h71 => ?_) (fun h71 => ?_)
            · -- yes (i : Int) < ((blendOut false xs ys sw X Y W H W).length : Int)
              refine run_skip ?_
              refine k69 _ _ ?_
              refine run_seq fun K72 k72 => ?_
              refine run_block ?_
              refine run_seq fun K73 k73 => ?_
              refine run_drawn [] (fun x => Below (w68.drew).heap.size (w68.drew) x) ?_ Tf.mixed (by kernel_rfl) (fun _ _ _ h => h)
              have hs74 := hs68.drew
              have hS75 := Below.refl (w68.drew).heap.size (w68.drew)
              refine Drw.a 0 rfl (by kernel_rfl) (Yv.move rfl) ?_
              refine Drw.a 1 rfl (by kernel_rfl) (Yv.fld F51_1 rfl) ?_
              refine Drw.l 2 rfl (by kernel_rfl) hS75 (Yv.load A3 rfl (fun _ hq_ => ((hs74.grow hq_).cell 5 rfl 1 rfl))) ?_
              have him : 0 ≤ (i : Int) % sw ∧ (i : Int) % sw < sw := ⟨Int.emod_nonneg _ (by omega), Int.emod_lt_of_pos _ (by omega)⟩
              have hid := div_bd (a := (i : Int)) (b := sw) (by omega) (by omega)
              refine Drw.a 3 rfl (by kernel_rfl) (Yv.rem rfl rfl (by omega) (by omega)) ?_
              refine Drw.a 4 rfl (by kernel_rfl) (Yv.fld F51_2 rfl) ?_
              refine Drw.a 5 rfl (by kernel_rfl) (Yv.fld F29_0 rfl) ?_
              refine Drw.l 6 rfl (by kernel_rfl) hS75 (Yv.load A3 rfl (fun _ hq_ => ((hs74.grow hq_).cell 5 rfl 2 rfl))) ?_
              refine Drw.a 7 rfl (by kernel_rfl) (Yv.sub rfl rfl (by omega)) ?_
              refine Drw.a 8 rfl (by kernel_rfl) (Yv.move rfl) ?_
              refine Drw.a 9 rfl (by kernel_rfl) (Yv.fld F51_1 rfl) ?_
              refine Drw.l 10 rfl (by kernel_rfl) hS75 (Yv.load A3 rfl (fun _ hq_ => ((hs74.grow hq_).cell 5 rfl 1 rfl))) ?_
              refine Drw.a 11 rfl (by kernel_rfl) (Yv.quo rfl rfl (by omega) (by omega) (by omega)) ?_
              refine Drw.a 12 rfl (by kernel_rfl) (Yv.fld F51_2 rfl) ?_
              refine Drw.a 13 rfl (by kernel_rfl) (Yv.fld F29_1 rfl) ?_
              refine Drw.l 14 rfl (by kernel_rfl) hS75 (Yv.load A3 rfl (fun _ hq_ => ((hs74.grow hq_).cell 5 rfl 3 rfl))) ?_
              refine Drw.a 15 rfl (by kernel_rfl) (Yv.sub rfl rfl (by omega)) ?_
              refine Drw.a 16 rfl (by kernel_rfl) (Yv.assign rfl) ?_
              refine Drw.a 17 rfl (by kernel_rfl) (Yv.assign rfl) ?_
              refine Drw.done ?_ (by kernel_rfl)
              refine k73 _ _ ?_
              refine run_seq fun K76 k76 => ?_
              refine run_seq fun K77 k77 => ?_
              refine Run.cut (fun e_ w_ => (w68.drew) = w_ ∧ Le [(0, .agg #[.slice A m c, .int .i64 sw, .int .i64 X, .int .i64 Y, .int .i64 W, .int .i64 H, .slice B m2 c2]), (1, .bool left), (2, .pointer (some ⟨b2, 0, none⟩)), (5, .int .i64 (min (m : Int) (m2 : Int))), (6, .slice Ad12 ((pairOut (xs.take ((min (m : Int) (m2 : Int) : Int).toNat)) (ys.take ((min (m : Int) (m2 : Int) : Int).toNat))).length) c13), (7, .int .i64 (pairE (xs.take ((min (m : Int) (m2 : Int) : Int).toNat)) (ys.take ((min (m : Int) (m2 : Int) : Int).toNat)))), (8, .slice Ad20 ((pairOut (ys.take ((min (m : Int) (m2 : Int) : Int).toNat)) (xs.take ((min (m : Int) (m2 : Int) : Int).toNat))).length) c21), (9, .int .i64 (pairE (ys.take ((min (m : Int) (m2 : Int) : Int).toNat)) (xs.take ((min (m : Int) (m2 : Int) : Int).toNat)))), (10, .slice Ad26 ((pairOut xs xs).length) c27), (11, .int .i64 (pairE xs xs)), (12, .int .i64 (k : Int)), (13, .slice Ad56 ((blendOut false xs ys sw X Y W H W).length) c57), (14, .int .i64 (blendE xs ys sw X Y W H W)), (15, .int .i64 (i : Int)), (16, .int .i64 (((i : Int) % sw) - X)), (17, .int .i64 (((i : Int) / sw) - Y)), (19, .bool false), (87, .bool false), (90, .bool (decide ((k : Int) < (min (m : Int) (m2 : Int))))), (121, .bool left), (135, .bool (decide ((blendE xs ys sw X Y W H W) ≠ (0 : Int)))), (166, .bool false), (170, .bool (decide ((i : Int) < ((blendOut false xs ys sw X Y W H W).length : Int)))), (208, .bool (decide (((((((i : Int) % sw) - X) < (0 : Int)) ∨ (W ≤ (((i : Int) % sw) - X))) ∨ ((((i : Int) / sw) - Y) < (0 : Int))) ∨ (H ≤ (((i : Int) / sw) - Y)))))] e_) ?_ ?_
              · -- region 25: its ways meet again
                refine run_region ?_
                refine Ops.v (Yv.move rfl) ?_
                refine Ops.v (Yv.lt rfl rfl) ?_
                refine Ops.dec (fun h78 => ?_) (fun h78 => ?_)
                · -- yes
                  refine Ops.v (Yv.move rfl) ?_
                  refine Ops.skip ⟨_, rfl, rfl⟩ ?_
                  refine Ops.skip ⟨_, rfl, rfl⟩ ?_
                  refine Ops.skip ⟨_, rfl, rfl⟩ ?_
                  refine Ops.skip ⟨_, rfl, rfl⟩ ?_
                  refine Ops.skip ⟨_, rfl, rfl⟩ ?_
                  refine Ops.v (Yv.pick1 rfl rfl) ?_
                  refine Ops.v (Yv.move rfl) ?_
                  refine Ops.skip ⟨_, rfl, rfl⟩ ?_
                  refine Ops.skip ⟨_, rfl, rfl⟩ ?_
                  refine Ops.v (Yv.pick1 rfl rfl) ?_
                  refine Ops.v (Yv.move rfl) ?_
                  refine Ops.skip ⟨_, rfl, rfl⟩ ?_
                  refine Ops.skip ⟨_, rfl, rfl⟩ ?_
                  refine Ops.skip ⟨_, rfl, rfl⟩ ?_
                  refine Ops.skip ⟨_, rfl, rfl⟩ ?_
                  refine Ops.skip ⟨_, rfl, rfl⟩ ?_
                  refine Ops.v (Yv.pick1 rfl rfl) ?_
                  refine Ops.nil ?_
                  refine ⟨rfl, Sub.le ⟨rfl, rfl, rfl, rfl, rfl, rfl, rfl, rfl, rfl, rfl, rfl, rfl, rfl, rfl, rfl, rfl, rfl, rfl, rfl, rfl, rfl, rfl, rfl, lookB rfl (by first | (simp only [h78, ne_eq, not_true_eq_false, not_false_eq_true, or_true, true_or, or_false, false_or, and_true, true_and, and_false, false_and, decide_true, decide_false, or_self, and_self, Bool.decide_eq_true]; done) | simp [h78]), trivial⟩⟩
                · -- no
                  refine Ops.v (Yv.move rfl) ?_
                  refine Ops.vg ⟨_, rfl, rfl⟩ (Yv.move rfl) ?_
                  refine Ops.vg ⟨_, rfl, rfl⟩ (Yv.fld F51_2 rfl) ?_
                  refine Ops.vg ⟨_, rfl, rfl⟩ (Yv.fld F29_2 rfl) ?_
                  refine Ops.vg ⟨_, rfl, rfl⟩ (Yv.load A3 rfl (now (hs74.cell 5 rfl 4 rfl))) ?_
                  refine Ops.vg ⟨_, rfl, rfl⟩ (Yv.ge rfl rfl) ?_
                  refine Ops.dec (fun h79 => ?_) (fun h79 => ?_)
                  · -- yes
                    refine Ops.v (Yv.pick0 rfl rfl) ?_
                    refine Ops.v (Yv.move rfl) ?_
                    refine Ops.skip ⟨_, rfl, rfl⟩ ?_
                    refine Ops.skip ⟨_, rfl, rfl⟩ ?_
                    refine Ops.v (Yv.pick1 rfl rfl) ?_
                    refine Ops.v (Yv.move rfl) ?_
                    refine Ops.skip ⟨_, rfl, rfl⟩ ?_
                    refine Ops.skip ⟨_, rfl, rfl⟩ ?_
                    refine Ops.skip ⟨_, rfl, rfl⟩ ?_
                    refine Ops.skip ⟨_, rfl, rfl⟩ ?_
                    refine Ops.skip ⟨_, rfl, rfl⟩ ?_
                    refine Ops.v (Yv.pick1 rfl rfl) ?_
                    refine Ops.nil ?_
                    refine ⟨rfl, Sub.le ⟨rfl, rfl, rfl, rfl, rfl, rfl, rfl, rfl, rfl, rfl, rfl, rfl, rfl, rfl, rfl, rfl, rfl, rfl, rfl, rfl, rfl, rfl, rfl, lookB rfl (by first | (simp only [h78, h79, ne_eq, not_true_eq_false, not_false_eq_true, or_true, true_or, or_false, false_or, and_true, true_and, and_false, false_and, decide_true, decide_false, or_self, and_self, Bool.decide_eq_true]; done) | simp [h78, h79]), trivial⟩⟩
                  · -- no
                    refine Ops.v (Yv.pick0 rfl rfl) ?_
                    refine Ops.v (Yv.move rfl) ?_
                    refine Ops.vg ⟨_, rfl, rfl⟩ (Yv.move rfl) ?_
                    refine Ops.vg ⟨_, rfl, rfl⟩ (Yv.lt rfl rfl) ?_
                    refine Ops.dec (fun h80 => ?_) (fun h80 => ?_)
                    · -- yes
                      refine Ops.v (Yv.pick0 rfl rfl) ?_
                      refine Ops.v (Yv.move rfl) ?_
                      refine Ops.skip ⟨_, rfl, rfl⟩ ?_
                      refine Ops.skip ⟨_, rfl, rfl⟩ ?_
                      refine Ops.skip ⟨_, rfl, rfl⟩ ?_
                      refine Ops.skip ⟨_, rfl, rfl⟩ ?_
                      refine Ops.skip ⟨_, rfl, rfl⟩ ?_
                      refine Ops.v (Yv.pick1 rfl rfl) ?_
                      refine Ops.nil ?_
                      refine ⟨rfl, Sub.le ⟨rfl, rfl, rfl, rfl, rfl, rfl, rfl, rfl, rfl, rfl, rfl, rfl, rfl, rfl, rfl, rfl, rfl, rfl, rfl, rfl, rfl, rfl, rfl, lookB rfl (by first | (simp only [h78, h79, h80, ne_eq, not_true_eq_false, not_false_eq_true, or_true, true_or, or_false, false_or, and_true, true_and, and_false, false_and, decide_true, decide_false, or_self, and_self, Bool.decide_eq_true]; done) | simp [h78, h79, h80]), trivial⟩⟩
                    · -- no
                      refine Ops.v (Yv.pick0 rfl rfl) ?_
                      refine Ops.v (Yv.move rfl) ?_
                      refine Ops.vg ⟨_, rfl, rfl⟩ (Yv.move rfl) ?_
                      refine Ops.vg ⟨_, rfl, rfl⟩ (Yv.fld F51_2 rfl) ?_
                      refine Ops.vg ⟨_, rfl, rfl⟩ (Yv.fld F29_3 rfl) ?_
                      refine Ops.vg ⟨_, rfl, rfl⟩ (Yv.load A3 rfl (now (hs74.cell 5 rfl 5 rfl))) ?_
                      refine Ops.vg ⟨_, rfl, rfl⟩ (Yv.ge rfl rfl) ?_
                      refine Ops.v (Yv.pick0 rfl rfl) ?_
                      refine Ops.nil ?_
                      refine ⟨rfl, Sub.le ⟨rfl, rfl, rfl, rfl, rfl, rfl, rfl, rfl, rfl, rfl, rfl, rfl, rfl, rfl, rfl, rfl, rfl, rfl, rfl, rfl, rfl, rfl, rfl, lookB rfl (by first | (simp only [h78, h79, h80, ne_eq, not_true_eq_false, not_false_eq_true, or_true, true_or, or_false, false_or, and_true, true_and, and_false, false_and, decide_true, decide_false, or_self, and_self, Bool.decide_eq_true]; done) | simp [h78, h79, h80]), trivial⟩⟩
              rintro e81 _ ⟨rfl, he81⟩
              refine k77 _ _ ?_
              refine Run.le he81 ?_
              refine run_ifp rfl (fun h82 => ?_) (fun h82 => ?_)
              · -- yes ((((((i : Int) % sw) - X) < (0 : Int)) ∨ (W ≤ (((i : Int) % sw) - X))) ∨ ((((i : Int) / sw) - Y) < (0 : Int))) ∨ (H ≤ (((i : Int) / sw) - Y))
                refine run_seq fun K83 k83 => ?_
                refine run_seq fun K84 k84 => ?_
                refine run_drawn [] (fun x => Below ((w68.drew).drew).heap.size ((w68.drew).drew) x) ?_ Tf.mixed (by kernel_rfl) (fun _ _ _ h => h)
                have hs85 := hs74.drew
                have hS86 := Below.refl ((w68.drew).drew).heap.size ((w68.drew).drew)
                refine Drw.a 0 rfl (by kernel_rfl) (Yv.move rfl) ?_
                refine Drw.a 1 rfl (by kernel_rfl) (Yv.move rfl) ?_
                refine Drw.a 2 rfl (by kernel_rfl) (Yv.idx L22 rfl rfl ((hs85.rdRow 0 rfl).isSome (i := (i : Int)) (by omega) (by omega)) (by omega) (by omega)) ?_
                refine Drw.l 3 rfl (by kernel_rfl) hS86 (Yv.load A5 rfl (fun _ hq_ => (((hs85.grow hq_).rdRow 0 rfl).u8 (by omega) (by omega)))) ?_
                have g87 := gi_bytes (xs := blendOut false xs ys sw X Y W H W) (blendOut_bytes rfl hx hy) (i : Int)
                refine Drw.a 4 rfl (by kernel_rfl) (Yv.fld F51_0 rfl) ?_
                refine Drw.l 5 rfl (by kernel_rfl) hS86 (Yv.load A22 rfl (fun _ hq_ => ((hs85.grow hq_).cell 5 rfl 0 rfl))) ?_
                refine Drw.a 6 rfl (by kernel_rfl) (Yv.move rfl) ?_
                refine Drw.a 7 rfl (by kernel_rfl) (Yv.idx L22 rfl rfl ((hs85.rd hr).isSome (i := (i : Int)) (by omega) (by omega)) (by omega) (by omega)) ?_
                refine Drw.l 8 rfl (by kernel_rfl) hS86 (Yv.load A5 rfl (fun _ hq_ => (((hs85.grow hq_).rd hr).u8 (by omega) (by omega)))) ?_
                have g88 := gi_bytes (xs := xs) hx (i : Int)
                refine Drw.a 9 rfl (by kernel_rfl) (Yv.ne rfl rfl) ?_
                refine Drw.dec0 (fun h_ => h_ (beside_law (by omega) (by omega))) ?_
                refine Drw.done ?_ (by kernel_rfl)
                refine k84 _ _ ?_
                refine run_if0 rfl ?_
                refine run_skip ?_
                refine k83 _ _ ?_
                refine run_exit ?_
                refine k72 _ _ ?_
                refine run_region ?_
                refine Ops.v (Yv.move rfl) ?_
                refine Ops.v (Yv.add rfl rfl (by omega)) ?_
                refine Ops.v (Yv.assign rfl) ?_
                refine Ops.nil ?_
                refine ⟨i + 1, _, ⟨hs85, rfl, by omega⟩, Sub.le ⟨rfl, rfl, rfl, rfl, rfl, rfl, rfl, rfl, rfl, rfl, rfl, rfl, rfl, lookI rfl (by omega), rfl, rfl, rfl, rfl, rfl, rfl, trivial⟩, by omega⟩
              · -- no
                refine run_skip ?_
                refine k76 _ _ ?_
                refine run_seq fun K89 k89 => ?_
                refine run_drawn [] (fun x => Below ((w68.drew).drew).heap.size ((w68.drew).drew) x) ?_ Tf.mixed (by kernel_rfl) (fun _ _ _ h => h)
                have hs90 := hs74.drew
                have hS91 := Below.refl ((w68.drew).drew).heap.size ((w68.drew).drew)
                refine Drw.a 0 rfl (by kernel_rfl) (Yv.move rfl) ?_
                refine Drw.a 1 rfl (by kernel_rfl) (Yv.move rfl) ?_
                refine Drw.a 2 rfl (by kernel_rfl) (Yv.idx L22 rfl rfl ((hs90.rdRow 0 rfl).isSome (i := (i : Int)) (by omega) (by omega)) (by omega) (by omega)) ?_
                refine Drw.l 3 rfl (by kernel_rfl) hS91 (Yv.load A5 rfl (fun _ hq_ => (((hs90.grow hq_).rdRow 0 rfl).u8 (by omega) (by omega)))) ?_
                have g92 := gi_bytes (xs := blendOut false xs ys sw X Y W H W) (blendOut_bytes rfl hx hy) (i : Int)
                refine Drw.a 4 rfl (by kernel_rfl) (Yv.fld F51_0 rfl) ?_
                refine Drw.l 5 rfl (by kernel_rfl) hS91 (Yv.load A22 rfl (fun _ hq_ => ((hs90.grow hq_).cell 5 rfl 0 rfl))) ?_
                refine Drw.a 6 rfl (by kernel_rfl) (Yv.move rfl) ?_
                refine Drw.a 7 rfl (by kernel_rfl) (Yv.idx L22 rfl rfl ((hs90.rd hr).isSome (i := (i : Int)) (by omega) (by omega)) (by omega) (by omega)) ?_
                refine Drw.l 8 rfl (by kernel_rfl) hS91 (Yv.load A5 rfl (fun _ hq_ => (((hs90.grow hq_).rd hr).u8 (by omega) (by omega)))) ?_
                have g93 := gi_bytes (xs := xs) hx (i : Int)
                refine Drw.a 9 rfl (by kernel_rfl) (Yv.fld F51_3 rfl) ?_
                refine Drw.l 10 rfl (by kernel_rfl) hS91 (Yv.load A22 rfl (fun _ hq_ => ((hs90.grow hq_).cell 5 rfl 6 rfl))) ?_
                refine Drw.a 11 rfl (by kernel_rfl) (Yv.move rfl) ?_
                refine Drw.a 12 rfl (by kernel_rfl) (Yv.fld F51_2 rfl) ?_
                refine Drw.a 13 rfl (by kernel_rfl) (Yv.fld F29_2 rfl) ?_
                refine Drw.l 14 rfl (by kernel_rfl) hS91 (Yv.load A3 rfl (fun _ hq_ => ((hs90.grow hq_).cell 5 rfl 4 rfl))) ?_
                have hpl9 := place_in (W := W) (H := H) (r := (i : Int) / sw - Y) (c := (i : Int) % sw - X) (by omega) (by omega) (by omega) (by omega)
                have hmb9 := mul_bd (a := (i : Int) / sw - Y) (b := W) (x := 64) (y := 64) (by omega) (by omega) (by omega) (by omega)
                refine Drw.a 15 rfl (by kernel_rfl) (Yv.mul rfl rfl (by omega)) ?_
                refine Drw.a 16 rfl (by kernel_rfl) (Yv.move rfl) ?_
                refine Drw.a 17 rfl (by kernel_rfl) (Yv.add rfl rfl (by omega)) ?_
                refine Drw.a 18 rfl (by kernel_rfl) (Yv.idx L22 rfl rfl ((hs90.rd hr2).isSome (i := ((((i : Int) / sw) - Y) * W) + (((i : Int) % sw) - X)) (by omega) (by omega)) (by omega) (by omega)) ?_
                refine Drw.l 19 rfl (by kernel_rfl) hS91 (Yv.load A5 rfl (fun _ hq_ => (((hs90.grow hq_).rd hr2).u8 (by omega) (by omega)))) ?_
                have g94 := gi_bytes (xs := ys) hy (((((i : Int) / sw) - Y) * W) + (((i : Int) % sw) - X))
                refine Drw.one 20 rfl (by kernel_rfl) (Step.call rfl rfl (between_fun) (?_) True.intro (by rfl))
                rintro _ _ ⟨rfl, rfl⟩
                refine ⟨fun _ h => h, ?_⟩
                refine Drw.dec1 (by first | exact inside_law (up := true) (n := H) rfl (by omega) (by omega) (by omega) (by first | rfl | omega) | exact inside_law (up := false) (n := W) rfl (by omega) (by omega) (by omega) (by first | rfl | omega)) ?_
                refine Drw.a 21 rfl (by kernel_rfl) (Yv.not rfl) ?_
                refine Drw.done ?_ (by kernel_rfl)
                refine k89 _ _ ?_
                refine run_if0 rfl ?_
                refine run_skip ?_
                refine k72 _ _ ?_
                refine run_region ?_
                refine Ops.v (Yv.move rfl) ?_
                refine Ops.v (Yv.add rfl rfl (by omega)) ?_
                refine Ops.v (Yv.assign rfl) ?_
                refine Ops.nil ?_
                refine ⟨i + 1, _, ⟨hs90, rfl, by omega⟩, Sub.le ⟨rfl, rfl, rfl, rfl, rfl, rfl, rfl, rfl, rfl, rfl, rfl, rfl, rfl, lookI rfl (by omega), rfl, rfl, rfl, rfl, rfl, rfl, trivial⟩, by omega⟩
            · -- no
              refine run_exit ?_
              refine k66 _ _ ?_
              refine run_seq fun K96 k96 => ?_
              refine run_region ?_
              refine Ops.v (Yv.assign rfl) ?_
              refine Ops.nil ?_
              refine k96 _ _ ?_
              refine run_ret ?_
              refine ⟨[.bool true], ⟨_, _, rfl, rfl, rfl⟩, ?_⟩
              exact ⟨rfl, hs68.pick [] _ (by decide) rfl⟩
      · -- no
        refine run_skip ?_
        refine k53 _ _ ?_
        refine run_seq fun K97 k97 => ?_
        refine run_seq fun K98 k98 => ?_
        refine run_region ?_
        refine Ops.v (Yv.move rfl) ?_
        refine Ops.v (Yv.ne rfl rfl) ?_
        refine Ops.nil ?_
        refine k98 _ _ ?_
        refine run_ifp rfl (fun h99 => ?_) (fun h99 => ?_)
        · -- yes (blendE xs ys sw X Y W H H) ≠ (0 : Int)
          refine run_seq fun K100 k100 => ?_
          refine run_region ?_
          refine Ops.v (Yv.move rfl) ?_
          refine Ops.v (Yv.eq rfl rfl) ?_
          refine Ops.dec1 (blend_two (by assumption)) ?_
          refine Ops.v (Yv.move rfl) ?_
          refine Ops.vg ⟨_, rfl, rfl⟩ (Yv.move rfl) ?_
          refine Ops.vg ⟨_, rfl, rfl⟩ (Yv.len (by rw [L22]; rfl) rfl) ?_
          refine Ops.vg ⟨_, rfl, rfl⟩ (Yv.eq rfl rfl) ?_
          refine Ops.dec1 (by rw [blend_len0 (by assumption)]; rfl) ?_
          refine Ops.v (Yv.pick1 rfl rfl) ?_
          refine Ops.v (Yv.assign rfl) ?_
          refine Ops.nil ?_
          refine k100 _ _ ?_
          refine run_ret ?_
          refine ⟨[.bool true], ⟨_, _, rfl, rfl, rfl⟩, ?_⟩
          exact ⟨rfl, hs52.pick [] _ (by decide) rfl⟩
        · -- no
          refine run_skip ?_
          refine k97 _ _ ?_
          refine run_seq fun K101 k101 => ?_
          refine run_seq fun K102 k102 => ?_
          refine run_region ?_
          obtain ⟨n9, hn9, hbe⟩ : ∃ n9, (n9 = H ∨ n9 = W) ∧ blendE xs ys sw X Y W H n9 = 0 := by first | exact ⟨H, .inl rfl, by omega⟩ | exact ⟨W, .inr rfl, by omega⟩
          have hok := blend_of hbe
          have hlf := lies_facts hok.2.1
          have hWH := mul_bd (a := W) (b := H) (x := 64) (y := 64) (by omega) (by omega) (by omega) (by omega)
          have hq9 := hok.2.2
          rw [hlen_xs] at hlf
          rw [hlen_ys] at hq9
          have hmm : (m : Int) % sw = 0 := by have := hok.2.1.1.2.1; rwa [hlen_xs] at this
          have hm2w : (m2 : Int) % W = 0 := by rw [hq9]; exact Int.mul_emod_right _ _
          first | have hol := blend_len (up := true) (show blendE xs ys sw X Y W H H = 0 by omega) | have hol := blend_len (up := false) (show blendE xs ys sw X Y W H W = 0 by omega)
          refine Ops.v (Yv.fld F51_1 rfl) ?_
          refine Ops.v (Yv.load A3 rfl (now (hs52.cell 4 rfl 1 rfl))) ?_
          refine Ops.v (Yv.lt rfl rfl) ?_
          refine Ops.dec0 (by omega) ?_
          refine Ops.v (Yv.move rfl) ?_
          refine Ops.vg ⟨_, rfl, rfl⟩ (Yv.move rfl) ?_
          refine Ops.vg ⟨_, rfl, rfl⟩ (Yv.len (by rw [L22]; rfl) rfl) ?_
          refine Ops.vg ⟨_, rfl, rfl⟩ (Yv.fld F51_0 rfl) ?_
          refine Ops.vg ⟨_, rfl, rfl⟩ (Yv.load A22 rfl (now (hs52.cell 4 rfl 0 rfl))) ?_
          refine Ops.vg ⟨_, rfl, rfl⟩ (Yv.len (by rw [L22]; rfl) rfl) ?_
          refine Ops.vg ⟨_, rfl, rfl⟩ (Yv.ne rfl rfl) ?_
          refine Ops.dec0 (by omega) ?_
          refine Ops.v (Yv.pick0 rfl rfl) ?_
          refine Ops.v (Yv.move rfl) ?_
          refine Ops.vg ⟨_, rfl, rfl⟩ (Yv.fld F51_3 rfl) ?_
          refine Ops.vg ⟨_, rfl, rfl⟩ (Yv.load A22 rfl (now (hs52.cell 4 rfl 6 rfl))) ?_
          refine Ops.vg ⟨_, rfl, rfl⟩ (Yv.len (by rw [L22]; rfl) rfl) ?_
          refine Ops.vg ⟨_, rfl, rfl⟩ (Yv.fld F51_2 rfl) ?_
          refine Ops.vg ⟨_, rfl, rfl⟩ (Yv.fld F29_2 rfl) ?_
          refine Ops.vg ⟨_, rfl, rfl⟩ (Yv.load A3 rfl (now (hs52.cell 4 rfl 4 rfl))) ?_
          refine Ops.vg ⟨_, rfl, rfl⟩ (Yv.fld F51_2 rfl) ?_
          refine Ops.vg ⟨_, rfl, rfl⟩ (Yv.fld F29_3 rfl) ?_
          refine Ops.vg ⟨_, rfl, rfl⟩ (Yv.load A3 rfl (now (hs52.cell 4 rfl 5 rfl))) ?_
          refine Ops.vg ⟨_, rfl, rfl⟩ (Yv.mul rfl rfl (by omega)) ?_
          refine Ops.vg ⟨_, rfl, rfl⟩ (Yv.ne rfl rfl) ?_
          refine Ops.dec0 (fun h_ => h_ hq9) ?_
          refine Ops.v (Yv.pick0 rfl rfl) ?_
          refine Ops.nil ?_
          refine k102 _ _ ?_
          refine run_if0 rfl ?_
          refine run_skip ?_
          refine k101 _ _ ?_
          refine run_seq fun K103 k103 => ?_
          refine run_seq fun K104 k104 => ?_
          refine run_region ?_
          refine Ops.v (Yv.assign rfl) ?_
          refine Ops.nil ?_
          refine k104 _ _ ?_
          refine run_block ?_
          refine Run.sub [(0, _), (1, _), (2, _), (5, _), (6, _), (7, _), (8, _), (9, _), (10, _), (11, _), (12, _), (13, _), (14, _), (15, _), (19, _), (87, _), (90, _), (121, _), (135, _), (166, _)] ⟨rfl, rfl, rfl, rfl, rfl, rfl, rfl, rfl, rfl, rfl, rfl, rfl, rfl, rfl, rfl, rfl, rfl, rfl, rfl, rfl, trivial⟩ ?_
          refine run_loop (σ := Nat) (fun i e_ w_ => HS w [.row Ad49 ((blendOut true xs ys sw X Y W H H).length) c50 (u8s (blendOut true xs ys sw X Y W H H)) 5 1, .row Ad26 ((pairOut xs xs).length) c27 (u8s (pairOut xs xs)) 5 1, .row Ad20 ((pairOut (ys.take ((min (m : Int) (m2 : Int) : Int).toNat)) (xs.take ((min (m : Int) (m2 : Int) : Int).toNat))).length) c21 (u8s (pairOut (ys.take ((min (m : Int) (m2 : Int) : Int).toNat)) (xs.take ((min (m : Int) (m2 : Int) : Int).toNat)))) 5 1, .row Ad12 ((pairOut (xs.take ((min (m : Int) (m2 : Int) : Int).toNat)) (ys.take ((min (m : Int) (m2 : Int) : Int).toNat))).length) c13 (u8s (pairOut (xs.take ((min (m : Int) (m2 : Int) : Int).toNat)) (ys.take ((min (m : Int) (m2 : Int) : Int).toNat)))) 5 1, .blk b2 [.slice A m c, .int .i64 sw, .int .i64 X, .int .i64 Y, .int .i64 W, .int .i64 H, .slice B m2 c2] 51] w_ ∧ e_ = [(0, .agg #[.slice A m c, .int .i64 sw, .int .i64 X, .int .i64 Y, .int .i64 W, .int .i64 H, .slice B m2 c2]), (1, .bool left), (2, .pointer (some ⟨b2, 0, none⟩)), (5, .int .i64 (min (m : Int) (m2 : Int))), (6, .slice Ad12 ((pairOut (xs.take ((min (m : Int) (m2 : Int) : Int).toNat)) (ys.take ((min (m : Int) (m2 : Int) : Int).toNat))).length) c13), (7, .int .i64 (pairE (xs.take ((min (m : Int) (m2 : Int) : Int).toNat)) (ys.take ((min (m : Int) (m2 : Int) : Int).toNat)))), (8, .slice Ad20 ((pairOut (ys.take ((min (m : Int) (m2 : Int) : Int).toNat)) (xs.take ((min (m : Int) (m2 : Int) : Int).toNat))).length) c21), (9, .int .i64 (pairE (ys.take ((min (m : Int) (m2 : Int) : Int).toNat)) (xs.take ((min (m : Int) (m2 : Int) : Int).toNat)))), (10, .slice Ad26 ((pairOut xs xs).length) c27), (11, .int .i64 (pairE xs xs)), (12, .int .i64 (k : Int)), (13, .slice Ad49 ((blendOut true xs ys sw X Y W H H).length) c50), (14, .int .i64 (blendE xs ys sw X Y W H H)), (15, .int .i64 (i : Int)), (19, .bool false), (87, .bool false), (90, .bool (decide ((k : Int) < (min (m : Int) (m2 : Int))))), (121, .bool left), (135, .bool (decide ((blendE xs ys sw X Y W H H) ≠ (0 : Int)))), (166, .bool false)] ∧ i ≤ m)
            (fun i => m - i) 0 ?_ ?_
          · -- at the start
            refine ⟨hs52, rfl, by omega⟩
          · -- a round
            rintro i _ w105 ⟨hs105, rfl, f2⟩
            refine run_seq fun K106 k106 => ?_
            refine run_seq fun K107 k107 => ?_
            refine run_region ?_
            refine Ops.v (Yv.move rfl) ?_
            refine Ops.v (Yv.move rfl) ?_
            refine Ops.v (Yv.len (by rw [L22]; rfl) rfl) ?_
            refine Ops.v (Yv.lt rfl rfl) ?_
            refine Ops.nil ?_
            refine k107 _ _ ?_
            refine run_ifp rfl (fun h108 => ?_) (fun h108 => ?_)
            · -- yes (i : Int) < ((blendOut true xs ys sw X Y W H H).length : Int)
              refine run_skip ?_
              refine k106 _ _ ?_
              refine run_seq fun K109 k109 => ?_
              refine run_block ?_
              refine run_seq fun K110 k110 => ?_
              refine run_drawn [] (fun x => Below (w105.drew).heap.size (w105.drew) x) ?_ Tf.mixed (by kernel_rfl) (fun _ _ _ h => h)
              have hs111 := hs105.drew
              have hS112 := Below.refl (w105.drew).heap.size (w105.drew)
              refine Drw.a 0 rfl (by kernel_rfl) (Yv.move rfl) ?_
              refine Drw.a 1 rfl (by kernel_rfl) (Yv.fld F51_1 rfl) ?_
              refine Drw.l 2 rfl (by kernel_rfl) hS112 (Yv.load A3 rfl (fun _ hq_ => ((hs111.grow hq_).cell 4 rfl 1 rfl))) ?_
              have him : 0 ≤ (i : Int) % sw ∧ (i : Int) % sw < sw := ⟨Int.emod_nonneg _ (by omega), Int.emod_lt_of_pos _ (by omega)⟩
              have hid := div_bd (a := (i : Int)) (b := sw) (by omega) (by omega)
              refine Drw.a 3 rfl (by kernel_rfl) (Yv.rem rfl rfl (by omega) (by omega)) ?_
              refine Drw.a 4 rfl (by kernel_rfl) (Yv.fld F51_2 rfl) ?_
              refine Drw.a 5 rfl (by kernel_rfl) (Yv.fld F29_0 rfl) ?_
              refine Drw.l 6 rfl (by kernel_rfl) hS112 (Yv.load A3 rfl (fun _ hq_ => ((hs111.grow hq_).cell 4 rfl 2 rfl))) ?_
              refine Drw.a 7 rfl (by kernel_rfl) (Yv.sub rfl rfl (by omega)) ?_
              refine Drw.a 8 rfl (by kernel_rfl) (Yv.move rfl) ?_
              refine Drw.a 9 rfl (by kernel_rfl) (Yv.fld F51_1 rfl) ?_
              refine Drw.l 10 rfl (by kernel_rfl) hS112 (Yv.load A3 rfl (fun _ hq_ => ((hs111.grow hq_).cell 4 rfl 1 rfl))) ?_
              refine Drw.a 11 rfl (by kernel_rfl) (Yv.quo rfl rfl (by omega) (by omega) (by omega)) ?_
              refine Drw.a 12 rfl (by kernel_rfl) (Yv.fld F51_2 rfl) ?_
              refine Drw.a 13 rfl (by kernel_rfl) (Yv.fld F29_1 rfl) ?_
              refine Drw.l 14 rfl (by kernel_rfl) hS112 (Yv.load A3 rfl (fun _ hq_ => ((hs111.grow hq_).cell 4 rfl 3 rfl))) ?_
              refine Drw.a 15 rfl (by kernel_rfl) (Yv.sub rfl rfl (by omega)) ?_
              refine Drw.a 16 rfl (by kernel_rfl) (Yv.assign rfl) ?_
              refine Drw.a 17 rfl (by kernel_rfl) (Yv.assign rfl) ?_
              refine Drw.done ?_ (by kernel_rfl)
              refine k110 _ _ ?_
              refine run_seq fun K113 k113 => ?_
              refine run_seq fun K114 k114 => ?_
              refine Run.cut (fun e_ w_ => (w105.drew) = w_ ∧ Le [(0, .agg #[.slice A m c, .int .i64 sw, .int .i64 X, .int .i64 Y, .int .i64 W, .int .i64 H, .slice B m2 c2]), (1, .bool left), (2, .pointer (some ⟨b2, 0, none⟩)), (5, .int .i64 (min (m : Int) (m2 : Int))), (6, .slice Ad12 ((pairOut (xs.take ((min (m : Int) (m2 : Int) : Int).toNat)) (ys.take ((min (m : Int) (m2 : Int) : Int).toNat))).length) c13), (7, .int .i64 (pairE (xs.take ((min (m : Int) (m2 : Int) : Int).toNat)) (ys.take ((min (m : Int) (m2 : Int) : Int).toNat)))), (8, .slice Ad20 ((pairOut (ys.take ((min (m : Int) (m2 : Int) : Int).toNat)) (xs.take ((min (m : Int) (m2 : Int) : Int).toNat))).length) c21), (9, .int .i64 (pairE (ys.take ((min (m : Int) (m2 : Int) : Int).toNat)) (xs.take ((min (m : Int) (m2 : Int) : Int).toNat)))), (10, .slice Ad26 ((pairOut xs xs).length) c27), (11, .int .i64 (pairE xs xs)), (12, .int .i64 (k : Int)), (13, .slice Ad49 ((blendOut true xs ys sw X Y W H H).length) c50), (14, .int .i64 (blendE xs ys sw X Y W H H)), (15, .int .i64 (i : Int)), (16, .int .i64 (((i : Int) % sw) - X)), (17, .int .i64 (((i : Int) / sw) - Y)), (19, .bool false), (87, .bool false), (90, .bool (decide ((k : Int) < (min (m : Int) (m2 : Int))))), (121, .bool left), (135, .bool (decide ((blendE xs ys sw X Y W H H) ≠ (0 : Int)))), (166, .bool false), (170, .bool (decide ((i : Int) < ((blendOut true xs ys sw X Y W H H).length : Int)))), (208, .bool (decide (((((((i : Int) % sw) - X) < (0 : Int)) ∨ (W ≤ (((i : Int) % sw) - X))) ∨ ((((i : Int) / sw) - Y) < (0 : Int))) ∨ (H ≤ (((i : Int) / sw) - Y)))))] e_) ?_ ?_
              · -- region 25: its ways meet again
                refine run_region ?_
                refine Ops.v (Yv.move rfl) ?_
                refine Ops.v (Yv.lt rfl rfl) ?_
                refine Ops.dec (fun h115 => ?_) (fun h115 => ?_)
                · -- yes
                  refine Ops.v (Yv.move rfl) ?_
                  refine Ops.skip ⟨_, rfl, rfl⟩ ?_
                  refine Ops.skip ⟨_, rfl, rfl⟩ ?_
                  refine Ops.skip ⟨_, rfl, rfl⟩ ?_
                  refine Ops.skip ⟨_, rfl, rfl⟩ ?_
                  refine Ops.skip ⟨_, rfl, rfl⟩ ?_
                  refine Ops.v (Yv.pick1 rfl rfl) ?_
                  refine Ops.v (Yv.move rfl) ?_
                  refine Ops.skip ⟨_, rfl, rfl⟩ ?_
                  refine Ops.skip ⟨_, rfl, rfl⟩ ?_
                  refine Ops.v (Yv.pick1 rfl rfl) ?_
                  refine Ops.v (Yv.move rfl) ?_
                  refine Ops.skip ⟨_, rfl, rfl⟩ ?_
                  refine Ops.skip ⟨_, rfl, rfl⟩ ?_
                  refine Ops.skip ⟨_, rfl, rfl⟩ ?_
                  refine Ops.skip ⟨_, rfl, rfl⟩ ?_
                  refine Ops.skip ⟨_, rfl, rfl⟩ ?_
                  refine Ops.v (Yv.pick1 rfl rfl) ?_
                  refine Ops.nil ?_
                  refine ⟨rfl, Sub.le ⟨rfl, rfl, rfl, rfl, rfl, rfl, rfl, rfl, rfl, rfl, rfl, rfl, rfl, rfl, rfl, rfl, rfl, rfl, rfl, rfl, rfl, rfl, rfl, lookB rfl (by first | (simp only [h115, ne_eq, not_true_eq_false, not_false_eq_true, or_true, true_or, or_false, false_or, and_true, true_and, and_false, false_and, decide_true, decide_false, or_self, and_self, Bool.decide_eq_true]; done) | simp [h115]), trivial⟩⟩
                · -- no
                  refine Ops.v (Yv.move rfl) ?_
                  refine Ops.vg ⟨_, rfl, rfl⟩ (Yv.move rfl) ?_
                  refine Ops.vg ⟨_, rfl, rfl⟩ (Yv.fld F51_2 rfl) ?_
                  refine Ops.vg ⟨_, rfl, rfl⟩ (Yv.fld F29_2 rfl) ?_
                  refine Ops.vg ⟨_, rfl, rfl⟩ (Yv.load A3 rfl (now (hs111.cell 4 rfl 4 rfl))) ?_
                  refine Ops.vg ⟨_, rfl, rfl⟩ (Yv.ge rfl rfl) ?_
                  refine Ops.dec (fun h116 => ?_) (fun h116 => ?_)
                  · -- yes
                    refine Ops.v (Yv.pick0 rfl rfl) ?_
                    refine Ops.v (Yv.move rfl) ?_
                    refine Ops.skip ⟨_, rfl, rfl⟩ ?_
                    refine Ops.skip ⟨_, rfl, rfl⟩ ?_
                    refine Ops.v (Yv.pick1 rfl rfl) ?_
                    refine Ops.v (Yv.move rfl) ?_
                    refine Ops.skip ⟨_, rfl, rfl⟩ ?_
                    refine Ops.skip ⟨_, rfl, rfl⟩ ?_
                    refine Ops.skip ⟨_, rfl, rfl⟩ ?_
                    refine Ops.skip ⟨_, rfl, rfl⟩ ?_
                    refine Ops.skip ⟨_, rfl, rfl⟩ ?_
                    refine Ops.v (Yv.pick1 rfl rfl) ?_
                    refine Ops.nil ?_
                    refine ⟨rfl, Sub.le ⟨rfl, rfl, rfl, rfl, rfl, rfl, rfl, rfl, rfl, rfl, rfl, rfl, rfl, rfl, rfl, rfl, rfl, rfl, rfl, rfl, rfl, rfl, rfl, lookB rfl (by first | (simp only [h115, h116, ne_eq, not_true_eq_false, not_false_eq_true, or_true, true_or, or_false, false_or, and_true, true_and, and_false, false_and, decide_true, decide_false, or_self, and_self, Bool.decide_eq_true]; done) | simp [h115, h116]), trivial⟩⟩
                  · -- no
                    refine Ops.v (Yv.pick0 rfl rfl) ?_
                    refine Ops.v (Yv.move rfl) ?_
                    refine Ops.vg ⟨_, rfl, rfl⟩ (Yv.move rfl) ?_
                    refine Ops.vg ⟨_, rfl, rfl⟩ (Yv.lt rfl rfl) ?_
                    refine Ops.dec (fun h117 => ?_) (fun h117 => ?_)
                    · -- yes
                      refine Ops.v (Yv.pick0 rfl rfl) ?_
                      refine Ops.v (Yv.move rfl) ?_
                      refine Ops.skip ⟨_, rfl, rfl⟩ ?_
                      refine Ops.skip ⟨_, rfl, rfl⟩ ?_
                      refine Ops.skip ⟨_, rfl, rfl⟩ ?_
                      refine Ops.skip ⟨_, rfl, rfl⟩ ?_
                      refine Ops.skip ⟨_, rfl, rfl⟩ ?_
                      refine Ops.v (Yv.pick1 rfl rfl) ?_
                      refine Ops.nil ?_
                      refine ⟨rfl, Sub.le ⟨rfl, rfl, rfl, rfl, rfl, rfl, rfl, rfl, rfl, rfl, rfl, rfl, rfl, rfl, rfl, rfl, rfl, rfl, rfl, rfl, rfl, rfl, rfl, lookB rfl (by first | (simp only [h115, h116, h117, ne_eq, not_true_eq_false, not_false_eq_true, or_true, true_or, or_false, false_or, and_true, true_and, and_false, false_and, decide_true, decide_false, or_self, and_self, Bool.decide_eq_true]; done) | simp [h115, h116, h117]), trivial⟩⟩
                    · -- no
                      refine Ops.v (Yv.pick0 rfl rfl) ?_
                      refine Ops.v (Yv.move rfl) ?_
                      refine Ops.vg ⟨_, rfl, rfl⟩ (Yv.move rfl) ?_
                      refine Ops.vg ⟨_, rfl, rfl⟩ (Yv.fld F51_2 rfl) ?_
                      refine Ops.vg ⟨_, rfl, rfl⟩ (Yv.fld F29_3 rfl) ?_
                      refine Ops.vg ⟨_, rfl, rfl⟩ (Yv.load A3 rfl (now (hs111.cell 4 rfl 5 rfl))) ?_
                      refine Ops.vg ⟨_, rfl, rfl⟩ (Yv.ge rfl rfl) ?_
                      refine Ops.v (Yv.pick0 rfl rfl) ?_
                      refine Ops.nil ?_
                      refine ⟨rfl, Sub.le ⟨rfl, rfl, rfl, rfl, rfl, rfl, rfl, rfl, rfl, rfl, rfl, rfl, rfl, rfl, rfl, rfl, rfl, rfl, rfl, rfl, rfl, rfl, rfl, lookB rfl (by first | (simp only [h115, h116, h117, ne_eq, not_true_eq_false, not_false_eq_true, or_true, true_or, or_false, false_or, and_true, true_and, and_false, false_and, decide_true, decide_false, or_self, and_self, Bool.decide_eq_true]; done) | simp [h115, h116, h117]), trivial⟩⟩
              rintro e118 _ ⟨rfl, he118⟩
              refine k114 _ _ ?_
              refine Run.le he118 ?_
              refine run_ifp rfl (fun h119 => ?_) (fun h119 => ?_)
              · -- yes ((((((i : Int) % sw) - X) < (0 : Int)) ∨ (W ≤ (((i : Int) % sw) - X))) ∨ ((((i : Int) / sw) - Y) < (0 : Int))) ∨ (H ≤ (((i : Int) / sw) - Y))
                refine run_seq fun K120 k120 => ?_
                refine run_seq fun K121 k121 => ?_
                refine run_drawn [] (fun x => Below ((w105.drew).drew).heap.size ((w105.drew).drew) x) ?_ Tf.mixed (by kernel_rfl) (fun _ _ _ h => h)
                have hs122 := hs111.drew
                have hS123 := Below.refl ((w105.drew).drew).heap.size ((w105.drew).drew)
                refine Drw.a 0 rfl (by kernel_rfl) (Yv.move rfl) ?_
                refine Drw.a 1 rfl (by kernel_rfl) (Yv.move rfl) ?_
                refine Drw.a 2 rfl (by kernel_rfl) (Yv.idx L22 rfl rfl ((hs122.rdRow 0 rfl).isSome (i := (i : Int)) (by omega) (by omega)) (by omega) (by omega)) ?_
                refine Drw.l 3 rfl (by kernel_rfl) hS123 (Yv.load A5 rfl (fun _ hq_ => (((hs122.grow hq_).rdRow 0 rfl).u8 (by omega) (by omega)))) ?_
                have g124 := gi_bytes (xs := blendOut true xs ys sw X Y W H H) (blendOut_bytes rfl hx hy) (i : Int)
                refine Drw.a 4 rfl (by kernel_rfl) (Yv.fld F51_0 rfl) ?_
                refine Drw.l 5 rfl (by kernel_rfl) hS123 (Yv.load A22 rfl (fun _ hq_ => ((hs122.grow hq_).cell 4 rfl 0 rfl))) ?_
                refine Drw.a 6 rfl (by kernel_rfl) (Yv.move rfl) ?_
                refine Drw.a 7 rfl (by kernel_rfl) (Yv.idx L22 rfl rfl ((hs122.rd hr).isSome (i := (i : Int)) (by omega) (by omega)) (by omega) (by omega)) ?_
                refine Drw.l 8 rfl (by kernel_rfl) hS123 (Yv.load A5 rfl (fun _ hq_ => (((hs122.grow hq_).rd hr).u8 (by omega) (by omega)))) ?_
                have g125 := gi_bytes (xs := xs) hx (i : Int)
                refine Drw.a 9 rfl (by kernel_rfl) (Yv.ne rfl rfl) ?_
                refine Drw.dec0 (fun h_ => h_ (beside_law (by omega) (by omega))) ?_
                refine Drw.done ?_ (by kernel_rfl)
                refine k121 _ _ ?_
                refine run_if0 rfl ?_
                refine run_skip ?_
                refine k120 _ _ ?_
                refine run_exit ?_
                refine k109 _ _ ?_
                refine run_region ?_
                refine Ops.v (Yv.move rfl) ?_
                refine Ops.v (Yv.add rfl rfl (by omega)) ?_
                refine Ops.v (Yv.assign rfl) ?_
                refine Ops.nil ?_
                refine ⟨i + 1, _, ⟨hs122, rfl, by omega⟩, Sub.le ⟨rfl, rfl, rfl, rfl, rfl, rfl, rfl, rfl, rfl, rfl, rfl, rfl, rfl, lookI rfl (by omega), rfl, rfl, rfl, rfl, rfl, rfl, trivial⟩, by omega⟩
              · -- no
                refine run_skip ?_
                refine k113 _ _ ?_
                refine run_seq fun K126 k126 => ?_
                refine run_drawn [] (fun x => Below ((w105.drew).drew).heap.size ((w105.drew).drew) x) ?_ Tf.mixed (by kernel_rfl) (fun _ _ _ h => h)
                have hs127 := hs111.drew
                have hS128 := Below.refl ((w105.drew).drew).heap.size ((w105.drew).drew)
                refine Drw.a 0 rfl (by kernel_rfl) (Yv.move rfl) ?_
                refine Drw.a 1 rfl (by kernel_rfl) (Yv.move rfl) ?_
                refine Drw.a 2 rfl (by kernel_rfl) (Yv.idx L22 rfl rfl ((hs127.rdRow 0 rfl).isSome (i := (i : Int)) (by omega) (by omega)) (by omega) (by omega)) ?_
                refine Drw.l 3 rfl (by kernel_rfl) hS128 (Yv.load A5 rfl (fun _ hq_ => (((hs127.grow hq_).rdRow 0 rfl).u8 (by omega) (by omega)))) ?_
                have g129 := gi_bytes (xs := blendOut true xs ys sw X Y W H H) (blendOut_bytes rfl hx hy) (i : Int)
                refine Drw.a 4 rfl (by kernel_rfl) (Yv.fld F51_0 rfl) ?_
                refine Drw.l 5 rfl (by kernel_rfl) hS128 (Yv.load A22 rfl (fun _ hq_ => ((hs127.grow hq_).cell 4 rfl 0 rfl))) ?_
                refine Drw.a 6 rfl (by kernel_rfl) (Yv.move rfl) ?_
                refine Drw.a 7 rfl (by kernel_rfl) (Yv.idx L22 rfl rfl ((hs127.rd hr).isSome (i := (i : Int)) (by omega) (by omega)) (by omega) (by omega)) ?_
                refine Drw.l 8 rfl (by kernel_rfl) hS128 (Yv.load A5 rfl (fun _ hq_ => (((hs127.grow hq_).rd hr).u8 (by omega) (by omega)))) ?_
                have g130 := gi_bytes (xs := xs) hx (i : Int)
                refine Drw.a 9 rfl (by kernel_rfl) (Yv.fld F51_3 rfl) ?_
                refine Drw.l 10 rfl (by kernel_rfl) hS128 (Yv.load A22 rfl (fun _ hq_ => ((hs127.grow hq_).cell 4 rfl 6 rfl))) ?_
                refine Drw.a 11 rfl (by kernel_rfl) (Yv.move rfl) ?_
                refine Drw.a 12 rfl (by kernel_rfl) (Yv.fld F51_2 rfl) ?_
                refine Drw.a 13 rfl (by kernel_rfl) (Yv.fld F29_2 rfl) ?_
                refine Drw.l 14 rfl (by kernel_rfl) hS128 (Yv.load A3 rfl (fun _ hq_ => ((hs127.grow hq_).cell 4 rfl 4 rfl))) ?_
                have hpl9 := place_in (W := W) (H := H) (r := (i : Int) / sw - Y) (c := (i : Int) % sw - X) (by omega) (by omega) (by omega) (by omega)
                have hmb9 := mul_bd (a := (i : Int) / sw - Y) (b := W) (x := 64) (y := 64) (by omega) (by omega) (by omega) (by omega)
                refine Drw.a 15 rfl (by kernel_rfl) (Yv.mul rfl rfl (by omega)) ?_
                refine Drw.a 16 rfl (by kernel_rfl) (Yv.move rfl) ?_
                refine Drw.a 17 rfl (by kernel_rfl) (Yv.add rfl rfl (by omega)) ?_
                refine Drw.a 18 rfl (by kernel_rfl) (Yv.idx L22 rfl rfl ((hs127.rd hr2).isSome (i := ((((i : Int) / sw) - Y) * W) + (((i : Int) % sw) - X)) (by omega) (by omega)) (by omega) (by omega)) ?_
                refine Drw.l 19 rfl (by kernel_rfl) hS128 (Yv.load A5 rfl (fun _ hq_ => (((hs127.grow hq_).rd hr2).u8 (by omega) (by omega)))) ?_
                have g131 := gi_bytes (xs := ys) hy (((((i : Int) / sw) - Y) * W) + (((i : Int) % sw) - X))
                refine Drw.one 20 rfl (by kernel_rfl) (Step.call rfl rfl (between_fun) (?_) True.intro (by rfl))
                rintro _ _ ⟨rfl, rfl⟩
                refine ⟨fun _ h => h, ?_⟩
                refine Drw.dec1 (by first | exact inside_law (up := true) (n := H) rfl (by omega) (by omega) (by omega) (by first | rfl | omega) | exact inside_law (up := false) (n := W) rfl (by omega) (by omega) (by omega) (by first | rfl | omega)) ?_
                refine Drw.a 21 rfl (by kernel_rfl) (Yv.not rfl) ?_
                refine Drw.done ?_ (by kernel_rfl)
                refine k126 _ _ ?_
                refine run_if0 rfl ?_
                refine run_skip ?_
                refine k109 _ _ ?_
                refine run_region ?_
                refine Ops.v (Yv.move rfl) ?_
                refine Ops.v (Yv.add rfl rfl (by omega)) ?_
                refine Ops.v (Yv.assign rfl) ?_
                refine Ops.nil ?_
                refine ⟨i + 1, _, ⟨hs127, rfl, by omega⟩, Sub.le ⟨rfl, rfl, rfl, rfl, rfl, rfl, rfl, rfl, rfl, rfl, rfl, rfl, rfl, lookI rfl (by omega), rfl, rfl, rfl, rfl, rfl, rfl, trivial⟩, by omega⟩
            · -- no
              refine run_exit ?_
              refine k103 _ _ ?_
              refine run_seq fun K133 k133 => ?_
              refine run_region ?_
              refine Ops.v (Yv.assign rfl) ?_
              refine Ops.nil ?_
              refine k133 _ _ ?_
              refine run_ret ?_
              refine ⟨[.bool true], ⟨_, _, rfl, rfl, rfl⟩, ?_⟩
              exact ⟨rfl, hs105.pick [] _ (by decide) rfl⟩

end Go.Proofs.Zed
