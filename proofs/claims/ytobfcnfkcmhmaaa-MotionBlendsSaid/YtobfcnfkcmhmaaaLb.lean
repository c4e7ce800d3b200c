/- The walk of MotionBlends. -/
import Derived.Test.YtobfcnfkcmhmaaaMy
set_option linter.unusedVariables false
set_option linter.unusedSimpArgs false
namespace Go.Proofs.Zed
open Go Go.RowKit Tf
attribute [local irreducible] Try.prog

set_option maxHeartbeats 4000000 in
theorem MotionBlends_fun {w : World} {A : Option Addr} {m c : Nat} {xs : List Int} (hr : Rd w A m 1 (u8s xs)) (hx : Bytes xs) {B : Option Addr} {m2 c2 : Nat} {ys : List Int} (hr2 : Rd w B m2 1 (u8s ys)) (hy : Bytes ys) {sw X Y W H : Int} (hs1 : m * 1 ≤ 140737488351232) (hs2 : m2 * 1 ≤ 140737488351232) : Fun Try.prog 5 [.agg #[.slice A m c, .int .i64 sw, .int .i64 X, .int .i64 Y, .int .i64 W, .int .i64 H, .slice B m2 c2]] w fun v w' => v = .bool true ∧ HS w [] w' := by
  refine fun_run (m := 90) (rs := [.tmp 2]) Try.func5 rfl rfl rfl rfl rfl ?_
  have hs0 := HS.start w
  have hbig := hr.big
  have hlen_xs : xs.length = m := by have := hr.len; rw [u8s_length] at this; omega
  have hlen_ys : ys.length = m2 := by have := hr2.len; rw [u8s_length] at this; omega
  refine run_seq fun K1 k1 => ?_
  refine run_region ?_
  refine Ops.s (Step.box (cs := [.slice A m c, .int .i64 sw, .int .i64 X, .int .i64 Y, .int .i64 W, .int .i64 H, .slice B m2 c2]) hs0 rfl rfl (fun b2 w3 hs3 hb3 => ?_) True.intro (by rfl))
  refine Ops.v (Yv.assign rfl) ?_
  refine Ops.nil ?_
  refine k1 _ _ ?_
  refine run_seq fun K5 k5 => ?_
  refine run_drawn [] (fun x => Below (w3.drew).heap.size (w3.drew) x) ?_ Tf.mixed (by kernel_rfl) (fun _ _ _ h => h)
  have hs6 := hs3.drew
  have hS7 := Below.refl (w3.drew).heap.size (w3.drew)
  refine Drw.a 0 rfl (by kernel_rfl) (Yv.fld F51_0 rfl) ?_
  refine Drw.l 1 rfl (by kernel_rfl) hS7 (Yv.load A22 rfl (fun _ hq_ => ((hs6.grow hq_).cell 0 rfl 0 rfl))) ?_
  refine Drw.a 3 rfl (by kernel_rfl) (Yv.fld F51_3 rfl) ?_
  refine Drw.l 4 rfl (by kernel_rfl) hS7 (Yv.load A22 rfl (fun _ hq_ => ((hs6.grow hq_).cell 0 rfl 6 rfl))) ?_
  refine Drw.one 2 rfl (by kernel_rfl) (Step.call rfl rfl (copyBytes_fun (hs6.rd hr) (by omega)) (?_) True.intro (by rfl))
  rintro _ w11 ⟨Ad8, c9, rfl, hs11⟩
  have hS12 := HS.keepS hS7 (Nat.le_refl _) hs11
  refine ⟨fun _ _ => hS12, ?_⟩
  replace hs11 := hs6.call hs11
  refine Drw.one 5 rfl (by kernel_rfl) (Step.call rfl rfl (copyBytes_fun (hs11.rd hr2) (by omega)) (?_) True.intro (by rfl))
  rintro _ w16 ⟨Ad13, c14, rfl, hs16⟩
  have hS17 := HS.keepS hS12 (Nat.le_refl _) hs16
  refine ⟨fun _ _ => hS17, ?_⟩
  replace hs16 := hs11.call hs16
  refine Drw.a 6 rfl (by kernel_rfl) (Yv.assign rfl) ?_
  refine Drw.a 7 rfl (by kernel_rfl) (Yv.assign rfl) ?_
  refine Drw.done ?_ (by kernel_rfl)
  refine k5 _ _ ?_
  refine run_seq fun K18 k18 => ?_
  refine run_region ?_
  refine Ops.v (Yv.move rfl) ?_
  refine Ops.v (Yv.fld F51_1 rfl) ?_
  refine Ops.v (Yv.load A3 rfl (now (hs16.cell 2 rfl 1 rfl))) ?_
  refine Ops.v (Yv.fld F51_2 rfl) ?_
  refine Ops.v (Yv.loadn (cs := [.int .i64 X, .int .i64 Y, .int .i64 W, .int .i64 H]) A29 S29 rfl (now (hs16.cells 2 rfl 2 4))) ?_
  refine Ops.v (Yv.move rfl) ?_
  refine Ops.s (Step.call rfl rfl (above_fun (hs16.rdRow 1 rfl) hx (hs16.rdRow 0 rfl) hy (by omega)) (?_) True.intro (by rfl))
  rintro _ w22 ⟨Ad19, c20, rfl, hs22⟩
  replace hs22 := hs16.call hs22
  refine Ops.v (Yv.move rfl) ?_
  refine Ops.v (Yv.extract rfl rfl) ?_
  refine Ops.v (Yv.extract rfl rfl) ?_
  refine Ops.v (Yv.assign rfl) ?_
  refine Ops.v (Yv.assign rfl) ?_
  refine Ops.nil ?_
  refine k18 _ _ ?_
  refine run_seq fun K23 k23 => ?_
  refine run_region ?_
  refine Ops.v (Yv.fld F51_0 rfl) ?_
  refine Ops.v (Yv.load A22 rfl (now (hs22.cell 3 rfl 0 rfl))) ?_
  refine Ops.v (Yv.fld F51_1 rfl) ?_
  refine Ops.v (Yv.load A3 rfl (now (hs22.cell 3 rfl 1 rfl))) ?_
  refine Ops.v (Yv.fld F51_2 rfl) ?_
  refine Ops.v (Yv.loadn (cs := [.int .i64 X, .int .i64 Y, .int .i64 W, .int .i64 H]) A29 S29 rfl (now (hs22.cells 3 rfl 2 4))) ?_
  refine Ops.v (Yv.fld F51_3 rfl) ?_
  refine Ops.v (Yv.load A22 rfl (now (hs22.cell 3 rfl 6 rfl))) ?_
  refine Ops.s (Step.call rfl rfl (rabove_fun (hs22.rd hr) hx (hs22.rd hr2) hy (by omega)) (?_) True.intro (by rfl))
  rintro _ w27 ⟨Ad24, c25, rfl, hs27⟩
  replace hs27 := hs22.call hs27
  refine Ops.v (Yv.move rfl) ?_
  refine Ops.v (Yv.extract rfl rfl) ?_
  refine Ops.v (Yv.extract rfl rfl) ?_
  refine Ops.v (Yv.assign rfl) ?_
  refine Ops.v (Yv.assign rfl) ?_
  refine Ops.nil ?_
  refine k23 _ _ ?_
  refine run_seq fun K28 k28 => ?_
  refine run_region ?_
  refine Ops.v (Yv.move rfl) ?_
  refine Ops.v (Yv.fld F51_1 rfl) ?_
  refine Ops.v (Yv.load A3 rfl (now (hs27.cell 4 rfl 1 rfl))) ?_
  refine Ops.v (Yv.fld F51_2 rfl) ?_
  refine Ops.v (Yv.loadn (cs := [.int .i64 X, .int .i64 Y, .int .i64 W, .int .i64 H]) A29 S29 rfl (now (hs27.cells 4 rfl 2 4))) ?_
  refine Ops.v (Yv.move rfl) ?_
  refine Ops.s (Step.call rfl rfl (left_fun (hs27.rdRow 3 rfl) hx (hs27.rdRow 2 rfl) hy (by omega)) (?_) True.intro (by rfl))
  rintro _ w32 ⟨Ad29, c30, rfl, hs32⟩
  replace hs32 := hs27.call hs32
  refine Ops.v (Yv.move rfl) ?_
  refine Ops.v (Yv.extract rfl rfl) ?_
  refine Ops.v (Yv.extract rfl rfl) ?_
  refine Ops.v (Yv.assign rfl) ?_
  refine Ops.v (Yv.assign rfl) ?_
  refine Ops.nil ?_
  refine k28 _ _ ?_
  refine run_seq fun K33 k33 => ?_
  refine run_region ?_
  refine Ops.v (Yv.fld F51_0 rfl) ?_
  refine Ops.v (Yv.load A22 rfl (now (hs32.cell 5 rfl 0 rfl))) ?_
  refine Ops.v (Yv.fld F51_1 rfl) ?_
  refine Ops.v (Yv.load A3 rfl (now (hs32.cell 5 rfl 1 rfl))) ?_
  refine Ops.v (Yv.fld F51_2 rfl) ?_
  refine Ops.v (Yv.loadn (cs := [.int .i64 X, .int .i64 Y, .int .i64 W, .int .i64 H]) A29 S29 rfl (now (hs32.cells 5 rfl 2 4))) ?_
  refine Ops.v (Yv.fld F51_3 rfl) ?_
  refine Ops.v (Yv.load A22 rfl (now (hs32.cell 5 rfl 6 rfl))) ?_
  refine Ops.s (Step.call rfl rfl (rleft_fun (hs32.rd hr) hx (hs32.rd hr2) hy (by omega)) (?_) True.intro (by rfl))
  rintro _ w37 ⟨Ad34, c35, rfl, hs37⟩
  replace hs37 := hs32.call hs37
  refine Ops.v (Yv.move rfl) ?_
  refine Ops.v (Yv.extract rfl rfl) ?_
  refine Ops.v (Yv.extract rfl rfl) ?_
  refine Ops.v (Yv.assign rfl) ?_
  refine Ops.v (Yv.assign rfl) ?_
  refine Ops.nil ?_
  refine k33 _ _ ?_
  refine run_seq fun K38 k38 => ?_
  refine run_region ?_
  refine Ops.v (Yv.move rfl) ?_
  refine Ops.v (Yv.move rfl) ?_
  refine Ops.v (Yv.move rfl) ?_
  refine Ops.v (Yv.move rfl) ?_
  refine Ops.s (Step.call rfl rfl (told_fun (hs37.pick [3, 0, 1, 2, 4, 5, 6] [.row Ad19 ((blendOut true xs ys sw X Y W H H).length) c20 (u8s (blendOut true xs ys sw X Y W H H)) 5 1, .row Ad34 ((blendOut false xs ys sw X Y W H W).length) c35 (u8s (blendOut false xs ys sw X Y W H W)) 5 1, .row Ad29 ((blendOut false xs ys sw X Y W H W).length) c30 (u8s (blendOut false xs ys sw X Y W H W)) 5 1, .row Ad24 ((blendOut true xs ys sw X Y W H H).length) c25 (u8s (blendOut true xs ys sw X Y W H H)) 5 1, .row Ad13 m2 c14 (u8s ys) 5 1, .row Ad8 m c9 (u8s xs) 5 1, .blk b2 [.slice A m c, .int .i64 sw, .int .i64 X, .int .i64 Y, .int .i64 W, .int .i64 H, .slice B m2 c2] 51] (by decide) rfl) (hs37.rdRow 2 rfl) (blendOut_bytes rfl hx hy)) (?_) True.intro (by rfl))
  rintro _ w40 ⟨rfl, zs39, hbzs39, hlzs39, hs40⟩
  refine Ops.dec1 (⟨rfl, rfl⟩) ?_
  refine Ops.v (Yv.move rfl) ?_
  refine Ops.vg ⟨_, rfl, rfl⟩ (Yv.move rfl) ?_
  refine Ops.vg ⟨_, rfl, rfl⟩ (Yv.move rfl) ?_
  refine Ops.vg ⟨_, rfl, rfl⟩ (Yv.move rfl) ?_
  refine Ops.vg ⟨_, rfl, rfl⟩ (Yv.move rfl) ?_
  refine Ops.s (Step.call rfl rfl (told_fun (hs40.pick [2, 0, 1, 3, 4, 5, 6] [.row Ad29 ((blendOut false xs ys sw X Y W H W).length) c30 (u8s (blendOut false xs ys sw X Y W H W)) 5 1, .row Ad19 ((blendOut true xs ys sw X Y W H H).length) c20 (u8s zs39) 5 1, .row Ad34 ((blendOut false xs ys sw X Y W H W).length) c35 (u8s (blendOut false xs ys sw X Y W H W)) 5 1, .row Ad24 ((blendOut true xs ys sw X Y W H H).length) c25 (u8s (blendOut true xs ys sw X Y W H H)) 5 1, .row Ad13 m2 c14 (u8s ys) 5 1, .row Ad8 m c9 (u8s xs) 5 1, .blk b2 [.slice A m c, .int .i64 sw, .int .i64 X, .int .i64 Y, .int .i64 W, .int .i64 H, .slice B m2 c2] 51] (by decide) rfl) (hs40.rdRow 1 rfl) (blendOut_bytes rfl hx hy)) (?_) ⟨_, rfl, rfl⟩ (by rfl))
  rintro _ w42 ⟨rfl, zs41, hbzs41, hlzs41, hs42⟩
  refine Ops.dec1 (⟨rfl, rfl⟩) ?_
  refine Ops.v (Yv.pick1 rfl rfl) ?_
  refine Ops.v (Yv.move rfl) ?_
  refine Ops.vg ⟨_, rfl, rfl⟩ (Yv.move rfl) ?_
  refine Ops.vg ⟨_, rfl, rfl⟩ (Yv.fld F51_0 rfl) ?_
  refine Ops.vg ⟨_, rfl, rfl⟩ (Yv.load A22 rfl (now (hs42.cell 6 rfl 0 rfl))) ?_
  refine Ops.s (Step.call rfl rfl (eqBytes_fun (hs42.rdRow 5 rfl) (hs42.rd hr)) (?_) ⟨_, rfl, rfl⟩ (by rfl))
  rintro _ w43 ⟨rfl, hs43⟩
  replace hs43 := hs42.call hs43
  refine Ops.dec1 (rfl) ?_
  refine Ops.v (Yv.pick1 rfl rfl) ?_
  refine Ops.v (Yv.move rfl) ?_
  refine Ops.vg ⟨_, rfl, rfl⟩ (Yv.move rfl) ?_
  refine Ops.vg ⟨_, rfl, rfl⟩ (Yv.fld F51_3 rfl) ?_
  refine Ops.vg ⟨_, rfl, rfl⟩ (Yv.load A22 rfl (now (hs43.cell 6 rfl 6 rfl))) ?_
  refine Ops.s (Step.call rfl rfl (eqBytes_fun (hs43.rdRow 4 rfl) (hs43.rd hr2)) (?_) ⟨_, rfl, rfl⟩ (by rfl))
  rintro _ w44 ⟨rfl, hs44⟩
  replace hs44 := hs43.call hs44
  refine Ops.dec1 (rfl) ?_
  refine Ops.v (Yv.pick1 rfl rfl) ?_
  refine Ops.v (Yv.move rfl) ?_
  refine Ops.s (Step.call rfl rfl (works_fun) (?_) ⟨_, rfl, rfl⟩ (by rfl))
  rintro _ w45 ⟨rfl, hs45⟩
  replace hs45 := hs44.call hs45
  refine Ops.v (Yv.pick1 rfl rfl) ?_
  refine Ops.v (Yv.assign rfl) ?_
  refine Ops.nil ?_
  refine k38 _ _ ?_
  refine run_ret ?_
  refine ⟨[.bool true], ⟨_, _, rfl, rfl, rfl⟩, ?_⟩
  exact ⟨rfl, hs45.pick [] _ (by decide) rfl⟩

end Go.Proofs.Zed
