/- The walk of DeblockTurned. -/
import Derived.Test.YtnkckjebcpagnaaDl
import Derived.Test.YtnkckjebcpagnaaDh
set_option linter.unusedVariables false
set_option linter.unusedSimpArgs false
namespace Go.Proofs.Zed
open Go Go.RowKit Tf
attribute [local irreducible] Try.prog

set_option maxHeartbeats 4000000 in
theorem DeblockTurned_fun {w : World} {a b lv0 sh0 : Int} {up co : Bool} {A : Option Addr} {m c : Nat} {xs : List Int} (hr : Rd w A m 1 (u8s xs)) (hx : Bytes xs) : Fun Try.prog 4 [.agg #[.int .i64 a, .int .i64 b], .slice A m c, .agg #[.bool up, .bool co, .int .i64 lv0, .int .i64 sh0]] w fun v w' => v = .bool true ∧ HS w [] w' := by
  refine fun_run (m := 149) (rs := [.tmp 6]) Try.func4 rfl rfl rfl rfl rfl ?_
  have hs0 := HS.start w
  have hbig := hr.big
  refine run_seq fun K1 k1 => ?_
  refine run_region ?_
  refine Ops.s (Step.box (cs := [.int .i64 a, .int .i64 b]) hs0 rfl rfl (fun b2 w3 hs3 hb3 => ?_) True.intro (by rfl))
  refine Ops.s (Step.box (cs := [.bool up, .bool co, .int .i64 lv0, .int .i64 sh0]) hs3 rfl rfl (fun b5 w6 hs6 hb6 => ?_) True.intro (by rfl))
  refine Ops.v (Yv.assign rfl) ?_
  refine Ops.nil ?_
  refine k1 _ _ ?_
  refine run_seq fun K8 k8 => ?_
  refine run_seq fun K9 k9 => ?_
  refine run_region ?_
  refine Ops.s (Step.call rfl rfl (awake22_fun) (?_) True.intro (by rfl))
  rintro _ w10 ⟨rfl, hs10⟩
  replace hs10 := hs6.call hs10
  refine Ops.v (Yv.not rfl) ?_
  refine Ops.nil ?_
  refine k9 _ _ ?_
  refine run_if0 rfl ?_
  refine run_skip ?_
  refine k8 _ _ ?_
  refine run_seq fun K11 k11 => ?_
  refine run_region ?_
  refine Ops.v (Yv.idxa R22 rfl rfl (by decide) (by decide)) ?_
  refine Ops.v (Yv.load A3 rfl (now (hs10.cell 1 rfl 0 rfl))) ?_
  refine Ops.v (Yv.idxa R22 rfl rfl (by decide) (by decide)) ?_
  refine Ops.v (Yv.load A3 rfl (now (hs10.cell 1 rfl 1 rfl))) ?_
  refine Ops.v (Yv.move rfl) ?_
  refine Ops.s (Step.call rfl rfl (fit22_fun2 (hs10.rd hr) hx) (?_) True.intro (by rfl))
  rintro _ w15 ⟨W, H, Ad12, c13, hW, hH, rfl, hs15⟩
  replace hs15 := hs10.call hs15
  have hmW := mul_bd (a := W) (b := H) (x := 64) (y := 64) (by omega) (by omega) (by omega) (by omega)
  refine Ops.s (Step.alloc (cs := [.int .i64 0, .int .i64 0, .slice none 0 0]) hs15 Z28 rfl (fun b16 w17 hs17 hb17 => ?_) True.intro (by rfl))
  refine Ops.s (Step.store (vs := [.int .i64 W, .int .i64 H, .slice Ad12 ((W * H).toNat) c13]) 0 hs17 rfl rfl rfl rfl S28 (Nat.le_of_ble_eq_true rfl) rfl (fun w19 hs19 => ?_) True.intro)
  replace hs19 : HS _ [.blk _ [_, _, _] _, .row _ _ _ _ _ _, .blk _ [_, _, _, _] _, .blk _ [_, _] _] _ := hs19
  refine Ops.nil ?_
  refine k11 _ _ ?_
  refine run_seq fun K20 k20 => ?_
  refine Run.cut (fun e_ w_ => ∃ b27 b24, HS w [.blk b27 [.int .i64 H, .int .i64 W, .slice (some ⟨b24, 0, none⟩) ((W * H).toNat) ((W * H).toNat)] 28, .row (some ⟨b24, 0, none⟩) ((W * H).toNat) ((W * H).toNat) (u8s (List.replicate ((W * H).toNat) 0)) 5 1, .blk b16 [.int .i64 W, .int .i64 H, .slice Ad12 ((W * H).toNat) c13] 28, .row Ad12 ((W * H).toNat) c13 (u8s (fitTo xs (W * H).toNat)) 5 1, .blk b5 [.bool up, .bool co, .int .i64 lv0, .int .i64 sh0] 25, .blk b2 [.int .i64 a, .int .i64 b] 22] w_ ∧ Le [(0, .agg #[.int .i64 a, .int .i64 b]), (1, .slice A m c), (2, .agg #[.bool up, .bool co, .int .i64 lv0, .int .i64 sh0]), (3, .pointer (some ⟨b2, 0, none⟩)), (5, .pointer (some ⟨b5, 0, none⟩)), (6, .bool false), (7, .pointer (some ⟨b16, 0, none⟩)), (8, .pointer (some ⟨b27, 0, none⟩)), (19, .bool false)] e_) ?_ ?_
  · -- region 4: its ways meet again
    refine run_drawn [10] (fun x => Below (w19.drew).heap.size (w19.drew) x) ?_ Tf.mixed (by kernel_rfl) (fun _ _ _ h => h)
    have hs21 := hs19.drew
    have hS22 := Below.refl (w19.drew).heap.size (w19.drew)
    refine Drw.a 0 rfl (by kernel_rfl) (Yv.fld F28_1 rfl) ?_
    refine Drw.l 1 rfl (by kernel_rfl) hS22 (Yv.load A3 rfl (fun _ hq_ => ((hs21.grow hq_).cell 0 rfl 1 rfl))) ?_
    refine Drw.a 2 rfl (by kernel_rfl) (Yv.fld F28_0 rfl) ?_
    refine Drw.l 3 rfl (by kernel_rfl) hS22 (Yv.load A3 rfl (fun _ hq_ => ((hs21.grow hq_).cell 0 rfl 0 rfl))) ?_
    refine Drw.a 4 rfl (by kernel_rfl) (Yv.fld F28_2 rfl) ?_
    refine Drw.l 5 rfl (by kernel_rfl) hS22 (Yv.load A23 rfl (fun _ hq_ => ((hs21.grow hq_).cell 0 rfl 2 rfl))) ?_
    refine Drw.a 6 rfl (by kernel_rfl) (Yv.len (by rw [L23]; rfl) rfl) ?_
    refine Drw.all [7, 9] ?_ (by kernel_rfl) rfl
    intro i hi
    simp only [List.mem_cons, List.not_mem_nil, or_false] at hi
    rcases hi with rfl | rfl
    · -- operation 7 first
      refine ⟨_, _, _, _, _, _, rfl, ?_⟩
      refine Step.make hs21 L23 Z5 rfl rfl (by omega) (by omega) (by omega) (fun b24 w23 hs23 hb23 => ?_) True.intro (by rfl)
      have hS26 := hS22.trans (hb23.mono (Nat.le_trans (Nat.le_refl _) hS22.size))
      refine ⟨fun _ _ => hS26, ?_⟩
      rw [u8s_rep] at hs23
      refine Drw.a 8 rfl (by kernel_rfl) (Yv.buildS (cs := #[.int .i64 H, .int .i64 W, .slice (some ⟨b24, 0, none⟩) ((W * H).toNat) ((W * H).toNat)]) T28 rfl rfl) ?_
      refine Drw.one 9 rfl (by kernel_rfl) (Step.alloc (cs := [.int .i64 0, .int .i64 0, .slice none 0 0]) hs23 Z28 rfl (fun b27 w28 hs28 hb28 => ?_) True.intro (by rfl))
      have hS30 := hS26.trans (hb28.mono (Nat.le_trans (Nat.le_refl _) hS26.size))
      refine ⟨fun _ _ => hS30, ?_⟩
      refine Drw.one 10 rfl (by kernel_rfl) (Step.store (vs := [.int .i64 H, .int .i64 W, .slice (some ⟨b24, 0, none⟩) ((W * H).toNat) ((W * H).toNat)]) 0 hs28 rfl rfl rfl rfl S28 (Nat.le_of_ble_eq_true rfl) rfl (fun w31 hs31 => ?_) True.intro)
      refine ⟨fun h => absurd h (by decide), ?_⟩
      replace hs31 : HS _ [.blk _ [_, _, _] _, .row _ _ _ _ _ _, .blk _ [_, _, _] _, .row _ _ _ _ _ _, .blk _ [_, _, _, _] _, .blk _ [_, _] _] _ := hs31
      refine Drw.done ?_ (by kernel_rfl)
      refine ⟨b27, b24, hs31.pick [0, 1, 2, 3, 4, 5] [.blk b27 [.int .i64 H, .int .i64 W, .slice (some ⟨b24, 0, none⟩) ((W * H).toNat) ((W * H).toNat)] 28, .row (some ⟨b24, 0, none⟩) ((W * H).toNat) ((W * H).toNat) (u8s (List.replicate ((W * H).toNat) 0)) 5 1, .blk b16 [.int .i64 W, .int .i64 H, .slice Ad12 ((W * H).toNat) c13] 28, .row Ad12 ((W * H).toNat) c13 (u8s (fitTo xs (W * H).toNat)) 5 1, .blk b5 [.bool up, .bool co, .int .i64 lv0, .int .i64 sh0] 25, .blk b2 [.int .i64 a, .int .i64 b] 22] (by decide) rfl, Sub.le ⟨rfl, rfl, rfl, rfl, rfl, rfl, rfl, rfl, rfl, trivial⟩⟩
    · -- operation 9 first
      refine ⟨_, _, _, _, _, _, rfl, ?_⟩
      refine Step.alloc (cs := [.int .i64 0, .int .i64 0, .slice none 0 0]) hs21 Z28 rfl (fun b32 w33 hs33 hb33 => ?_) True.intro (by rfl)
      have hS35 := hS22.trans (hb33.mono (Nat.le_trans (Nat.le_refl _) hS22.size))
      refine ⟨fun _ _ => hS35, ?_⟩
      refine Drw.one 7 rfl (by kernel_rfl) (Step.make hs33 L23 Z5 rfl rfl (by omega) (by omega) (by omega) (fun b37 w36 hs36 hb36 => ?_) True.intro (by rfl))
      have hS39 := hS35.trans (hb36.mono (Nat.le_trans (Nat.le_refl _) hS35.size))
      refine ⟨fun _ _ => hS39, ?_⟩
      rw [u8s_rep] at hs36
      refine Drw.a 8 rfl (by kernel_rfl) (Yv.buildS (cs := #[.int .i64 H, .int .i64 W, .slice (some ⟨b37, 0, none⟩) ((W * H).toNat) ((W * H).toNat)]) T28 rfl rfl) ?_
      refine Drw.one 10 rfl (by kernel_rfl) (Step.store (vs := [.int .i64 H, .int .i64 W, .slice (some ⟨b37, 0, none⟩) ((W * H).toNat) ((W * H).toNat)]) 1 hs36 rfl rfl rfl rfl S28 (Nat.le_of_ble_eq_true rfl) rfl (fun w40 hs40 => ?_) True.intro)
      refine ⟨fun h => absurd h (by decide), ?_⟩
      replace hs40 : HS _ [.row _ _ _ _ _ _, .blk _ [_, _, _] _, .blk _ [_, _, _] _, .row _ _ _ _ _ _, .blk _ [_, _, _, _] _, .blk _ [_, _] _] _ := hs40
      refine Drw.done ?_ (by kernel_rfl)
      refine ⟨b32, b37, hs40.pick [1, 0, 2, 3, 4, 5] [.blk b32 [.int .i64 H, .int .i64 W, .slice (some ⟨b37, 0, none⟩) ((W * H).toNat) ((W * H).toNat)] 28, .row (some ⟨b37, 0, none⟩) ((W * H).toNat) ((W * H).toNat) (u8s (List.replicate ((W * H).toNat) 0)) 5 1, .blk b16 [.int .i64 W, .int .i64 H, .slice Ad12 ((W * H).toNat) c13] 28, .row Ad12 ((W * H).toNat) c13 (u8s (fitTo xs (W * H).toNat)) 5 1, .blk b5 [.bool up, .bool co, .int .i64 lv0, .int .i64 sh0] 25, .blk b2 [.int .i64 a, .int .i64 b] 22] (by decide) rfl, Sub.le ⟨rfl, rfl, rfl, rfl, rfl, rfl, rfl, rfl, rfl, trivial⟩⟩
  rintro e41 w41 ⟨b27, b24, hs41, he41⟩
  refine k20 _ _ ?_
  refine Run.le he41 ?_
  refine run_seq fun K42 k42 => ?_
  refine run_seq fun K43 k43 => ?_
  refine run_region ?_
  refine Ops.v (Yv.assign rfl) ?_
  refine Ops.nil ?_
  refine k43 _ _ ?_
  refine run_block ?_
  have hWH := mul_bd (a := W) (b := H) (x := 64) (y := 64) (by omega) (by omega) (by omega) (by omega)
  refine Run.sub [(0, _), (1, _), (2, _), (3, _), (5, _), (6, _), (7, _), (8, _), (9, _), (19, _)] ⟨rfl, rfl, rfl, rfl, rfl, rfl, rfl, rfl, rfl, rfl, trivial⟩ ?_
  refine run_loop (σ := Nat) (fun k e_ w_ => HS w [.blk b27 [.int .i64 H, .int .i64 W, .slice (some ⟨b24, 0, none⟩) ((W * H).toNat) ((W * H).toNat)] 28, .row (some ⟨b24, 0, none⟩) ((W * H).toNat) ((W * H).toNat) (u8s (turnTo W H (fitTo xs (W * H).toNat) (W * H).toNat k)) 5 1, .blk b16 [.int .i64 W, .int .i64 H, .slice Ad12 ((W * H).toNat) c13] 28, .row Ad12 ((W * H).toNat) c13 (u8s (fitTo xs (W * H).toNat)) 5 1, .blk b5 [.bool up, .bool co, .int .i64 lv0, .int .i64 sh0] 25, .blk b2 [.int .i64 a, .int .i64 b] 22] w_ ∧ e_ = [(0, .agg #[.int .i64 a, .int .i64 b]), (1, .slice A m c), (2, .agg #[.bool up, .bool co, .int .i64 lv0, .int .i64 sh0]), (3, .pointer (some ⟨b2, 0, none⟩)), (5, .pointer (some ⟨b5, 0, none⟩)), (6, .bool false), (7, .pointer (some ⟨b16, 0, none⟩)), (8, .pointer (some ⟨b27, 0, none⟩)), (9, .int .i64 (k : Int)), (19, .bool false)] ∧ k ≤ (W * H).toNat)
    (fun k => (W * H).toNat - k) 0 ?_ ?_
  · -- at the start
    refine ⟨hs41, rfl, by omega⟩
  · -- a round
    rintro k _ w44 ⟨hs44, rfl, f1⟩
    refine run_seq fun K45 k45 => ?_
    refine run_seq fun K46 k46 => ?_
    refine run_region ?_
    refine Ops.v (Yv.move rfl) ?_
    refine Ops.v (Yv.fld F28_2 rfl) ?_
    refine Ops.v (Yv.load A23 rfl (now (hs44.cell 2 rfl 2 rfl))) ?_
    refine Ops.v (Yv.len (by rw [L23]; rfl) rfl) ?_
    refine Ops.v (Yv.lt rfl rfl) ?_
    refine Ops.nil ?_
    refine k46 _ _ ?_
    refine run_ifp rfl (fun h47 => ?_) (fun h47 => ?_)
    · -- yes (k : Int) < ((W * H).toNat : Int)
      have hk1 : (k : Int) < W * H := by omega
      have hkm : 0 ≤ (k : Int) % W ∧ (k : Int) % W < W := ⟨Int.emod_nonneg _ (by omega), Int.emod_lt_of_pos _ (by omega)⟩
      have hkd : 0 ≤ (k : Int) / W ∧ (k : Int) / W < H := ⟨Int.ediv_nonneg (by omega) (by omega), Int.ediv_lt_of_lt_mul (by omega) (by rw [Int.mul_comm]; omega)⟩
      have hp := place_in (W := H) (H := W) (r := (k : Int) % W) (c := (k : Int) / W) (by omega) (by omega) (by omega) (by omega)
      rw [Int.mul_comm H W] at hp
      refine run_skip ?_
      refine k45 _ _ ?_
      refine run_seq fun K48 k48 => ?_
      refine run_block ?_
      refine run_drawn [20] (fun x => Below (w44.drew).heap.size (w44.drew) x) ?_ Tf.mixed (by kernel_rfl) (fun _ _ _ h => h)
      have hs49 := hs44.drew
      have hS50 := Below.refl (w44.drew).heap.size (w44.drew)
      refine Drw.a 0 rfl (by kernel_rfl) (Yv.fld F28_2 rfl) ?_
      refine Drw.l 1 rfl (by kernel_rfl) hS50 (Yv.load A23 rfl (fun _ hq_ => ((hs49.grow hq_).cell 0 rfl 2 rfl))) ?_
      refine Drw.a 2 rfl (by kernel_rfl) (Yv.move rfl) ?_
      refine Drw.a 3 rfl (by kernel_rfl) (Yv.fld F28_0 rfl) ?_
      refine Drw.l 4 rfl (by kernel_rfl) hS50 (Yv.load A3 rfl (fun _ hq_ => ((hs49.grow hq_).cell 2 rfl 0 rfl))) ?_
      refine Drw.a 5 rfl (by kernel_rfl) (Yv.rem rfl rfl (by omega) (by omega)) ?_
      refine Drw.a 6 rfl (by kernel_rfl) (Yv.fld F28_0 rfl) ?_
      refine Drw.l 7 rfl (by kernel_rfl) hS50 (Yv.load A3 rfl (fun _ hq_ => ((hs49.grow hq_).cell 0 rfl 0 rfl))) ?_
      refine Drw.a 8 rfl (by kernel_rfl) (Yv.mul rfl rfl (by omega)) ?_
      refine Drw.a 9 rfl (by kernel_rfl) (Yv.move rfl) ?_
      refine Drw.a 10 rfl (by kernel_rfl) (Yv.fld F28_0 rfl) ?_
      refine Drw.l 11 rfl (by kernel_rfl) hS50 (Yv.load A3 rfl (fun _ hq_ => ((hs49.grow hq_).cell 2 rfl 0 rfl))) ?_
      refine Drw.a 12 rfl (by kernel_rfl) (Yv.quo rfl rfl (by omega) (by omega) (by omega)) ?_
      refine Drw.a 13 rfl (by kernel_rfl) (Yv.add rfl rfl (by omega)) ?_
      refine Drw.a 14 rfl (by kernel_rfl) (Yv.fld F28_2 rfl) ?_
      refine Drw.l 15 rfl (by kernel_rfl) hS50 (Yv.load A23 rfl (fun _ hq_ => ((hs49.grow hq_).cell 2 rfl 2 rfl))) ?_
      refine Drw.a 16 rfl (by kernel_rfl) (Yv.move rfl) ?_
      refine Drw.a 17 rfl (by kernel_rfl) (Yv.idx L23 rfl rfl ((hs49.rdRow 3 rfl).isSome (i := (k : Int)) (by omega) (by omega)) (by omega) (by omega)) ?_
      refine Drw.l 18 rfl (by kernel_rfl) hS50 (Yv.load A5 rfl (fun _ hq_ => (((hs49.grow hq_).rdRow 3 rfl).u8 (by omega) (by omega)))) ?_
      have g51 := gi_bytes (xs := fitTo xs (W * H).toNat) (fitTo_bytes hx _) (k : Int)
      refine Drw.a 19 rfl (by kernel_rfl) (Yv.idx L23 rfl rfl ((hs49.rdRow 1 rfl).isSome (i := (((k : Int) % W) * H) + ((k : Int) / W)) (by omega) (by omega)) (by omega) (by omega)) ?_
      refine Drw.one 20 rfl (by kernel_rfl) (Step.storeRow (vs := [.int .u8 (gi (fitTo xs (W * H).toNat) (k : Int))]) 1 hs49 rfl rfl rfl rfl S5 (by have hl_ := (hs49.rdRow 1 rfl).len; show ((((k : Int) % W) * H) + ((k : Int) / W)).toNat * 1 + 1 ≤ _; omega) (Nat.succ_pos _) rfl (fun w52 hs52 => ?_) True.intro)
      refine ⟨fun h => absurd h (by decide), ?_⟩
      have hs52_ := u8s_put (xs := turnTo W H (fitTo xs (W * H).toNat) (W * H).toNat k) (i := ((((k : Int) % W) * H) + ((k : Int) / W)).toNat * 1) (v := gi (fitTo xs (W * H).toNat) (k : Int)) (by have hl_ := (hs49.rdRow 1 rfl).len; rw [u8s_length] at hl_; omega)
      simp only [Nat.mul_one] at hs52_
      replace hs52 : HS w [.blk b27 [.int .i64 H, .int .i64 W, .slice (some ⟨b24, 0, none⟩) ((W * H).toNat) ((W * H).toNat)] 28, .row (some ⟨b24, 0, none⟩) ((W * H).toNat) ((W * H).toNat) (u8s ((turnTo W H (fitTo xs (W * H).toNat) (W * H).toNat k).set (((((k : Int) % W) * H) + ((k : Int) / W)).toNat) (gi (fitTo xs (W * H).toNat) (k : Int)))) 5 1, .blk b16 [.int .i64 W, .int .i64 H, .slice Ad12 ((W * H).toNat) c13] 28, .row Ad12 ((W * H).toNat) c13 (u8s (fitTo xs (W * H).toNat)) 5 1, .blk b5 [.bool up, .bool co, .int .i64 lv0, .int .i64 sh0] 25, .blk b2 [.int .i64 a, .int .i64 b] 22] w52 := by simpa only [List.set, Nat.mul_one, hs52_] using hs52
      refine Drw.done ?_ (by kernel_rfl)
      refine k48 _ _ ?_
      refine run_region ?_
      refine Ops.v (Yv.move rfl) ?_
      refine Ops.v (Yv.add rfl rfl (by omega)) ?_
      refine Ops.v (Yv.assign rfl) ?_
      refine Ops.nil ?_
      refine ⟨k + 1, _, ⟨hs52, rfl, by omega⟩, Sub.le ⟨rfl, rfl, rfl, rfl, rfl, rfl, rfl, rfl, lookI rfl (by omega), rfl, trivial⟩, by omega⟩
    · -- no
      refine run_exit ?_
      have hk : k = (W * H).toNat := by omega
      refine k42 _ _ ?_
      refine run_seq fun K53 k53 => ?_
      refine run_region ?_
      refine Ops.v (Yv.fld F25_2 rfl) ?_
      refine Ops.v (Yv.load A3 rfl (now (hs44.cell 4 rfl 2 rfl))) ?_
      refine Ops.s (Step.call rfl rfl (bring_fun (by omega)) (?_) True.intro (by rfl))
      rintro _ _ ⟨rfl, rfl⟩
      have g54 := bringF_bd (i := lv0) (n := 5) (by decide)
      have hp5 := pow5 (m := (bringF lv0 5).toNat) (by omega)
      refine Ops.v (Yv.shl8 rfl rfl ((bringF lv0 5).toNat) (by first | rfl | omega) (by omega) (by omega)) ?_
      refine Ops.v (Yv.assign rfl) ?_
      refine Ops.nil ?_
      refine k53 _ _ ?_
      obtain ⟨sz, hsz⟩ : ∃ x_ : Int, x_ = 4 * 2 ^ ((bringF lv0 5).toNat) := ⟨_, rfl⟩
      refine Run.sub [(0, .agg #[.int .i64 a, .int .i64 b]), (1, .slice A m c), (2, .agg #[.bool up, .bool co, .int .i64 lv0, .int .i64 sh0]), (3, .pointer (some ⟨b2, 0, none⟩)), (5, .pointer (some ⟨b5, 0, none⟩)), (6, .bool false), (7, .pointer (some ⟨b16, 0, none⟩)), (8, .pointer (some ⟨b27, 0, none⟩)), (9, .int .i64 (k : Int)), (10, .int .u8 sz), (19, .bool false), (39, .bool (decide ((k : Int) < ((W * H).toNat : Int))))] ⟨rfl, rfl, rfl, rfl, rfl, rfl, rfl, rfl, rfl, lookI rfl hsz.symm, rfl, rfl, trivial⟩ ?_
      have hsz5 : sz = 4 ∨ sz = 8 ∨ sz = 16 ∨ sz = 32 ∨ sz = 64 := by omega
      refine run_seq fun K56 k56 => ?_
      refine run_drawn [] (fun x => Below (w44.drew).heap.size (w44.drew) x) ?_ Tf.mixed (by kernel_rfl) (fun _ _ _ h => h)
      have hs57 := hs44.drew
      have hS58 := Below.refl (w44.drew).heap.size (w44.drew)
      refine Drw.a 0 rfl (by kernel_rfl) (Yv.fld F25_2 rfl) ?_
      refine Drw.l 1 rfl (by kernel_rfl) hS58 (Yv.load A3 rfl (fun _ hq_ => ((hs57.grow hq_).cell 4 rfl 2 rfl))) ?_
      refine Drw.a 3 rfl (by kernel_rfl) (Yv.fld F25_3 rfl) ?_
      refine Drw.l 4 rfl (by kernel_rfl) hS58 (Yv.load A3 rfl (fun _ hq_ => ((hs57.grow hq_).cell 4 rfl 3 rfl))) ?_
      refine Drw.one 2 rfl (by kernel_rfl) (Step.call rfl rfl (bring_fun (by omega)) (?_) True.intro (by rfl))
      rintro _ _ ⟨rfl, rfl⟩
      refine ⟨fun _ h => h, ?_⟩
      have g59 := bringF_bd (i := lv0) (n := 64) (by decide)
      refine Drw.one 5 rfl (by kernel_rfl) (Step.call rfl rfl (bring_fun (by omega)) (?_) True.intro (by rfl))
      rintro _ _ ⟨rfl, rfl⟩
      refine ⟨fun _ h => h, ?_⟩
      have g61 := bringF_bd (i := sh0) (n := 8) (by decide)
      refine Drw.a 6 rfl (by kernel_rfl) (Yv.assign rfl) ?_
      refine Drw.a 7 rfl (by kernel_rfl) (Yv.assign rfl) ?_
      refine Drw.done ?_ (by kernel_rfl)
      refine k56 _ _ ?_
      obtain ⟨lv, hlv⟩ : ∃ x_ : Int, x_ = bringF lv0 64 := ⟨_, rfl⟩
      obtain ⟨sh, hsh⟩ : ∃ x_ : Int, x_ = bringF sh0 8 := ⟨_, rfl⟩
      refine Run.sub [(0, .agg #[.int .i64 a, .int .i64 b]), (1, .slice A m c), (2, .agg #[.bool up, .bool co, .int .i64 lv0, .int .i64 sh0]), (3, .pointer (some ⟨b2, 0, none⟩)), (5, .pointer (some ⟨b5, 0, none⟩)), (6, .bool false), (7, .pointer (some ⟨b16, 0, none⟩)), (8, .pointer (some ⟨b27, 0, none⟩)), (9, .int .i64 (k : Int)), (10, .int .u8 sz), (11, .int .i64 lv), (12, .int .i64 sh), (19, .bool false), (39, .bool (decide ((k : Int) < ((W * H).toNat : Int))))] ⟨rfl, rfl, rfl, rfl, rfl, rfl, rfl, rfl, rfl, rfl, lookI rfl hlv.symm, lookI rfl hsh.symm, rfl, rfl, trivial⟩ ?_
      have hlv2 : 0 ≤ lv ∧ lv ≤ 63 := by omega
      have hsh2 : 0 ≤ sh ∧ sh ≤ 7 := by omega
      refine run_seq fun K63 k63 => ?_
      refine Run.cut (fun e_ w_ => ∃ b82 Ad77 c78 Ad66 c69 Ad67 c70 Ad68 c71, HS w [.blk b82 [.int .i64 W, .int .i64 H, .slice Ad77 ((W * H).toNat) c78] 28, .row Ad77 ((W * H).toNat) c78 (u8s (passF true co W H (W / 4) (List.replicate ((H / 4).toNat * (W / 4).toNat) sz) (idsTo (W / 4).toNat (sz / 4) ((H / 4).toNat * (W / 4).toNat)) (List.replicate ((H / 4).toNat * (W / 4).toNat) false) lv sh (fitTo xs (W * H).toNat))) 5 1, .row Ad66 ((H / 4).toNat * (W / 4).toNat) c69 (u8s (List.replicate ((H / 4).toNat * (W / 4).toNat) sz)) 5 1, .row Ad67 ((H / 4).toNat * (W / 4).toNat) c70 (i64s (idsTo (W / 4).toNat (sz / 4) ((H / 4).toNat * (W / 4).toNat))) 3 1, .row Ad68 ((H / 4).toNat * (W / 4).toNat) c71 (bools (List.replicate ((H / 4).toNat * (W / 4).toNat) false)) 4 1, .blk b27 [.int .i64 H, .int .i64 W, .slice (some ⟨b24, 0, none⟩) ((W * H).toNat) ((W * H).toNat)] 28, .row (some ⟨b24, 0, none⟩) ((W * H).toNat) ((W * H).toNat) (u8s (turnTo W H (fitTo xs (W * H).toNat) (W * H).toNat k)) 5 1, .blk b16 [.int .i64 W, .int .i64 H, .slice Ad12 ((W * H).toNat) c13] 28, .row Ad12 ((W * H).toNat) c13 (u8s (fitTo xs (W * H).toNat)) 5 1, .blk b5 [.bool up, .bool co, .int .i64 lv0, .int .i64 sh0] 25, .blk b2 [.int .i64 a, .int .i64 b] 22] w_ ∧ Le [(0, .agg #[.int .i64 a, .int .i64 b]), (1, .slice A m c), (2, .agg #[.bool up, .bool co, .int .i64 lv0, .int .i64 sh0]), (3, .pointer (some ⟨b2, 0, none⟩)), (5, .pointer (some ⟨b5, 0, none⟩)), (6, .bool false), (7, .pointer (some ⟨b16, 0, none⟩)), (8, .pointer (some ⟨b27, 0, none⟩)), (9, .int .i64 (k : Int)), (10, .int .u8 sz), (11, .int .i64 lv), (12, .int .i64 sh), (13, .pointer (some ⟨b82, 0, none⟩)), (14, .int .i64 0), (19, .bool false), (39, .bool (decide ((k : Int) < ((W * H).toNat : Int))))] e_) ?_ ?_
      · -- region 11: its ways meet again
        refine run_drawn [13] (fun x => Below ((w44.drew).drew).heap.size ((w44.drew).drew) x) ?_ Tf.mixed (by kernel_rfl) (fun _ _ _ h => h)
        have hs64 := hs57.drew
        have hS65 := Below.refl ((w44.drew).drew).heap.size ((w44.drew).drew)
        refine Drw.l 0 rfl (by kernel_rfl) hS65 (Yv.loadn (cs := [.int .i64 W, .int .i64 H, .slice Ad12 ((W * H).toNat) c13]) A28 S28 rfl (fun _ hq_ => ((hs64.grow hq_).cells 2 rfl 0 3))) ?_
        refine Drw.l 1 rfl (by kernel_rfl) hS65 (Yv.loadn (cs := [.int .i64 W, .int .i64 H, .slice Ad12 ((W * H).toNat) c13]) A28 S28 rfl (fun _ hq_ => ((hs64.grow hq_).cells 2 rfl 0 3))) ?_
        refine Drw.a 2 rfl (by kernel_rfl) (Yv.move rfl) ?_
        refine Drw.a 4 rfl (by kernel_rfl) (Yv.fld F25_1 rfl) ?_
        refine Drw.l 5 rfl (by kernel_rfl) hS65 (Yv.load A4 rfl (fun _ hq_ => ((hs64.grow hq_).cell 4 rfl 1 rfl))) ?_
        refine Drw.a 6 rfl (by kernel_rfl) (Yv.move rfl) ?_
        refine Drw.a 7 rfl (by kernel_rfl) (Yv.move rfl) ?_
        refine Drw.all [3, 12] ?_ (by kernel_rfl) rfl
        intro i hi
        simp only [List.mem_cons, List.not_mem_nil, or_false] at hi
        rcases hi with rfl | rfl
        · -- operation 3 first
          refine ⟨_, _, _, _, _, _, rfl, ?_⟩
          refine Step.call rfl rfl (cells22_fun (by omega) (by omega) (by omega)) (?_) True.intro (by rfl)
          rintro _ w75 ⟨Ad66, c69, Ad67, c70, Ad68, c71, rfl, hs75⟩
          have hS76 := HS.keepS hS65 (Nat.le_refl _) hs75
          refine ⟨fun _ _ => hS76, ?_⟩
          replace hs75 := hs64.call hs75
          refine Drw.all [8, 12] ?_ (by kernel_rfl) rfl
          intro i hi
          simp only [List.mem_cons, List.not_mem_nil, or_false] at hi
          rcases hi with rfl | rfl
          · -- operation 8 first
            refine ⟨_, _, _, _, _, _, rfl, ?_⟩
            refine Step.call rfl rfl (pass_good (hs75.rdRow 6 rfl) (fitTo_bytes hx _) (hs75.rdRow 0 rfl) (Bytes.rep (by omega)) (hs75.rdRow 1 rfl) (hs75.rdRow 2 rfl) (good_cells (by omega) (by omega) (by omega) (by omega) (by omega))) (?_) True.intro (by rfl)
            rintro _ w80 ⟨Ad77, c78, rfl, hs80⟩
            have hS81 := HS.keepS hS76 (Nat.le_refl _) hs80
            refine ⟨fun _ _ => hS81, ?_⟩
            replace hs80 := hs75.call hs80
            refine Drw.a 9 rfl (by kernel_rfl) (Yv.move rfl) ?_
            refine Drw.a 10 rfl (by kernel_rfl) (Yv.extract rfl rfl) ?_
            refine Drw.a 11 rfl (by kernel_rfl) (Yv.extract rfl rfl) ?_
            refine Drw.one 12 rfl (by kernel_rfl) (Step.alloc (cs := [.int .i64 0, .int .i64 0, .slice none 0 0]) hs80 Z28 rfl (fun b82 w83 hs83 hb83 => ?_) True.intro (by rfl))
            have hS85 := hS81.trans (hb83.mono (Nat.le_trans (Nat.le_refl _) hS81.size))
            refine ⟨fun _ _ => hS85, ?_⟩
            refine Drw.one 13 rfl (by kernel_rfl) (Step.store (vs := [.int .i64 W, .int .i64 H, .slice Ad77 ((W * H).toNat) c78]) 0 hs83 rfl rfl rfl rfl S28 (Nat.le_of_ble_eq_true rfl) rfl (fun w86 hs86 => ?_) True.intro)
            refine ⟨fun h => absurd h (by decide), ?_⟩
            replace hs86 : HS _ [.blk _ [_, _, _] _, .row _ _ _ _ _ _, .row _ _ _ _ _ _, .row _ _ _ _ _ _, .row _ _ _ _ _ _, .blk _ [_, _, _] _, .row _ _ _ _ _ _, .blk _ [_, _, _] _, .row _ _ _ _ _ _, .blk _ [_, _, _, _] _, .blk _ [_, _] _] _ := hs86
            refine Drw.a 14 rfl (by kernel_rfl) (Yv.assign rfl) ?_
            refine Drw.done ?_ (by kernel_rfl)
            refine ⟨b82, Ad77, c78, Ad66, c69, Ad67, c70, Ad68, c71, hs86.pick [0, 1, 2, 3, 4, 5, 6, 7, 8, 9, 10] [.blk b82 [.int .i64 W, .int .i64 H, .slice Ad77 ((W * H).toNat) c78] 28, .row Ad77 ((W * H).toNat) c78 (u8s (passF true co W H (W / 4) (List.replicate ((H / 4).toNat * (W / 4).toNat) sz) (idsTo (W / 4).toNat (sz / 4) ((H / 4).toNat * (W / 4).toNat)) (List.replicate ((H / 4).toNat * (W / 4).toNat) false) lv sh (fitTo xs (W * H).toNat))) 5 1, .row Ad66 ((H / 4).toNat * (W / 4).toNat) c69 (u8s (List.replicate ((H / 4).toNat * (W / 4).toNat) sz)) 5 1, .row Ad67 ((H / 4).toNat * (W / 4).toNat) c70 (i64s (idsTo (W / 4).toNat (sz / 4) ((H / 4).toNat * (W / 4).toNat))) 3 1, .row Ad68 ((H / 4).toNat * (W / 4).toNat) c71 (bools (List.replicate ((H / 4).toNat * (W / 4).toNat) false)) 4 1, .blk b27 [.int .i64 H, .int .i64 W, .slice (some ⟨b24, 0, none⟩) ((W * H).toNat) ((W * H).toNat)] 28, .row (some ⟨b24, 0, none⟩) ((W * H).toNat) ((W * H).toNat) (u8s (turnTo W H (fitTo xs (W * H).toNat) (W * H).toNat k)) 5 1, .blk b16 [.int .i64 W, .int .i64 H, .slice Ad12 ((W * H).toNat) c13] 28, .row Ad12 ((W * H).toNat) c13 (u8s (fitTo xs (W * H).toNat)) 5 1, .blk b5 [.bool up, .bool co, .int .i64 lv0, .int .i64 sh0] 25, .blk b2 [.int .i64 a, .int .i64 b] 22] (by decide) rfl, Sub.le ⟨rfl, rfl, rfl, rfl, rfl, rfl, rfl, rfl, rfl, rfl, rfl, rfl, rfl, rfl, rfl, rfl, trivial⟩⟩
          · -- operation 12 first
            refine ⟨_, _, _, _, _, _, rfl, ?_⟩
            refine Step.alloc (cs := [.int .i64 0, .int .i64 0, .slice none 0 0]) hs75 Z28 rfl (fun b87 w88 hs88 hb88 => ?_) True.intro (by rfl)
            have hS90 := hS76.trans (hb88.mono (Nat.le_trans (Nat.le_refl _) hS76.size))
            refine ⟨fun _ _ => hS90, ?_⟩
            refine Drw.one 8 rfl (by kernel_rfl) (Step.call rfl rfl (pass_good (hs88.rdRow 7 rfl) (fitTo_bytes hx _) (hs88.rdRow 1 rfl) (Bytes.rep (by omega)) (hs88.rdRow 2 rfl) (hs88.rdRow 3 rfl) (good_cells (by omega) (by omega) (by omega) (by omega) (by omega))) (?_) True.intro (by rfl))
            rintro _ w94 ⟨Ad91, c92, rfl, hs94⟩
            have hS95 := HS.keepS hS90 (Nat.le_refl _) hs94
            refine ⟨fun _ _ => hS95, ?_⟩
            replace hs94 := hs88.call hs94
            refine Drw.a 9 rfl (by kernel_rfl) (Yv.move rfl) ?_
            refine Drw.a 10 rfl (by kernel_rfl) (Yv.extract rfl rfl) ?_
            refine Drw.a 11 rfl (by kernel_rfl) (Yv.extract rfl rfl) ?_
            refine Drw.one 13 rfl (by kernel_rfl) (Step.store (vs := [.int .i64 W, .int .i64 H, .slice Ad91 ((W * H).toNat) c92]) 1 hs94 rfl rfl rfl rfl S28 (Nat.le_of_ble_eq_true rfl) rfl (fun w96 hs96 => ?_) True.intro)
            refine ⟨fun h => absurd h (by decide), ?_⟩
            replace hs96 : HS _ [.row _ _ _ _ _ _, .blk _ [_, _, _] _, .row _ _ _ _ _ _, .row _ _ _ _ _ _, .row _ _ _ _ _ _, .blk _ [_, _, _] _, .row _ _ _ _ _ _, .blk _ [_, _, _] _, .row _ _ _ _ _ _, .blk _ [_, _, _, _] _, .blk _ [_, _] _] _ := hs96
            refine Drw.a 14 rfl (by kernel_rfl) (Yv.assign rfl) ?_
            refine Drw.done ?_ (by kernel_rfl)
            refine ⟨b87, Ad91, c92, Ad66, c69, Ad67, c70, Ad68, c71, hs96.pick [1, 0, 2, 3, 4, 5, 6, 7, 8, 9, 10] [.blk b87 [.int .i64 W, .int .i64 H, .slice Ad91 ((W * H).toNat) c92] 28, .row Ad91 ((W * H).toNat) c92 (u8s (passF true co W H (W / 4) (List.replicate ((H / 4).toNat * (W / 4).toNat) sz) (idsTo (W / 4).toNat (sz / 4) ((H / 4).toNat * (W / 4).toNat)) (List.replicate ((H / 4).toNat * (W / 4).toNat) false) lv sh (fitTo xs (W * H).toNat))) 5 1, .row Ad66 ((H / 4).toNat * (W / 4).toNat) c69 (u8s (List.replicate ((H / 4).toNat * (W / 4).toNat) sz)) 5 1, .row Ad67 ((H / 4).toNat * (W / 4).toNat) c70 (i64s (idsTo (W / 4).toNat (sz / 4) ((H / 4).toNat * (W / 4).toNat))) 3 1, .row Ad68 ((H / 4).toNat * (W / 4).toNat) c71 (bools (List.replicate ((H / 4).toNat * (W / 4).toNat) false)) 4 1, .blk b27 [.int .i64 H, .int .i64 W, .slice (some ⟨b24, 0, none⟩) ((W * H).toNat) ((W * H).toNat)] 28, .row (some ⟨b24, 0, none⟩) ((W * H).toNat) ((W * H).toNat) (u8s (turnTo W H (fitTo xs (W * H).toNat) (W * H).toNat k)) 5 1, .blk b16 [.int .i64 W, .int .i64 H, .slice Ad12 ((W * H).toNat) c13] 28, .row Ad12 ((W * H).toNat) c13 (u8s (fitTo xs (W * H).toNat)) 5 1, .blk b5 [.bool up, .bool co, .int .i64 lv0, .int .i64 sh0] 25, .blk b2 [.int .i64 a, .int .i64 b] 22] (by decide) rfl, Sub.le ⟨rfl, rfl, rfl, rfl, rfl, rfl, rfl, rfl, rfl, rfl, rfl, rfl, rfl, rfl, rfl, rfl, trivial⟩⟩
        · -- operation 12 first
          refine ⟨_, _, _, _, _, _, rfl, ?_⟩
          refine Step.alloc (cs := [.int .i64 0, .int .i64 0, .slice none 0 0]) hs64 Z28 rfl (fun b97 w98 hs98 hb98 => ?_) True.intro (by rfl)
          have hS100 := hS65.trans (hb98.mono (Nat.le_trans (Nat.le_refl _) hS65.size))
          refine ⟨fun _ _ => hS100, ?_⟩
          refine Drw.one 3 rfl (by kernel_rfl) (Step.call rfl rfl (cells22_fun (by omega) (by omega) (by omega)) (?_) True.intro (by rfl))
          rintro _ w110 ⟨Ad101, c104, Ad102, c105, Ad103, c106, rfl, hs110⟩
          have hS111 := HS.keepS hS100 (Nat.le_refl _) hs110
          refine ⟨fun _ _ => hS111, ?_⟩
          replace hs110 := hs98.call hs110
          refine Drw.one 8 rfl (by kernel_rfl) (Step.call rfl rfl (pass_good (hs110.rdRow 7 rfl) (fitTo_bytes hx _) (hs110.rdRow 0 rfl) (Bytes.rep (by omega)) (hs110.rdRow 1 rfl) (hs110.rdRow 2 rfl) (good_cells (by omega) (by omega) (by omega) (by omega) (by omega))) (?_) True.intro (by rfl))
          rintro _ w115 ⟨Ad112, c113, rfl, hs115⟩
          have hS116 := HS.keepS hS111 (Nat.le_refl _) hs115
          refine ⟨fun _ _ => hS116, ?_⟩
          replace hs115 := hs110.call hs115
          refine Drw.a 9 rfl (by kernel_rfl) (Yv.move rfl) ?_
          refine Drw.a 10 rfl (by kernel_rfl) (Yv.extract rfl rfl) ?_
          refine Drw.a 11 rfl (by kernel_rfl) (Yv.extract rfl rfl) ?_
          refine Drw.one 13 rfl (by kernel_rfl) (Step.store (vs := [.int .i64 W, .int .i64 H, .slice Ad112 ((W * H).toNat) c113]) 4 hs115 rfl rfl rfl rfl S28 (Nat.le_of_ble_eq_true rfl) rfl (fun w117 hs117 => ?_) True.intro)
          refine ⟨fun h => absurd h (by decide), ?_⟩
          replace hs117 : HS _ [.row _ _ _ _ _ _, .row _ _ _ _ _ _, .row _ _ _ _ _ _, .row _ _ _ _ _ _, .blk _ [_, _, _] _, .blk _ [_, _, _] _, .row _ _ _ _ _ _, .blk _ [_, _, _] _, .row _ _ _ _ _ _, .blk _ [_, _, _, _] _, .blk _ [_, _] _] _ := hs117
          refine Drw.a 14 rfl (by kernel_rfl) (Yv.assign rfl) ?_
          refine Drw.done ?_ (by kernel_rfl)
          refine ⟨b97, Ad112, c113, Ad101, c104, Ad102, c105, Ad103, c106, hs117.pick [4, 0, 1, 2, 3, 5, 6, 7, 8, 9, 10] [.blk b97 [.int .i64 W, .int .i64 H, .slice Ad112 ((W * H).toNat) c113] 28, .row Ad112 ((W * H).toNat) c113 (u8s (passF true co W H (W / 4) (List.replicate ((H / 4).toNat * (W / 4).toNat) sz) (idsTo (W / 4).toNat (sz / 4) ((H / 4).toNat * (W / 4).toNat)) (List.replicate ((H / 4).toNat * (W / 4).toNat) false) lv sh (fitTo xs (W * H).toNat))) 5 1, .row Ad101 ((H / 4).toNat * (W / 4).toNat) c104 (u8s (List.replicate ((H / 4).toNat * (W / 4).toNat) sz)) 5 1, .row Ad102 ((H / 4).toNat * (W / 4).toNat) c105 (i64s (idsTo (W / 4).toNat (sz / 4) ((H / 4).toNat * (W / 4).toNat))) 3 1, .row Ad103 ((H / 4).toNat * (W / 4).toNat) c106 (bools (List.replicate ((H / 4).toNat * (W / 4).toNat) false)) 4 1, .blk b27 [.int .i64 H, .int .i64 W, .slice (some ⟨b24, 0, none⟩) ((W * H).toNat) ((W * H).toNat)] 28, .row (some ⟨b24, 0, none⟩) ((W * H).toNat) ((W * H).toNat) (u8s (turnTo W H (fitTo xs (W * H).toNat) (W * H).toNat k)) 5 1, .blk b16 [.int .i64 W, .int .i64 H, .slice Ad12 ((W * H).toNat) c13] 28, .row Ad12 ((W * H).toNat) c13 (u8s (fitTo xs (W * H).toNat)) 5 1, .blk b5 [.bool up, .bool co, .int .i64 lv0, .int .i64 sh0] 25, .blk b2 [.int .i64 a, .int .i64 b] 22] (by decide) rfl, Sub.le ⟨rfl, rfl, rfl, rfl, rfl, rfl, rfl, rfl, rfl, rfl, rfl, rfl, rfl, rfl, rfl, rfl, trivial⟩⟩
      rintro e118 w118 ⟨b82, Ad77, c78, Ad66, c69, Ad67, c70, Ad68, c71, hs118, he118⟩
      refine k63 _ _ ?_
      refine Run.le he118 ?_
      refine run_seq fun K119 k119 => ?_
      refine Run.cut (fun e_ w_ => ∃ b138 Ad133 c134 Ad122 c125 Ad123 c126 Ad124 c127, HS w [.blk b138 [.int .i64 H, .int .i64 W, .slice Ad133 ((W * H).toNat) c134] 28, .row Ad133 ((W * H).toNat) c134 (u8s (passF false co H W (H / 4) (List.replicate ((W / 4).toNat * (H / 4).toNat) sz) (idsTo (H / 4).toNat (sz / 4) ((W / 4).toNat * (H / 4).toNat)) (List.replicate ((W / 4).toNat * (H / 4).toNat) false) lv sh (turnTo W H (fitTo xs (W * H).toNat) (W * H).toNat k))) 5 1, .row Ad122 ((W / 4).toNat * (H / 4).toNat) c125 (u8s (List.replicate ((W / 4).toNat * (H / 4).toNat) sz)) 5 1, .row Ad123 ((W / 4).toNat * (H / 4).toNat) c126 (i64s (idsTo (H / 4).toNat (sz / 4) ((W / 4).toNat * (H / 4).toNat))) 3 1, .row Ad124 ((W / 4).toNat * (H / 4).toNat) c127 (bools (List.replicate ((W / 4).toNat * (H / 4).toNat) false)) 4 1, .blk b82 [.int .i64 W, .int .i64 H, .slice Ad77 ((W * H).toNat) c78] 28, .row Ad77 ((W * H).toNat) c78 (u8s (passF true co W H (W / 4) (List.replicate ((H / 4).toNat * (W / 4).toNat) sz) (idsTo (W / 4).toNat (sz / 4) ((H / 4).toNat * (W / 4).toNat)) (List.replicate ((H / 4).toNat * (W / 4).toNat) false) lv sh (fitTo xs (W * H).toNat))) 5 1, .row Ad66 ((H / 4).toNat * (W / 4).toNat) c69 (u8s (List.replicate ((H / 4).toNat * (W / 4).toNat) sz)) 5 1, .row Ad67 ((H / 4).toNat * (W / 4).toNat) c70 (i64s (idsTo (W / 4).toNat (sz / 4) ((H / 4).toNat * (W / 4).toNat))) 3 1, .row Ad68 ((H / 4).toNat * (W / 4).toNat) c71 (bools (List.replicate ((H / 4).toNat * (W / 4).toNat) false)) 4 1, .blk b27 [.int .i64 H, .int .i64 W, .slice (some ⟨b24, 0, none⟩) ((W * H).toNat) ((W * H).toNat)] 28, .row (some ⟨b24, 0, none⟩) ((W * H).toNat) ((W * H).toNat) (u8s (turnTo W H (fitTo xs (W * H).toNat) (W * H).toNat k)) 5 1, .blk b16 [.int .i64 W, .int .i64 H, .slice Ad12 ((W * H).toNat) c13] 28, .row Ad12 ((W * H).toNat) c13 (u8s (fitTo xs (W * H).toNat)) 5 1, .blk b5 [.bool up, .bool co, .int .i64 lv0, .int .i64 sh0] 25, .blk b2 [.int .i64 a, .int .i64 b] 22] w_ ∧ Le [(0, .agg #[.int .i64 a, .int .i64 b]), (1, .slice A m c), (2, .agg #[.bool up, .bool co, .int .i64 lv0, .int .i64 sh0]), (3, .pointer (some ⟨b2, 0, none⟩)), (5, .pointer (some ⟨b5, 0, none⟩)), (6, .bool false), (7, .pointer (some ⟨b16, 0, none⟩)), (8, .pointer (some ⟨b27, 0, none⟩)), (9, .int .i64 (k : Int)), (10, .int .u8 sz), (11, .int .i64 lv), (12, .int .i64 sh), (13, .pointer (some ⟨b82, 0, none⟩)), (14, .int .i64 0), (15, .pointer (some ⟨b138, 0, none⟩)), (16, .int .i64 0), (19, .bool false), (39, .bool (decide ((k : Int) < ((W * H).toNat : Int))))] e_) ?_ ?_
      · -- region 12: its ways meet again
        refine run_drawn [13] (fun x => Below (w118.drew).heap.size (w118.drew) x) ?_ Tf.mixed (by kernel_rfl) (fun _ _ _ h => h)
        have hs120 := hs118.drew
        have hS121 := Below.refl (w118.drew).heap.size (w118.drew)
        refine Drw.l 0 rfl (by kernel_rfl) hS121 (Yv.loadn (cs := [.int .i64 H, .int .i64 W, .slice (some ⟨b24, 0, none⟩) ((W * H).toNat) ((W * H).toNat)]) A28 S28 rfl (fun _ hq_ => ((hs120.grow hq_).cells 5 rfl 0 3))) ?_
        refine Drw.l 1 rfl (by kernel_rfl) hS121 (Yv.loadn (cs := [.int .i64 H, .int .i64 W, .slice (some ⟨b24, 0, none⟩) ((W * H).toNat) ((W * H).toNat)]) A28 S28 rfl (fun _ hq_ => ((hs120.grow hq_).cells 5 rfl 0 3))) ?_
        refine Drw.a 2 rfl (by kernel_rfl) (Yv.move rfl) ?_
        refine Drw.a 4 rfl (by kernel_rfl) (Yv.fld F25_1 rfl) ?_
        refine Drw.l 5 rfl (by kernel_rfl) hS121 (Yv.load A4 rfl (fun _ hq_ => ((hs120.grow hq_).cell 9 rfl 1 rfl))) ?_
        refine Drw.a 6 rfl (by kernel_rfl) (Yv.move rfl) ?_
        refine Drw.a 7 rfl (by kernel_rfl) (Yv.move rfl) ?_
        refine Drw.all [3, 12] ?_ (by kernel_rfl) rfl
        intro i hi
        simp only [List.mem_cons, List.not_mem_nil, or_false] at hi
        rcases hi with rfl | rfl
        · -- operation 3 first
          refine ⟨_, _, _, _, _, _, rfl, ?_⟩
          refine Step.call rfl rfl (cells22_fun (by omega) (by omega) (by omega)) (?_) True.intro (by rfl)
          rintro _ w131 ⟨Ad122, c125, Ad123, c126, Ad124, c127, rfl, hs131⟩
          have hS132 := HS.keepS hS121 (Nat.le_refl _) hs131
          refine ⟨fun _ _ => hS132, ?_⟩
          replace hs131 := hs120.call hs131
          refine Drw.all [8, 12] ?_ (by kernel_rfl) rfl
          intro i hi
          simp only [List.mem_cons, List.not_mem_nil, or_false] at hi
          rcases hi with rfl | rfl
          · -- operation 8 first
            refine ⟨_, _, _, _, _, _, rfl, ?_⟩
            refine Step.call rfl rfl (pass_good (hs131.rdRow 9 rfl) (turnTo_bytes (fitTo_bytes hx _) _ _ _ k) (hs131.rdRow 0 rfl) (Bytes.rep (by omega)) (hs131.rdRow 1 rfl) (hs131.rdRow 2 rfl) (good_turn (by omega) (by omega) (by omega) (by omega) (by omega))) (?_) True.intro (by rfl)
            rintro _ w136 ⟨Ad133, c134, rfl, hs136⟩
            have hS137 := HS.keepS hS132 (Nat.le_refl _) hs136
            refine ⟨fun _ _ => hS137, ?_⟩
            replace hs136 := hs131.call hs136
            refine Drw.a 9 rfl (by kernel_rfl) (Yv.move rfl) ?_
            refine Drw.a 10 rfl (by kernel_rfl) (Yv.extract rfl rfl) ?_
            refine Drw.a 11 rfl (by kernel_rfl) (Yv.extract rfl rfl) ?_
            refine Drw.one 12 rfl (by kernel_rfl) (Step.alloc (cs := [.int .i64 0, .int .i64 0, .slice none 0 0]) hs136 Z28 rfl (fun b138 w139 hs139 hb139 => ?_) True.intro (by rfl))
            have hS141 := hS137.trans (hb139.mono (Nat.le_trans (Nat.le_refl _) hS137.size))
            refine ⟨fun _ _ => hS141, ?_⟩
            refine Drw.one 13 rfl (by kernel_rfl) (Step.store (vs := [.int .i64 H, .int .i64 W, .slice Ad133 ((W * H).toNat) c134]) 0 hs139 rfl rfl rfl rfl S28 (Nat.le_of_ble_eq_true rfl) rfl (fun w142 hs142 => ?_) True.intro)
            refine ⟨fun h => absurd h (by decide), ?_⟩
            replace hs142 : HS _ [.blk _ [_, _, _] _, .row _ _ _ _ _ _, .row _ _ _ _ _ _, .row _ _ _ _ _ _, .row _ _ _ _ _ _, .blk _ [_, _, _] _, .row _ _ _ _ _ _, .row _ _ _ _ _ _, .row _ _ _ _ _ _, .row _ _ _ _ _ _, .blk _ [_, _, _] _, .row _ _ _ _ _ _, .blk _ [_, _, _] _, .row _ _ _ _ _ _, .blk _ [_, _, _, _] _, .blk _ [_, _] _] _ := hs142
            refine Drw.a 14 rfl (by kernel_rfl) (Yv.assign rfl) ?_
            refine Drw.done ?_ (by kernel_rfl)
            refine ⟨b138, Ad133, c134, Ad122, c125, Ad123, c126, Ad124, c127, hs142.pick [0, 1, 2, 3, 4, 5, 6, 7, 8, 9, 10, 11, 12, 13, 14, 15] [.blk b138 [.int .i64 H, .int .i64 W, .slice Ad133 ((W * H).toNat) c134] 28, .row Ad133 ((W * H).toNat) c134 (u8s (passF false co H W (H / 4) (List.replicate ((W / 4).toNat * (H / 4).toNat) sz) (idsTo (H / 4).toNat (sz / 4) ((W / 4).toNat * (H / 4).toNat)) (List.replicate ((W / 4).toNat * (H / 4).toNat) false) lv sh (turnTo W H (fitTo xs (W * H).toNat) (W * H).toNat k))) 5 1, .row Ad122 ((W / 4).toNat * (H / 4).toNat) c125 (u8s (List.replicate ((W / 4).toNat * (H / 4).toNat) sz)) 5 1, .row Ad123 ((W / 4).toNat * (H / 4).toNat) c126 (i64s (idsTo (H / 4).toNat (sz / 4) ((W / 4).toNat * (H / 4).toNat))) 3 1, .row Ad124 ((W / 4).toNat * (H / 4).toNat) c127 (bools (List.replicate ((W / 4).toNat * (H / 4).toNat) false)) 4 1, .blk b82 [.int .i64 W, .int .i64 H, .slice Ad77 ((W * H).toNat) c78] 28, .row Ad77 ((W * H).toNat) c78 (u8s (passF true co W H (W / 4) (List.replicate ((H / 4).toNat * (W / 4).toNat) sz) (idsTo (W / 4).toNat (sz / 4) ((H / 4).toNat * (W / 4).toNat)) (List.replicate ((H / 4).toNat * (W / 4).toNat) false) lv sh (fitTo xs (W * H).toNat))) 5 1, .row Ad66 ((H / 4).toNat * (W / 4).toNat) c69 (u8s (List.replicate ((H / 4).toNat * (W / 4).toNat) sz)) 5 1, .row Ad67 ((H / 4).toNat * (W / 4).toNat) c70 (i64s (idsTo (W / 4).toNat (sz / 4) ((H / 4).toNat * (W / 4).toNat))) 3 1, .row Ad68 ((H / 4).toNat * (W / 4).toNat) c71 (bools (List.replicate ((H / 4).toNat * (W / 4).toNat) false)) 4 1, .blk b27 [.int .i64 H, .int .i64 W, .slice (some ⟨b24, 0, none⟩) ((W * H).toNat) ((W * H).toNat)] 28, .row (some ⟨b24, 0, none⟩) ((W * H).toNat) ((W * H).toNat) (u8s (turnTo W H (fitTo xs (W * H).toNat) (W * H).toNat k)) 5 1, .blk b16 [.int .i64 W, .int .i64 H, .slice Ad12 ((W * H).toNat) c13] 28, .row Ad12 ((W * H).toNat) c13 (u8s (fitTo xs (W * H).toNat)) 5 1, .blk b5 [.bool up, .bool co, .int .i64 lv0, .int .i64 sh0] 25, .blk b2 [.int .i64 a, .int .i64 b] 22] (by decide) rfl, Sub.le ⟨rfl, rfl, rfl, rfl, rfl, rfl, rfl, rfl, rfl, rfl, rfl, rfl, rfl, rfl, rfl, rfl, rfl, rfl, trivial⟩⟩
          · -- operation 12 first
            refine ⟨_, _, _, _, _, _, rfl, ?_⟩
            refine Step.alloc (cs := [.int .i64 0, .int .i64 0, .slice none 0 0]) hs131 Z28 rfl (fun b143 w144 hs144 hb144 => ?_) True.intro (by rfl)
            have hS146 := hS132.trans (hb144.mono (Nat.le_trans (Nat.le_refl _) hS132.size))
            refine ⟨fun _ _ => hS146, ?_⟩
            refine Drw.one 8 rfl (by kernel_rfl) (Step.call rfl rfl (pass_good (hs144.rdRow 10 rfl) (turnTo_bytes (fitTo_bytes hx _) _ _ _ k) (hs144.rdRow 1 rfl) (Bytes.rep (by omega)) (hs144.rdRow 2 rfl) (hs144.rdRow 3 rfl) (good_turn (by omega) (by omega) (by omega) (by omega) (by omega))) (?_) True.intro (by rfl))
            rintro _ w150 ⟨Ad147, c148, rfl, hs150⟩
            have hS151 := HS.keepS hS146 (Nat.le_refl _) hs150
            refine ⟨fun _ _ => hS151, ?_⟩
            replace hs150 := hs144.call hs150
            refine Drw.a 9 rfl (by kernel_rfl) (Yv.move rfl) ?_
            refine Drw.a 10 rfl (by kernel_rfl) (Yv.extract rfl rfl) ?_
            refine Drw.a 11 rfl (by kernel_rfl) (Yv.extract rfl rfl) ?_
            refine Drw.one 13 rfl (by kernel_rfl) (Step.store (vs := [.int .i64 H, .int .i64 W, .slice Ad147 ((W * H).toNat) c148]) 1 hs150 rfl rfl rfl rfl S28 (Nat.le_of_ble_eq_true rfl) rfl (fun w152 hs152 => ?_) True.intro)
            refine ⟨fun h => absurd h (by decide), ?_⟩
            replace hs152 : HS _ [.row _ _ _ _ _ _, .blk _ [_, _, _] _, .row _ _ _ _ _ _, .row _ _ _ _ _ _, .row _ _ _ _ _ _, .blk _ [_, _, _] _, .row _ _ _ _ _ _, .row _ _ _ _ _ _, .row _ _ _ _ _ _, .row _ _ _ _ _ _, .blk _ [_, _, _] _, .row _ _ _ _ _ _, .blk _ [_, _, _] _, .row _ _ _ _ _ _, .blk _ [_, _, _, _] _, .blk _ [_, _] _] _ := hs152
            refine Drw.a 14 rfl (by kernel_rfl) (Yv.assign rfl) ?_
            refine Drw.done ?_ (by kernel_rfl)
            refine ⟨b143, Ad147, c148, Ad122, c125, Ad123, c126, Ad124, c127, hs152.pick [1, 0, 2, 3, 4, 5, 6, 7, 8, 9, 10, 11, 12, 13, 14, 15] [.blk b143 [.int .i64 H, .int .i64 W, .slice Ad147 ((W * H).toNat) c148] 28, .row Ad147 ((W * H).toNat) c148 (u8s (passF false co H W (H / 4) (List.replicate ((W / 4).toNat * (H / 4).toNat) sz) (idsTo (H / 4).toNat (sz / 4) ((W / 4).toNat * (H / 4).toNat)) (List.replicate ((W / 4).toNat * (H / 4).toNat) false) lv sh (turnTo W H (fitTo xs (W * H).toNat) (W * H).toNat k))) 5 1, .row Ad122 ((W / 4).toNat * (H / 4).toNat) c125 (u8s (List.replicate ((W / 4).toNat * (H / 4).toNat) sz)) 5 1, .row Ad123 ((W / 4).toNat * (H / 4).toNat) c126 (i64s (idsTo (H / 4).toNat (sz / 4) ((W / 4).toNat * (H / 4).toNat))) 3 1, .row Ad124 ((W / 4).toNat * (H / 4).toNat) c127 (bools (List.replicate ((W / 4).toNat * (H / 4).toNat) false)) 4 1, .blk b82 [.int .i64 W, .int .i64 H, .slice Ad77 ((W * H).toNat) c78] 28, .row Ad77 ((W * H).toNat) c78 (u8s (passF true co W H (W / 4) (List.replicate ((H / 4).toNat * (W / 4).toNat) sz) (idsTo (W / 4).toNat (sz / 4) ((H / 4).toNat * (W / 4).toNat)) (List.replicate ((H / 4).toNat * (W / 4).toNat) false) lv sh (fitTo xs (W * H).toNat))) 5 1, .row Ad66 ((H / 4).toNat * (W / 4).toNat) c69 (u8s (List.replicate ((H / 4).toNat * (W / 4).toNat) sz)) 5 1, .row Ad67 ((H / 4).toNat * (W / 4).toNat) c70 (i64s (idsTo (W / 4).toNat (sz / 4) ((H / 4).toNat * (W / 4).toNat))) 3 1, .row Ad68 ((H / 4).toNat * (W / 4).toNat) c71 (bools (List.replicate ((H / 4).toNat * (W / 4).toNat) false)) 4 1, .blk b27 [.int .i64 H, .int .i64 W, .slice (some ⟨b24, 0, none⟩) ((W * H).toNat) ((W * H).toNat)] 28, .row (some ⟨b24, 0, none⟩) ((W * H).toNat) ((W * H).toNat) (u8s (turnTo W H (fitTo xs (W * H).toNat) (W * H).toNat k)) 5 1, .blk b16 [.int .i64 W, .int .i64 H, .slice Ad12 ((W * H).toNat) c13] 28, .row Ad12 ((W * H).toNat) c13 (u8s (fitTo xs (W * H).toNat)) 5 1, .blk b5 [.bool up, .bool co, .int .i64 lv0, .int .i64 sh0] 25, .blk b2 [.int .i64 a, .int .i64 b] 22] (by decide) rfl, Sub.le ⟨rfl, rfl, rfl, rfl, rfl, rfl, rfl, rfl, rfl, rfl, rfl, rfl, rfl, rfl, rfl, rfl, rfl, rfl, trivial⟩⟩
        · -- operation 12 first
          refine ⟨_, _, _, _, _, _, rfl, ?_⟩
          refine Step.alloc (cs := [.int .i64 0, .int .i64 0, .slice none 0 0]) hs120 Z28 rfl (fun b153 w154 hs154 hb154 => ?_) True.intro (by rfl)
          have hS156 := hS121.trans (hb154.mono (Nat.le_trans (Nat.le_refl _) hS121.size))
          refine ⟨fun _ _ => hS156, ?_⟩
          refine Drw.one 3 rfl (by kernel_rfl) (Step.call rfl rfl (cells22_fun (by omega) (by omega) (by omega)) (?_) True.intro (by rfl))
          rintro _ w166 ⟨Ad157, c160, Ad158, c161, Ad159, c162, rfl, hs166⟩
          have hS167 := HS.keepS hS156 (Nat.le_refl _) hs166
          refine ⟨fun _ _ => hS167, ?_⟩
          replace hs166 := hs154.call hs166
          refine Drw.one 8 rfl (by kernel_rfl) (Step.call rfl rfl (pass_good (hs166.rdRow 10 rfl) (turnTo_bytes (fitTo_bytes hx _) _ _ _ k) (hs166.rdRow 0 rfl) (Bytes.rep (by omega)) (hs166.rdRow 1 rfl) (hs166.rdRow 2 rfl) (good_turn (by omega) (by omega) (by omega) (by omega) (by omega))) (?_) True.intro (by rfl))
          rintro _ w171 ⟨Ad168, c169, rfl, hs171⟩
          have hS172 := HS.keepS hS167 (Nat.le_refl _) hs171
          refine ⟨fun _ _ => hS172, ?_⟩
          replace hs171 := hs166.call hs171
          refine Drw.a 9 rfl (by kernel_rfl) (Yv.move rfl) ?_
          refine Drw.a 10 rfl (by kernel_rfl) (Yv.extract rfl rfl) ?_
          refine Drw.a 11 rfl (by kernel_rfl) (Yv.extract rfl rfl) ?_
          refine Drw.one 13 rfl (by kernel_rfl) (Step.store (vs := [.int .i64 H, .int .i64 W, .slice Ad168 ((W * H).toNat) c169]) 4 hs171 rfl rfl rfl rfl S28 (Nat.le_of_ble_eq_true rfl) rfl (fun w173 hs173 => ?_) True.intro)
          refine ⟨fun h => absurd h (by decide), ?_⟩
          replace hs173 : HS _ [.row _ _ _ _ _ _, .row _ _ _ _ _ _, .row _ _ _ _ _ _, .row _ _ _ _ _ _, .blk _ [_, _, _] _, .blk _ [_, _, _] _, .row _ _ _ _ _ _, .row _ _ _ _ _ _, .row _ _ _ _ _ _, .row _ _ _ _ _ _, .blk _ [_, _, _] _, .row _ _ _ _ _ _, .blk _ [_, _, _] _, .row _ _ _ _ _ _, .blk _ [_, _, _, _] _, .blk _ [_, _] _] _ := hs173
          refine Drw.a 14 rfl (by kernel_rfl) (Yv.assign rfl) ?_
          refine Drw.done ?_ (by kernel_rfl)
          refine ⟨b153, Ad168, c169, Ad157, c160, Ad158, c161, Ad159, c162, hs173.pick [4, 0, 1, 2, 3, 5, 6, 7, 8, 9, 10, 11, 12, 13, 14, 15] [.blk b153 [.int .i64 H, .int .i64 W, .slice Ad168 ((W * H).toNat) c169] 28, .row Ad168 ((W * H).toNat) c169 (u8s (passF false co H W (H / 4) (List.replicate ((W / 4).toNat * (H / 4).toNat) sz) (idsTo (H / 4).toNat (sz / 4) ((W / 4).toNat * (H / 4).toNat)) (List.replicate ((W / 4).toNat * (H / 4).toNat) false) lv sh (turnTo W H (fitTo xs (W * H).toNat) (W * H).toNat k))) 5 1, .row Ad157 ((W / 4).toNat * (H / 4).toNat) c160 (u8s (List.replicate ((W / 4).toNat * (H / 4).toNat) sz)) 5 1, .row Ad158 ((W / 4).toNat * (H / 4).toNat) c161 (i64s (idsTo (H / 4).toNat (sz / 4) ((W / 4).toNat * (H / 4).toNat))) 3 1, .row Ad159 ((W / 4).toNat * (H / 4).toNat) c162 (bools (List.replicate ((W / 4).toNat * (H / 4).toNat) false)) 4 1, .blk b82 [.int .i64 W, .int .i64 H, .slice Ad77 ((W * H).toNat) c78] 28, .row Ad77 ((W * H).toNat) c78 (u8s (passF true co W H (W / 4) (List.replicate ((H / 4).toNat * (W / 4).toNat) sz) (idsTo (W / 4).toNat (sz / 4) ((H / 4).toNat * (W / 4).toNat)) (List.replicate ((H / 4).toNat * (W / 4).toNat) false) lv sh (fitTo xs (W * H).toNat))) 5 1, .row Ad66 ((H / 4).toNat * (W / 4).toNat) c69 (u8s (List.replicate ((H / 4).toNat * (W / 4).toNat) sz)) 5 1, .row Ad67 ((H / 4).toNat * (W / 4).toNat) c70 (i64s (idsTo (W / 4).toNat (sz / 4) ((H / 4).toNat * (W / 4).toNat))) 3 1, .row Ad68 ((H / 4).toNat * (W / 4).toNat) c71 (bools (List.replicate ((H / 4).toNat * (W / 4).toNat) false)) 4 1, .blk b27 [.int .i64 H, .int .i64 W, .slice (some ⟨b24, 0, none⟩) ((W * H).toNat) ((W * H).toNat)] 28, .row (some ⟨b24, 0, none⟩) ((W * H).toNat) ((W * H).toNat) (u8s (turnTo W H (fitTo xs (W * H).toNat) (W * H).toNat k)) 5 1, .blk b16 [.int .i64 W, .int .i64 H, .slice Ad12 ((W * H).toNat) c13] 28, .row Ad12 ((W * H).toNat) c13 (u8s (fitTo xs (W * H).toNat)) 5 1, .blk b5 [.bool up, .bool co, .int .i64 lv0, .int .i64 sh0] 25, .blk b2 [.int .i64 a, .int .i64 b] 22] (by decide) rfl, Sub.le ⟨rfl, rfl, rfl, rfl, rfl, rfl, rfl, rfl, rfl, rfl, rfl, rfl, rfl, rfl, rfl, rfl, rfl, rfl, trivial⟩⟩
      rintro e174 w174 ⟨b138, Ad133, c134, Ad122, c125, Ad123, c126, Ad124, c127, hs174, he174⟩
      refine k119 _ _ ?_
      refine Run.le he174 ?_
      refine run_seq fun K175 k175 => ?_
      refine run_seq fun K176 k176 => ?_
      refine Run.cut (fun e_ w_ => w174 = w_ ∧ Le [(0, .agg #[.int .i64 a, .int .i64 b]), (1, .slice A m c), (2, .agg #[.bool up, .bool co, .int .i64 lv0, .int .i64 sh0]), (3, .pointer (some ⟨b2, 0, none⟩)), (5, .pointer (some ⟨b5, 0, none⟩)), (6, .bool false), (7, .pointer (some ⟨b16, 0, none⟩)), (8, .pointer (some ⟨b27, 0, none⟩)), (9, .int .i64 (k : Int)), (10, .int .u8 sz), (11, .int .i64 lv), (12, .int .i64 sh), (13, .pointer (some ⟨b82, 0, none⟩)), (14, .int .i64 0), (15, .pointer (some ⟨b138, 0, none⟩)), (16, .int .i64 0), (19, .bool false), (39, .bool (decide ((k : Int) < ((W * H).toNat : Int)))), (119, .bool (decide ((((W * H).toNat) : Int) ≠ ((W * H).toNat : Int))))] e_) ?_ ?_
      · -- region 13: its ways meet again
        refine run_region ?_
        refine Ops.v (Yv.move rfl) ?_
        refine Ops.v (Yv.ne rfl rfl) ?_
        refine Ops.dec0 (fun h_ => h_ rfl) ?_
        refine Ops.v (Yv.move rfl) ?_
        refine Ops.vg ⟨_, rfl, rfl⟩ (Yv.move rfl) ?_
        refine Ops.vg ⟨_, rfl, rfl⟩ (Yv.ne rfl rfl) ?_
        refine Ops.dec0 (fun h_ => h_ rfl) ?_
        refine Ops.v (Yv.pick0 rfl rfl) ?_
        refine Ops.v (Yv.move rfl) ?_
        refine Ops.vg ⟨_, rfl, rfl⟩ (Yv.fld F28_2 rfl) ?_
        refine Ops.vg ⟨_, rfl, rfl⟩ (Yv.load A23 rfl (now (hs174.cell 5 rfl 2 rfl))) ?_
        refine Ops.vg ⟨_, rfl, rfl⟩ (Yv.len (by rw [L23]; rfl) rfl) ?_
        refine Ops.vg ⟨_, rfl, rfl⟩ (Yv.fld F28_2 rfl) ?_
        refine Ops.vg ⟨_, rfl, rfl⟩ (Yv.load A23 rfl (now (hs174.cell 12 rfl 2 rfl))) ?_
        refine Ops.vg ⟨_, rfl, rfl⟩ (Yv.len (by rw [L23]; rfl) rfl) ?_
        refine Ops.vg ⟨_, rfl, rfl⟩ (Yv.ne rfl rfl) ?_
        refine Ops.dec0 (fun h_ => h_ rfl) ?_
        refine Ops.v (Yv.pick0 rfl rfl) ?_
        refine Ops.v (Yv.move rfl) ?_
        refine Ops.vg ⟨_, rfl, rfl⟩ (Yv.fld F28_2 rfl) ?_
        refine Ops.vg ⟨_, rfl, rfl⟩ (Yv.load A23 rfl (now (hs174.cell 0 rfl 2 rfl))) ?_
        refine Ops.vg ⟨_, rfl, rfl⟩ (Yv.len (by rw [L23]; rfl) rfl) ?_
        refine Ops.vg ⟨_, rfl, rfl⟩ (Yv.fld F28_2 rfl) ?_
        refine Ops.vg ⟨_, rfl, rfl⟩ (Yv.load A23 rfl (now (hs174.cell 12 rfl 2 rfl))) ?_
        refine Ops.vg ⟨_, rfl, rfl⟩ (Yv.len (by rw [L23]; rfl) rfl) ?_
        refine Ops.vg ⟨_, rfl, rfl⟩ (Yv.ne rfl rfl) ?_
        refine Ops.v (Yv.pick0 rfl rfl) ?_
        refine Ops.nil ?_
        refine ⟨rfl, Sub.le ⟨rfl, rfl, rfl, rfl, rfl, rfl, rfl, rfl, rfl, rfl, rfl, rfl, rfl, rfl, rfl, rfl, rfl, rfl, rfl, trivial⟩⟩
      rintro e177 _ ⟨rfl, he177⟩
      refine k176 _ _ ?_
      refine Run.le he177 ?_
      refine run_ifp rfl (fun h178 => ?_) (fun h178 => ?_)
      · -- yes (((W * H).toNat) : Int) ≠ ((W * H).toNat : Int)
        refine run_seq fun K179 k179 => ?_
        refine run_region ?_
        refine Ops.v (Yv.assign rfl) ?_
        refine Ops.nil ?_
        refine k179 _ _ ?_
        refine run_ret ?_
        refine ⟨[.bool false], ⟨_, _, rfl, rfl, rfl⟩, ?_⟩
        exact absurd rfl h178
      · -- no
        refine run_skip ?_
        refine k175 _ _ ?_
        refine run_seq fun K180 k180 => ?_
        refine run_seq fun K181 k181 => ?_
        refine run_region ?_
        refine Ops.v (Yv.assign rfl) ?_
        refine Ops.nil ?_
        refine k181 _ _ ?_
        refine run_block ?_
        refine Run.sub [(0, _), (1, _), (2, _), (3, _), (5, _), (7, _), (8, _), (9, _), (10, _), (11, _), (12, _), (13, _), (14, _), (15, _), (16, _), (17, _), (19, _), (39, _), (119, _)] ⟨rfl, rfl, rfl, rfl, rfl, rfl, rfl, rfl, rfl, rfl, rfl, rfl, rfl, rfl, rfl, rfl, rfl, rfl, rfl, trivial⟩ ?_
        refine run_loop (σ := Nat) (fun q e_ w_ => HS w [.blk b138 [.int .i64 H, .int .i64 W, .slice Ad133 ((W * H).toNat) c134] 28, .row Ad133 ((W * H).toNat) c134 (u8s (passF false co H W (H / 4) (List.replicate ((W / 4).toNat * (H / 4).toNat) sz) (idsTo (H / 4).toNat (sz / 4) ((W / 4).toNat * (H / 4).toNat)) (List.replicate ((W / 4).toNat * (H / 4).toNat) false) lv sh (turnTo W H (fitTo xs (W * H).toNat) (W * H).toNat k))) 5 1, .row Ad122 ((W / 4).toNat * (H / 4).toNat) c125 (u8s (List.replicate ((W / 4).toNat * (H / 4).toNat) sz)) 5 1, .row Ad123 ((W / 4).toNat * (H / 4).toNat) c126 (i64s (idsTo (H / 4).toNat (sz / 4) ((W / 4).toNat * (H / 4).toNat))) 3 1, .row Ad124 ((W / 4).toNat * (H / 4).toNat) c127 (bools (List.replicate ((W / 4).toNat * (H / 4).toNat) false)) 4 1, .blk b82 [.int .i64 W, .int .i64 H, .slice Ad77 ((W * H).toNat) c78] 28, .row Ad77 ((W * H).toNat) c78 (u8s (passF true co W H (W / 4) (List.replicate ((H / 4).toNat * (W / 4).toNat) sz) (idsTo (W / 4).toNat (sz / 4) ((H / 4).toNat * (W / 4).toNat)) (List.replicate ((H / 4).toNat * (W / 4).toNat) false) lv sh (fitTo xs (W * H).toNat))) 5 1, .row Ad66 ((H / 4).toNat * (W / 4).toNat) c69 (u8s (List.replicate ((H / 4).toNat * (W / 4).toNat) sz)) 5 1, .row Ad67 ((H / 4).toNat * (W / 4).toNat) c70 (i64s (idsTo (W / 4).toNat (sz / 4) ((H / 4).toNat * (W / 4).toNat))) 3 1, .row Ad68 ((H / 4).toNat * (W / 4).toNat) c71 (bools (List.replicate ((H / 4).toNat * (W / 4).toNat) false)) 4 1, .blk b27 [.int .i64 H, .int .i64 W, .slice (some ⟨b24, 0, none⟩) ((W * H).toNat) ((W * H).toNat)] 28, .row (some ⟨b24, 0, none⟩) ((W * H).toNat) ((W * H).toNat) (u8s (turnTo W H (fitTo xs (W * H).toNat) (W * H).toNat k)) 5 1, .blk b16 [.int .i64 W, .int .i64 H, .slice Ad12 ((W * H).toNat) c13] 28, .row Ad12 ((W * H).toNat) c13 (u8s (fitTo xs (W * H).toNat)) 5 1, .blk b5 [.bool up, .bool co, .int .i64 lv0, .int .i64 sh0] 25, .blk b2 [.int .i64 a, .int .i64 b] 22] w_ ∧ e_ = [(0, .agg #[.int .i64 a, .int .i64 b]), (1, .slice A m c), (2, .agg #[.bool up, .bool co, .int .i64 lv0, .int .i64 sh0]), (3, .pointer (some ⟨b2, 0, none⟩)), (5, .pointer (some ⟨b5, 0, none⟩)), (7, .pointer (some ⟨b16, 0, none⟩)), (8, .pointer (some ⟨b27, 0, none⟩)), (9, .int .i64 (k : Int)), (10, .int .u8 sz), (11, .int .i64 lv), (12, .int .i64 sh), (13, .pointer (some ⟨b82, 0, none⟩)), (14, .int .i64 0), (15, .pointer (some ⟨b138, 0, none⟩)), (16, .int .i64 0), (17, .int .i64 (q : Int)), (19, .bool false), (39, .bool (decide ((k : Int) < ((W * H).toNat : Int)))), (119, .bool (decide ((((W * H).toNat) : Int) ≠ ((W * H).toNat : Int))))] ∧ q ≤ (W * H).toNat)
          (fun q => (W * H).toNat - q) 0 ?_ ?_
        · -- at the start
          refine ⟨hs174, rfl, by omega⟩
        · -- a round
          rintro q _ w182 ⟨hs182, rfl, f2⟩
          refine run_seq fun K183 k183 => ?_
          refine run_seq fun K184 k184 => ?_
          refine run_region ?_
          refine Ops.v (Yv.move rfl) ?_
          refine Ops.v (Yv.fld F28_2 rfl) ?_
          refine Ops.v (Yv.load A23 rfl (now (hs182.cell 12 rfl 2 rfl))) ?_
          refine Ops.v (Yv.len (by rw [L23]; rfl) rfl) ?_
          refine Ops.v (Yv.lt rfl rfl) ?_
          refine Ops.nil ?_
          refine k184 _ _ ?_
          refine run_ifp rfl (fun h185 => ?_) (fun h185 => ?_)
          · -- yes (q : Int) < ((W * H).toNat : Int)
            have hq1 : (q : Int) < W * H := by omega
            have hqm : 0 ≤ (q : Int) % W ∧ (q : Int) % W < W := ⟨Int.emod_nonneg _ (by omega), Int.emod_lt_of_pos _ (by omega)⟩
            have hqd : 0 ≤ (q : Int) / W ∧ (q : Int) / W < H := ⟨Int.ediv_nonneg (by omega) (by omega), Int.ediv_lt_of_lt_mul (by omega) (by rw [Int.mul_comm]; omega)⟩
            have hpq := place_in (W := H) (H := W) (r := (q : Int) % W) (c := (q : Int) / W) (by omega) (by omega) (by omega) (by omega)
            rw [Int.mul_comm H W] at hpq
            refine run_skip ?_
            refine k183 _ _ ?_
            refine run_seq fun K186 k186 => ?_
            refine run_block ?_
            refine run_seq fun K187 k187 => ?_
            refine run_drawn [] (fun x => Below (w182.drew).heap.size (w182.drew) x) ?_ Tf.mixed (by kernel_rfl) (fun _ _ _ h => h)
            have hs188 := hs182.drew
            have hS189 := Below.refl (w182.drew).heap.size (w182.drew)
            refine Drw.a 0 rfl (by kernel_rfl) (Yv.fld F28_2 rfl) ?_
            refine Drw.l 1 rfl (by kernel_rfl) hS189 (Yv.load A23 rfl (fun _ hq_ => ((hs188.grow hq_).cell 0 rfl 2 rfl))) ?_
            refine Drw.a 2 rfl (by kernel_rfl) (Yv.move rfl) ?_
            refine Drw.a 3 rfl (by kernel_rfl) (Yv.fld F28_0 rfl) ?_
            refine Drw.l 4 rfl (by kernel_rfl) hS189 (Yv.load A3 rfl (fun _ hq_ => ((hs188.grow hq_).cell 12 rfl 0 rfl))) ?_
            refine Drw.a 5 rfl (by kernel_rfl) (Yv.rem rfl rfl (by omega) (by omega)) ?_
            refine Drw.a 6 rfl (by kernel_rfl) (Yv.fld F28_0 rfl) ?_
            refine Drw.l 7 rfl (by kernel_rfl) hS189 (Yv.load A3 rfl (fun _ hq_ => ((hs188.grow hq_).cell 10 rfl 0 rfl))) ?_
            refine Drw.a 8 rfl (by kernel_rfl) (Yv.mul rfl rfl (by omega)) ?_
            refine Drw.a 9 rfl (by kernel_rfl) (Yv.move rfl) ?_
            refine Drw.a 10 rfl (by kernel_rfl) (Yv.fld F28_0 rfl) ?_
            refine Drw.l 11 rfl (by kernel_rfl) hS189 (Yv.load A3 rfl (fun _ hq_ => ((hs188.grow hq_).cell 12 rfl 0 rfl))) ?_
            refine Drw.a 12 rfl (by kernel_rfl) (Yv.quo rfl rfl (by omega) (by omega) (by omega)) ?_
            refine Drw.a 13 rfl (by kernel_rfl) (Yv.add rfl rfl (by omega)) ?_
            refine Drw.a 14 rfl (by kernel_rfl) (Yv.idx L23 rfl rfl ((hs188.rdRow 1 rfl).isSome (i := (((q : Int) % W) * H) + ((q : Int) / W)) (by omega) (by omega)) (by omega) (by omega)) ?_
            refine Drw.l 15 rfl (by kernel_rfl) hS189 (Yv.load A5 rfl (fun _ hq_ => (((hs188.grow hq_).rdRow 1 rfl).u8 (by omega) (by omega)))) ?_
            have g190 := gi_bytes (xs := passF false co H W (H / 4) (List.replicate ((W / 4).toNat * (H / 4).toNat) sz) (idsTo (H / 4).toNat (sz / 4) ((W / 4).toNat * (H / 4).toNat)) (List.replicate ((W / 4).toNat * (H / 4).toNat) false) lv sh (turnTo W H (fitTo xs (W * H).toNat) (W * H).toNat k)) (passF_bytes _ _ _ _ _ _ _ _ _ _ (turnTo_bytes (fitTo_bytes hx _) _ _ _ k)) ((((q : Int) % W) * H) + ((q : Int) / W))
            refine Drw.a 16 rfl (by kernel_rfl) (Yv.fld F28_2 rfl) ?_
            refine Drw.l 17 rfl (by kernel_rfl) hS189 (Yv.load A23 rfl (fun _ hq_ => ((hs188.grow hq_).cell 5 rfl 2 rfl))) ?_
            refine Drw.a 18 rfl (by kernel_rfl) (Yv.move rfl) ?_
            refine Drw.a 19 rfl (by kernel_rfl) (Yv.idx L23 rfl rfl ((hs188.rdRow 6 rfl).isSome (i := (q : Int)) (by omega) (by omega)) (by omega) (by omega)) ?_
            refine Drw.l 20 rfl (by kernel_rfl) hS189 (Yv.load A5 rfl (fun _ hq_ => (((hs188.grow hq_).rdRow 6 rfl).u8 (by omega) (by omega)))) ?_
            have g191 := gi_bytes (xs := passF true co W H (W / 4) (List.replicate ((H / 4).toNat * (W / 4).toNat) sz) (idsTo (W / 4).toNat (sz / 4) ((H / 4).toNat * (W / 4).toNat)) (List.replicate ((H / 4).toNat * (W / 4).toNat) false) lv sh (fitTo xs (W * H).toNat)) (passF_bytes _ _ _ _ _ _ _ _ _ _ (fitTo_bytes hx _)) (q : Int)
            refine Drw.a 21 rfl (by kernel_rfl) (Yv.ne rfl rfl) ?_
            refine Drw.done ?_ (by kernel_rfl)
            refine k187 _ _ ?_
            refine run_ifp rfl (fun h192 => ?_) (fun h192 => ?_)
            · -- yes (gi (passF false co H W (H / 4) (List.replicate ((W / 4).toNat * (H / 4).toNat) sz) (idsTo (H / 4).toNat (sz / 4) ((W / 4).toNat * (H / 4).toNat)) (List.replicate ((W / 4).toNat * (H / 4).toNat) false) lv sh (turnTo W H (fitTo xs (W * H).toNat) (W * H).toNat k)) ((((q : Int) % W) * H) + ((q : Int) / W))) ≠ (gi (passF true co W H (W / 4) (List.replicate ((H / 4).toNat * (W / 4).toNat) sz) (idsTo (W / 4).toNat (sz / 4) ((H / 4).toNat * (W / 4).toNat)) (List.replicate ((H / 4).toNat * (W / 4).toNat) false) lv sh (fitTo xs (W * H).toNat)) (q : Int))
              refine run_seq fun K193 k193 => ?_
              refine run_region ?_
              refine Ops.v (Yv.assign rfl) ?_
              refine Ops.nil ?_
              refine k193 _ _ ?_
              refine run_ret ?_
              refine ⟨[.bool false], ⟨_, _, rfl, rfl, rfl⟩, ?_⟩
              exact absurd (turned_law (by omega) (by omega) (by omega) (fitTo_length _ _) hk hq1) h192
            · -- no
              refine run_skip ?_
              refine k186 _ _ ?_
              refine run_region ?_
              refine Ops.v (Yv.move rfl) ?_
              refine Ops.v (Yv.add rfl rfl (by omega)) ?_
              refine Ops.v (Yv.assign rfl) ?_
              refine Ops.nil ?_
              refine ⟨q + 1, _, ⟨hs188, rfl, by omega⟩, Sub.le ⟨rfl, rfl, rfl, rfl, rfl, rfl, rfl, rfl, rfl, rfl, rfl, rfl, rfl, rfl, rfl, lookI rfl (by omega), rfl, rfl, rfl, trivial⟩, by omega⟩
          · -- no
            refine run_exit ?_
            refine k180 _ _ ?_
            refine run_seq fun K194 k194 => ?_
            refine run_region ?_
            refine Ops.v (Yv.assign rfl) ?_
            refine Ops.nil ?_
            refine k194 _ _ ?_
            refine run_ret ?_
            refine ⟨[.bool true], ⟨_, _, rfl, rfl, rfl⟩, ?_⟩
            exact ⟨rfl, hs182.pick [] _ (by decide) rfl⟩

end Go.Proofs.Zed
