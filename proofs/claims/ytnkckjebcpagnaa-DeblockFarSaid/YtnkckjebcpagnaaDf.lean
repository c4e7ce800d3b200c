/- The walk of DeblockFar. -/
import Derived.Test.YtnkckjebcpagnaaDl
import Derived.Test.YtnkckjebcpagnaaDg
set_option linter.unusedVariables false
set_option linter.unusedSimpArgs false
namespace Go.Proofs.Zed
open Go Go.RowKit Tf
attribute [local irreducible] Try.prog

set_option maxHeartbeats 4000000 in
theorem DeblockFar_fun {w : World} {a b lv0 sh0 : Int} {up co : Bool} {A : Option Addr} {m c : Nat} {xs : List Int} (hr : Rd w A m 1 (u8s xs)) (hx : Bytes xs) : Fun Try.prog 3 [.agg #[.int .i64 a, .int .i64 b], .slice A m c, .agg #[.bool up, .bool co, .int .i64 lv0, .int .i64 sh0]] w fun v w' => v = .bool true ∧ HS w [] w' := by
  refine fun_run (m := 142) (rs := [.tmp 6]) Try.func3 rfl rfl rfl rfl rfl ?_
  have hs0 := HS.start w
  have hbig := hr.big
  refine run_seq fun K1 k1 => ?_
  refine run_region ?_
  refine Ops.s (Step.box (cs := [.int .i64 a, .int .i64 b]) hs0 rfl rfl (fun b2 w3 hs3 hb3 => ?_) True.intro (by rfl))
  refine Ops.s (Step.box (cs := [.bool up, .bool co, .int .i64 lv0, .int .i64 sh0]) hs3 rfl rfl (fun b5 w6 hs6 hb6 => ?_) True.intro (by rfl))
  refine Ops.v (Yv.assign rfl) ?_
  refine Ops.nil ?_
  refine k1 _ _ ?_
  refine run_seq fun K8 k8 => ?_
  refine run_seq fun K9 k9 => ?_
  refine run_region ?_
  refine Ops.s (Step.call rfl rfl (awake22_fun) (?_) True.intro (by rfl))
  rintro _ w10 ⟨rfl, hs10⟩
  replace hs10 := hs6.call hs10
  refine Ops.v (Yv.not rfl) ?_
  refine Ops.nil ?_
  refine k9 _ _ ?_
  refine run_if0 rfl ?_
  refine run_skip ?_
  refine k8 _ _ ?_
  refine run_seq fun K11 k11 => ?_
  refine run_region ?_
  refine Ops.v (Yv.idxa R22 rfl rfl (by decide) (by decide)) ?_
  refine Ops.v (Yv.load A3 rfl (now (hs10.cell 1 rfl 0 rfl))) ?_
  refine Ops.v (Yv.idxa R22 rfl rfl (by decide) (by decide)) ?_
  refine Ops.v (Yv.load A3 rfl (now (hs10.cell 1 rfl 1 rfl))) ?_
  refine Ops.v (Yv.move rfl) ?_
  refine Ops.s (Step.call rfl rfl (fit22_fun2 (hs10.rd hr) hx) (?_) True.intro (by rfl))
  rintro _ w15 ⟨W, H, Ad12, c13, hW, hH, rfl, hs15⟩
  replace hs15 := hs10.call hs15
  refine Ops.s (Step.alloc (cs := [.int .i64 0, .int .i64 0, .slice none 0 0]) hs15 Z28 rfl (fun b16 w17 hs17 hb17 => ?_) True.intro (by rfl))
  refine Ops.s (Step.store (vs := [.int .i64 W, .int .i64 H, .slice Ad12 ((W * H).toNat) c13]) 0 hs17 rfl rfl rfl rfl S28 (Nat.le_of_ble_eq_true rfl) rfl (fun w19 hs19 => ?_) True.intro)
  replace hs19 : HS _ [.blk _ [_, _, _] _, .row _ _ _ _ _ _, .blk _ [_, _, _, _] _, .blk _ [_, _] _] _ := hs19
  refine Ops.nil ?_
  refine k11 _ _ ?_
  refine run_seq fun K20 k20 => ?_
  refine run_region ?_
  refine Ops.v (Yv.fld F25_3 rfl) ?_
  refine Ops.v (Yv.load A3 rfl (now (hs19.cell 2 rfl 3 rfl))) ?_
  refine Ops.s (Step.call rfl rfl (bring_fun (by omega)) (?_) True.intro (by rfl))
  rintro _ _ ⟨rfl, rfl⟩
  have g21 := bringF_bd (i := sh0) (n := 3) (by decide)
  have hp3 : (2 : Int) ^ (bringF sh0 3).toNat = 1 ∨ (2 : Int) ^ (bringF sh0 3).toNat = 2 ∨ (2 : Int) ^ (bringF sh0 3).toNat = 4 := pow3 (by omega)
  refine Ops.v (Yv.shl rfl rfl ((bringF sh0 3).toNat) (by first | rfl | omega) (by omega) (by omega)) ?_
  refine Ops.v (Yv.assign rfl) ?_
  refine Ops.nil ?_
  refine k20 _ _ ?_
  obtain ⟨sz, hsz⟩ : ∃ x_ : Int, x_ = 16 * 2 ^ ((bringF sh0 3).toNat) := ⟨_, rfl⟩
  refine Run.sub [(0, .agg #[.int .i64 a, .int .i64 b]), (1, .slice A m c), (2, .agg #[.bool up, .bool co, .int .i64 lv0, .int .i64 sh0]), (3, .pointer (some ⟨b2, 0, none⟩)), (5, .pointer (some ⟨b5, 0, none⟩)), (6, .bool false), (7, .pointer (some ⟨b16, 0, none⟩)), (8, .int .i64 sz), (17, .bool false)] ⟨rfl, rfl, rfl, rfl, rfl, rfl, rfl, lookI rfl hsz.symm, rfl, trivial⟩ ?_
  have hsz3 : sz = 16 ∨ sz = 32 ∨ sz = 64 := by omega
  refine run_seq fun K23 k23 => ?_
  refine run_region ?_
  refine Ops.v (Yv.fld F25_2 rfl) ?_
  refine Ops.v (Yv.load A3 rfl (now (hs19.cell 2 rfl 2 rfl))) ?_
  refine Ops.s (Step.call rfl rfl (bring_fun (by omega)) (?_) True.intro (by rfl))
  rintro _ _ ⟨rfl, rfl⟩
  have g24 := bringF_bd (i := lv0) (n := 64) (by decide)
  refine Ops.v (Yv.assign rfl) ?_
  refine Ops.nil ?_
  refine k23 _ _ ?_
  obtain ⟨lv, hlv⟩ : ∃ x_ : Int, x_ = bringF lv0 64 := ⟨_, rfl⟩
  refine Run.sub [(0, .agg #[.int .i64 a, .int .i64 b]), (1, .slice A m c), (2, .agg #[.bool up, .bool co, .int .i64 lv0, .int .i64 sh0]), (3, .pointer (some ⟨b2, 0, none⟩)), (5, .pointer (some ⟨b5, 0, none⟩)), (6, .bool false), (7, .pointer (some ⟨b16, 0, none⟩)), (8, .int .i64 sz), (9, .int .i64 lv), (17, .bool false)] ⟨rfl, rfl, rfl, rfl, rfl, rfl, rfl, rfl, lookI rfl hlv.symm, rfl, trivial⟩ ?_
  have hlv2 : 0 ≤ lv ∧ lv ≤ 63 := by omega
  refine run_seq fun K26 k26 => ?_
  refine run_drawn [18] (fun x => Below (w19.drew).heap.size (w19.drew) x) ?_ Tf.mixed (by kernel_rfl) (fun _ _ _ h => h)
  have hs27 := hs19.drew
  have hS28 := Below.refl (w19.drew).heap.size (w19.drew)
  refine Drw.l 0 rfl (by kernel_rfl) hS28 (Yv.loadn (cs := [.int .i64 W, .int .i64 H, .slice Ad12 ((W * H).toNat) c13]) A28 S28 rfl (fun _ hq_ => ((hs27.grow hq_).cells 0 rfl 0 3))) ?_
  refine Drw.l 1 rfl (by kernel_rfl) hS28 (Yv.loadn (cs := [.int .i64 W, .int .i64 H, .slice Ad12 ((W * H).toNat) c13]) A28 S28 rfl (fun _ hq_ => ((hs27.grow hq_).cells 0 rfl 0 3))) ?_
  refine Drw.a 2 rfl (by kernel_rfl) (Yv.move rfl) ?_
  refine Drw.a 3 rfl (by kernel_rfl) (Yv.toByte U5 V3 rfl (by omega)) ?_
  refine Drw.a 5 rfl (by kernel_rfl) (Yv.fld F25_0 rfl) ?_
  refine Drw.l 6 rfl (by kernel_rfl) hS28 (Yv.load A4 rfl (fun _ hq_ => ((hs27.grow hq_).cell 2 rfl 0 rfl))) ?_
  refine Drw.a 7 rfl (by kernel_rfl) (Yv.fld F25_1 rfl) ?_
  refine Drw.l 8 rfl (by kernel_rfl) hS28 (Yv.load A4 rfl (fun _ hq_ => ((hs27.grow hq_).cell 2 rfl 1 rfl))) ?_
  refine Drw.a 9 rfl (by kernel_rfl) (Yv.move rfl) ?_
  refine Drw.a 10 rfl (by kernel_rfl) (Yv.fld F25_3 rfl) ?_
  refine Drw.l 11 rfl (by kernel_rfl) hS28 (Yv.load A3 rfl (fun _ hq_ => ((hs27.grow hq_).cell 2 rfl 3 rfl))) ?_
  refine Drw.all [4, 17] ?_ (by kernel_rfl) rfl
  intro i hi
  simp only [List.mem_cons, List.not_mem_nil, or_false] at hi
  rcases hi with rfl | rfl
  · -- operation 4 first
    refine ⟨_, _, _, _, _, _, rfl, ?_⟩
    refine Step.call rfl rfl (cells22_fun (by omega) (by omega) (by omega)) (?_) True.intro (by rfl)
    rintro _ w38 ⟨Ad29, c32, Ad30, c33, Ad31, c34, rfl, hs38⟩
    have hS39 := HS.keepS hS28 (Nat.le_refl _) hs38
    refine ⟨fun _ _ => hS39, ?_⟩
    replace hs38 := hs27.call hs38
    refine Drw.all [12, 17] ?_ (by kernel_rfl) rfl
    intro i hi
    simp only [List.mem_cons, List.not_mem_nil, or_false] at hi
    rcases hi with rfl | rfl
    · -- operation 12 first
      refine ⟨_, _, _, _, _, _, rfl, ?_⟩
      refine Step.call rfl rfl (bring_fun (by omega)) (?_) True.intro (by rfl)
      rintro _ _ ⟨rfl, rfl⟩
      refine ⟨fun _ h => h, ?_⟩
      have g40 := bringF_bd (i := sh0) (n := 8) (by decide)
      refine Drw.all [13, 17] ?_ (by kernel_rfl) rfl
      intro i hi
      simp only [List.mem_cons, List.not_mem_nil, or_false] at hi
      rcases hi with rfl | rfl
      · -- operation 13 first
        refine ⟨_, _, _, _, _, _, rfl, ?_⟩
        refine Step.call rfl rfl (pass_good (hs38.rdRow 4 rfl) (fitTo_bytes hx _) (hs38.rdRow 0 rfl) (Bytes.rep (by omega)) (hs38.rdRow 1 rfl) (hs38.rdRow 2 rfl) (good_cells (by omega) (by omega) (by omega) (by omega) (by omega))) (?_) True.intro (by rfl)
        rintro _ w45 ⟨Ad42, c43, rfl, hs45⟩
        have hS46 := HS.keepS hS39 (Nat.le_refl _) hs45
        refine ⟨fun _ _ => hS46, ?_⟩
        replace hs45 := hs38.call hs45
        refine Drw.a 14 rfl (by kernel_rfl) (Yv.move rfl) ?_
        refine Drw.a 15 rfl (by kernel_rfl) (Yv.extract rfl rfl) ?_
        refine Drw.a 16 rfl (by kernel_rfl) (Yv.extract rfl rfl) ?_
        refine Drw.one 17 rfl (by kernel_rfl) (Step.alloc (cs := [.int .i64 0, .int .i64 0, .slice none 0 0]) hs45 Z28 rfl (fun b47 w48 hs48 hb48 => ?_) True.intro (by rfl))
        have hS50 := hS46.trans (hb48.mono (Nat.le_trans (Nat.le_refl _) hS46.size))
        refine ⟨fun _ _ => hS50, ?_⟩
        refine Drw.one 18 rfl (by kernel_rfl) (Step.store (vs := [.int .i64 W, .int .i64 H, .slice Ad42 ((W * H).toNat) c43]) 0 hs48 rfl rfl rfl rfl S28 (Nat.le_of_ble_eq_true rfl) rfl (fun w51 hs51 => ?_) True.intro)
        refine ⟨fun h => absurd h (by decide), ?_⟩
        replace hs51 : HS _ [.blk _ [_, _, _] _, .row _ _ _ _ _ _, .row _ _ _ _ _ _, .row _ _ _ _ _ _, .row _ _ _ _ _ _, .blk _ [_, _, _] _, .row _ _ _ _ _ _, .blk _ [_, _, _, _] _, .blk _ [_, _] _] _ := hs51
        refine Drw.a 19 rfl (by kernel_rfl) (Yv.assign rfl) ?_
        refine Drw.done ?_ (by kernel_rfl)
        refine k26 _ _ ?_
        refine run_seq fun K52 k52 => ?_
        refine run_seq fun K53 k53 => ?_
        refine Run.cut (fun e_ w_ => w51 = w_ ∧ Le [(0, .agg #[.int .i64 a, .int .i64 b]), (1, .slice A m c), (2, .agg #[.bool up, .bool co, .int .i64 lv0, .int .i64 sh0]), (3, .pointer (some ⟨b2, 0, none⟩)), (5, .pointer (some ⟨b5, 0, none⟩)), (6, .bool false), (7, .pointer (some ⟨b16, 0, none⟩)), (8, .int .i64 sz), (9, .int .i64 lv), (10, .pointer (some ⟨b47, 0, none⟩)), (11, .int .i64 0), (17, .bool false), (72, .bool (decide (((W * H).toNat : Int) ≠ ((W * H).toNat : Int))))] e_) ?_ ?_
        · -- region 7: its ways meet again
          refine run_region ?_
          refine Ops.v (Yv.move rfl) ?_
          refine Ops.v (Yv.ne rfl rfl) ?_
          refine Ops.dec0 (fun h_ => h_ rfl) ?_
          refine Ops.v (Yv.move rfl) ?_
          refine Ops.vg ⟨_, rfl, rfl⟩ (Yv.fld F28_0 rfl) ?_
          refine Ops.vg ⟨_, rfl, rfl⟩ (Yv.load A3 rfl (now (hs51.cell 0 rfl 0 rfl))) ?_
          refine Ops.vg ⟨_, rfl, rfl⟩ (Yv.fld F28_0 rfl) ?_
          refine Ops.vg ⟨_, rfl, rfl⟩ (Yv.load A3 rfl (now (hs51.cell 5 rfl 0 rfl))) ?_
          refine Ops.vg ⟨_, rfl, rfl⟩ (Yv.ne rfl rfl) ?_
          refine Ops.dec0 (fun h_ => h_ rfl) ?_
          refine Ops.v (Yv.pick0 rfl rfl) ?_
          refine Ops.v (Yv.move rfl) ?_
          refine Ops.vg ⟨_, rfl, rfl⟩ (Yv.fld F28_1 rfl) ?_
          refine Ops.vg ⟨_, rfl, rfl⟩ (Yv.load A3 rfl (now (hs51.cell 0 rfl 1 rfl))) ?_
          refine Ops.vg ⟨_, rfl, rfl⟩ (Yv.fld F28_1 rfl) ?_
          refine Ops.vg ⟨_, rfl, rfl⟩ (Yv.load A3 rfl (now (hs51.cell 5 rfl 1 rfl))) ?_
          refine Ops.vg ⟨_, rfl, rfl⟩ (Yv.ne rfl rfl) ?_
          refine Ops.dec0 (fun h_ => h_ rfl) ?_
          refine Ops.v (Yv.pick0 rfl rfl) ?_
          refine Ops.v (Yv.move rfl) ?_
          refine Ops.vg ⟨_, rfl, rfl⟩ (Yv.fld F28_2 rfl) ?_
          refine Ops.vg ⟨_, rfl, rfl⟩ (Yv.load A23 rfl (now (hs51.cell 0 rfl 2 rfl))) ?_
          refine Ops.vg ⟨_, rfl, rfl⟩ (Yv.len (by rw [L23]; rfl) rfl) ?_
          refine Ops.vg ⟨_, rfl, rfl⟩ (Yv.fld F28_2 rfl) ?_
          refine Ops.vg ⟨_, rfl, rfl⟩ (Yv.load A23 rfl (now (hs51.cell 5 rfl 2 rfl))) ?_
          refine Ops.vg ⟨_, rfl, rfl⟩ (Yv.len (by rw [L23]; rfl) rfl) ?_
          refine Ops.vg ⟨_, rfl, rfl⟩ (Yv.ne rfl rfl) ?_
          refine Ops.v (Yv.pick0 rfl rfl) ?_
          refine Ops.nil ?_
          refine ⟨rfl, Sub.le ⟨rfl, rfl, rfl, rfl, rfl, rfl, rfl, rfl, rfl, rfl, rfl, rfl, rfl, trivial⟩⟩
        rintro e54 _ ⟨rfl, he54⟩
        refine k53 _ _ ?_
        refine Run.le he54 ?_
        refine run_ifp rfl (fun h55 => ?_) (fun h55 => ?_)
        · -- yes ((W * H).toNat : Int) ≠ ((W * H).toNat : Int)
          refine run_seq fun K56 k56 => ?_
          refine run_region ?_
          refine Ops.v (Yv.assign rfl) ?_
          refine Ops.nil ?_
          refine k56 _ _ ?_
          refine run_ret ?_
          refine ⟨[.bool false], ⟨_, _, rfl, rfl, rfl⟩, ?_⟩
          exact absurd rfl h55
        · -- no
          refine run_skip ?_
          refine k52 _ _ ?_
          refine run_seq fun K57 k57 => ?_
          refine run_seq fun K58 k58 => ?_
          refine run_region ?_
          refine Ops.v (Yv.assign rfl) ?_
          refine Ops.nil ?_
          refine k58 _ _ ?_
          refine run_block ?_
          have hWH := mul_bd (a := W) (b := H) (x := 64) (y := 64) (by omega) (by omega) (by omega) (by omega)
          refine Run.sub [(0, _), (1, _), (2, _), (3, _), (5, _), (7, _), (8, _), (9, _), (10, _), (11, _), (12, _), (17, _), (72, _)] ⟨rfl, rfl, rfl, rfl, rfl, rfl, rfl, rfl, rfl, rfl, rfl, rfl, rfl, trivial⟩ ?_
          refine run_loop (σ := Nat) (fun k e_ w_ => HS w [.blk b47 [.int .i64 W, .int .i64 H, .slice Ad42 ((W * H).toNat) c43] 28, .row Ad42 ((W * H).toNat) c43 (u8s (passF up co W H (W / 4) (List.replicate ((H / 4).toNat * (W / 4).toNat) sz) (idsTo (W / 4).toNat (sz / 4) ((H / 4).toNat * (W / 4).toNat)) (List.replicate ((H / 4).toNat * (W / 4).toNat) false) lv (bringF sh0 8) (fitTo xs (W * H).toNat))) 5 1, .row Ad29 ((H / 4).toNat * (W / 4).toNat) c32 (u8s (List.replicate ((H / 4).toNat * (W / 4).toNat) sz)) 5 1, .row Ad30 ((H / 4).toNat * (W / 4).toNat) c33 (i64s (idsTo (W / 4).toNat (sz / 4) ((H / 4).toNat * (W / 4).toNat))) 3 1, .row Ad31 ((H / 4).toNat * (W / 4).toNat) c34 (bools (List.replicate ((H / 4).toNat * (W / 4).toNat) false)) 4 1, .blk b16 [.int .i64 W, .int .i64 H, .slice Ad12 ((W * H).toNat) c13] 28, .row Ad12 ((W * H).toNat) c13 (u8s (fitTo xs (W * H).toNat)) 5 1, .blk b5 [.bool up, .bool co, .int .i64 lv0, .int .i64 sh0] 25, .blk b2 [.int .i64 a, .int .i64 b] 22] w_ ∧ e_ = [(0, .agg #[.int .i64 a, .int .i64 b]), (1, .slice A m c), (2, .agg #[.bool up, .bool co, .int .i64 lv0, .int .i64 sh0]), (3, .pointer (some ⟨b2, 0, none⟩)), (5, .pointer (some ⟨b5, 0, none⟩)), (7, .pointer (some ⟨b16, 0, none⟩)), (8, .int .i64 sz), (9, .int .i64 lv), (10, .pointer (some ⟨b47, 0, none⟩)), (11, .int .i64 0), (12, .int .i64 (k : Int)), (17, .bool false), (72, .bool (decide (((W * H).toNat : Int) ≠ ((W * H).toNat : Int))))] ∧ k ≤ (W * H).toNat)
            (fun k => (W * H).toNat - k) 0 ?_ ?_
          · -- at the start
            refine ⟨hs51, rfl, by omega⟩
          · -- a round
            rintro k _ w59 ⟨hs59, rfl, f1⟩
            refine run_seq fun K60 k60 => ?_
            refine run_seq fun K61 k61 => ?_
            refine run_region ?_
            refine Ops.v (Yv.move rfl) ?_
            refine Ops.v (Yv.fld F28_2 rfl) ?_
            refine Ops.v (Yv.load A23 rfl (now (hs59.cell 5 rfl 2 rfl))) ?_
            refine Ops.v (Yv.len (by rw [L23]; rfl) rfl) ?_
            refine Ops.v (Yv.lt rfl rfl) ?_
            refine Ops.nil ?_
            refine k61 _ _ ?_
            refine run_ifp rfl (fun h62 => ?_) (fun h62 => ?_)
            · -- yes (k : Int) < ((W * H).toNat : Int)
              have hk1 : (k : Int) < W * H := by omega
              have hkm : 0 ≤ (k : Int) % W ∧ (k : Int) % W < W := ⟨Int.emod_nonneg _ (by omega), Int.emod_lt_of_pos _ (by omega)⟩
              have hkd : 0 ≤ (k : Int) / W ∧ (k : Int) / W < H := ⟨Int.ediv_nonneg (by omega) (by omega), Int.ediv_lt_of_lt_mul (by omega) (by rw [Int.mul_comm]; omega)⟩
              refine run_skip ?_
              refine k60 _ _ ?_
              refine run_seq fun K63 k63 => ?_
              refine run_block ?_
              refine run_seq fun K64 k64 => ?_
              refine run_drawn [] (fun x => Below (w59.drew).heap.size (w59.drew) x) ?_ Tf.mixed (by kernel_rfl) (fun _ _ _ h => h)
              have hs65 := hs59.drew
              have hS66 := Below.refl (w59.drew).heap.size (w59.drew)
              refine Drw.a 0 rfl (by kernel_rfl) (Yv.move rfl) ?_
              refine Drw.a 1 rfl (by kernel_rfl) (Yv.fld F28_0 rfl) ?_
              refine Drw.l 2 rfl (by kernel_rfl) hS66 (Yv.load A3 rfl (fun _ hq_ => ((hs65.grow hq_).cell 5 rfl 0 rfl))) ?_
              refine Drw.a 3 rfl (by kernel_rfl) (Yv.rem rfl rfl (by omega) (by omega)) ?_
              refine Drw.a 4 rfl (by kernel_rfl) (Yv.fld F28_0 rfl) ?_
              refine Drw.l 5 rfl (by kernel_rfl) hS66 (Yv.load A3 rfl (fun _ hq_ => ((hs65.grow hq_).cell 5 rfl 0 rfl))) ?_
              refine Drw.a 6 rfl (by kernel_rfl) (Yv.assign rfl) ?_
              refine Drw.a 7 rfl (by kernel_rfl) (Yv.assign rfl) ?_
              refine Drw.done ?_ (by kernel_rfl)
              refine k64 _ _ ?_
              refine run_seq fun K67 k67 => ?_
              refine run_seq fun K68 k68 => ?_
              refine run_region ?_
              refine Ops.v (Yv.fld F25_0 rfl) ?_
              refine Ops.v (Yv.load A4 rfl (now (hs65.cell 7 rfl 0 rfl))) ?_
              refine Ops.v (Yv.not rfl) ?_
              refine Ops.nil ?_
              refine k68 _ _ ?_
              refine run_if rfl (fun h69 => ?_) (fun h69 => ?_)
              · -- yes !up
                refine run_seq fun K70 k70 => ?_
                refine run_region ?_
                refine Ops.v (Yv.move rfl) ?_
                refine Ops.v (Yv.fld F28_0 rfl) ?_
                refine Ops.v (Yv.load A3 rfl (now (hs65.cell 5 rfl 0 rfl))) ?_
                refine Ops.v (Yv.quo rfl rfl (by omega) (by omega) (by omega)) ?_
                refine Ops.v (Yv.assign rfl) ?_
                refine Ops.nil ?_
                refine k70 _ _ ?_
                refine run_region ?_
                refine Ops.v (Yv.fld F28_1 rfl) ?_
                refine Ops.v (Yv.load A3 rfl (now (hs65.cell 5 rfl 1 rfl))) ?_
                refine Ops.v (Yv.assign rfl) ?_
                refine Ops.nil ?_
                refine k67 _ _ ?_
                refine run_seq fun K71 k71 => ?_
                refine Run.cut (fun e_ w_ => (w59.drew) = w_ ∧ Le [(0, .agg #[.int .i64 a, .int .i64 b]), (1, .slice A m c), (2, .agg #[.bool up, .bool co, .int .i64 lv0, .int .i64 sh0]), (3, .pointer (some ⟨b2, 0, none⟩)), (5, .pointer (some ⟨b5, 0, none⟩)), (7, .pointer (some ⟨b16, 0, none⟩)), (8, .int .i64 sz), (9, .int .i64 lv), (10, .pointer (some ⟨b47, 0, none⟩)), (11, .int .i64 0), (12, .int .i64 (k : Int)), (13, .int .i64 ((k : Int) / W)), (14, .int .i64 H), (15, .bool (decide ((((((k : Int) / W) % sz) < (6 : Int)) ∧ (sz ≤ ((k : Int) / W))) ∨ (((sz - 6) ≤ (((k : Int) / W) % sz)) ∧ ((((((k : Int) / W) / sz) * sz) + sz) < H))))), (17, .bool false), (72, .bool (decide (((W * H).toNat : Int) ≠ ((W * H).toNat : Int)))), (77, .bool (decide ((k : Int) < ((W * H).toNat : Int)))), (88, .bool (!up))] e_) ?_ ?_
                · -- region 16: its ways meet again
                  refine run_region ?_
                  refine Ops.v (Yv.move rfl) ?_
                  refine Ops.v (Yv.move rfl) ?_
                  refine Ops.v (Yv.rem rfl rfl (by omega) (by omega)) ?_
                  refine Ops.v (Yv.lt rfl rfl) ?_
                  refine Ops.dec (fun h72 => ?_) (fun h72 => ?_)
                  · -- yes
                    refine Ops.v (Yv.move rfl) ?_
                    refine Ops.vg ⟨_, rfl, rfl⟩ (Yv.move rfl) ?_
                    refine Ops.vg ⟨_, rfl, rfl⟩ (Yv.move rfl) ?_
                    refine Ops.vg ⟨_, rfl, rfl⟩ (Yv.ge rfl rfl) ?_
                    refine Ops.dec (fun h73 => ?_) (fun h73 => ?_)
                    · -- yes
                      refine Ops.v (Yv.pick1 rfl rfl) ?_
                      refine Ops.v (Yv.move rfl) ?_
                      refine Ops.skip ⟨_, rfl, rfl⟩ ?_
                      refine Ops.skip ⟨_, rfl, rfl⟩ ?_
                      refine Ops.skip ⟨_, rfl, rfl⟩ ?_
                      refine Ops.skip ⟨_, rfl, rfl⟩ ?_
                      refine Ops.skip ⟨_, rfl, rfl⟩ ?_
                      refine Ops.skip ⟨_, rfl, rfl⟩ ?_
                      refine Ops.skip ⟨_, rfl, rfl⟩ ?_
                      refine Ops.skip ⟨_, rfl, rfl⟩ ?_
                      refine Ops.skip ⟨_, rfl, rfl⟩ ?_
                      refine Ops.skip ⟨_, rfl, rfl⟩ ?_
                      refine Ops.skip ⟨_, rfl, rfl⟩ ?_
                      refine Ops.skip ⟨_, rfl, rfl⟩ ?_
                      refine Ops.skip ⟨_, rfl, rfl⟩ ?_
                      refine Ops.skip ⟨_, rfl, rfl⟩ ?_
                      refine Ops.skip ⟨_, rfl, rfl⟩ ?_
                      refine Ops.skip ⟨_, rfl, rfl⟩ ?_
                      refine Ops.skip ⟨_, rfl, rfl⟩ ?_
                      refine Ops.v (Yv.pick1 rfl rfl) ?_
                      refine Ops.v (Yv.assign rfl) ?_
                      refine Ops.nil ?_
                      refine ⟨rfl, Sub.le ⟨rfl, rfl, rfl, rfl, rfl, rfl, rfl, rfl, rfl, rfl, rfl, rfl, rfl, lookB rfl (by first | (simp only [h72, h73, not_true_eq_false, not_false_eq_true, or_true, true_or, or_false, false_or, and_true, true_and, and_false, false_and, decide_true, decide_false, or_self, and_self, Bool.decide_eq_true]; done) | simp [h72, h73]), rfl, rfl, rfl, rfl, trivial⟩⟩
                    · -- no
                      refine Ops.v (Yv.pick1 rfl rfl) ?_
                      refine Ops.v (Yv.move rfl) ?_
                      refine Ops.vg ⟨_, rfl, rfl⟩ (Yv.move rfl) ?_
                      refine Ops.vg ⟨_, rfl, rfl⟩ (Yv.move rfl) ?_
                      refine Ops.vg ⟨_, rfl, rfl⟩ (Yv.rem rfl rfl (by omega) (by omega)) ?_
                      refine Ops.vg ⟨_, rfl, rfl⟩ (Yv.move rfl) ?_
                      refine Ops.vg ⟨_, rfl, rfl⟩ (Yv.sub rfl rfl (by omega)) ?_
                      refine Ops.vg ⟨_, rfl, rfl⟩ (Yv.ge rfl rfl) ?_
                      refine Ops.dec (fun h74 => ?_) (fun h74 => ?_)
                      · -- yes
                        refine Ops.vg ⟨_, rfl, rfl⟩ (Yv.move rfl) ?_
                        refine Ops.vg ⟨_, rfl, rfl⟩ (Yv.move rfl) ?_
                        refine Ops.vg ⟨_, rfl, rfl⟩ (Yv.move rfl) ?_
                        have hdz := div_bd (a := ((k : Int) / W)) (b := sz) (by omega) (by omega)
                        refine Ops.vg ⟨_, rfl, rfl⟩ (Yv.quo rfl rfl (by omega) (by omega) (by omega)) ?_
                        refine Ops.vg ⟨_, rfl, rfl⟩ (Yv.move rfl) ?_
                        have hdm := mul_bd (a := ((k : Int) / W) / sz) (b := sz) (x := 64) (y := 64) (by omega) (by omega) (by omega) (by omega)
                        refine Ops.vg ⟨_, rfl, rfl⟩ (Yv.mul rfl rfl (by omega)) ?_
                        refine Ops.vg ⟨_, rfl, rfl⟩ (Yv.move rfl) ?_
                        refine Ops.vg ⟨_, rfl, rfl⟩ (Yv.add rfl rfl (by omega)) ?_
                        refine Ops.vg ⟨_, rfl, rfl⟩ (Yv.move rfl) ?_
                        refine Ops.vg ⟨_, rfl, rfl⟩ (Yv.lt rfl rfl) ?_
                        refine Ops.vg ⟨_, rfl, rfl⟩ (Yv.pick1 rfl rfl) ?_
                        refine Ops.v (Yv.pick0 rfl rfl) ?_
                        refine Ops.v (Yv.assign rfl) ?_
                        refine Ops.nil ?_
                        refine ⟨rfl, Sub.le ⟨rfl, rfl, rfl, rfl, rfl, rfl, rfl, rfl, rfl, rfl, rfl, rfl, rfl, lookB rfl (by first | (simp only [h72, h73, h74, not_true_eq_false, not_false_eq_true, or_true, true_or, or_false, false_or, and_true, true_and, and_false, false_and, decide_true, decide_false, or_self, and_self, Bool.decide_eq_true]; done) | simp [h72, h73, h74]), rfl, rfl, rfl, rfl, trivial⟩⟩
                      · -- no
                        refine Ops.vg ⟨_, rfl, rfl⟩ (Yv.move rfl) ?_
                        refine Ops.skip ⟨_, rfl, rfl⟩ ?_
                        refine Ops.skip ⟨_, rfl, rfl⟩ ?_
                        refine Ops.skip ⟨_, rfl, rfl⟩ ?_
                        refine Ops.skip ⟨_, rfl, rfl⟩ ?_
                        refine Ops.skip ⟨_, rfl, rfl⟩ ?_
                        refine Ops.skip ⟨_, rfl, rfl⟩ ?_
                        refine Ops.skip ⟨_, rfl, rfl⟩ ?_
                        refine Ops.skip ⟨_, rfl, rfl⟩ ?_
                        refine Ops.skip ⟨_, rfl, rfl⟩ ?_
                        refine Ops.vg ⟨_, rfl, rfl⟩ (Yv.pick0 rfl rfl) ?_
                        refine Ops.v (Yv.pick0 rfl rfl) ?_
                        refine Ops.v (Yv.assign rfl) ?_
                        refine Ops.nil ?_
                        refine ⟨rfl, Sub.le ⟨rfl, rfl, rfl, rfl, rfl, rfl, rfl, rfl, rfl, rfl, rfl, rfl, rfl, lookB rfl (by first | (simp only [h72, h73, h74, not_true_eq_false, not_false_eq_true, or_true, true_or, or_false, false_or, and_true, true_and, and_false, false_and, decide_true, decide_false, or_self, and_self, Bool.decide_eq_true]; done) | simp [h72, h73, h74]), rfl, rfl, rfl, rfl, trivial⟩⟩
                  · -- no
                    refine Ops.v (Yv.move rfl) ?_
                    refine Ops.skip ⟨_, rfl, rfl⟩ ?_
                    refine Ops.skip ⟨_, rfl, rfl⟩ ?_
                    refine Ops.skip ⟨_, rfl, rfl⟩ ?_
                    refine Ops.v (Yv.pick0 rfl rfl) ?_
                    refine Ops.v (Yv.move rfl) ?_
                    refine Ops.vg ⟨_, rfl, rfl⟩ (Yv.move rfl) ?_
                    refine Ops.vg ⟨_, rfl, rfl⟩ (Yv.move rfl) ?_
                    refine Ops.vg ⟨_, rfl, rfl⟩ (Yv.rem rfl rfl (by omega) (by omega)) ?_
                    refine Ops.vg ⟨_, rfl, rfl⟩ (Yv.move rfl) ?_
                    refine Ops.vg ⟨_, rfl, rfl⟩ (Yv.sub rfl rfl (by omega)) ?_
                    refine Ops.vg ⟨_, rfl, rfl⟩ (Yv.ge rfl rfl) ?_
                    refine Ops.dec (fun h75 => ?_) (fun h75 => ?_)
                    · -- yes
                      refine Ops.vg ⟨_, rfl, rfl⟩ (Yv.move rfl) ?_
                      refine Ops.vg ⟨_, rfl, rfl⟩ (Yv.move rfl) ?_
                      refine Ops.vg ⟨_, rfl, rfl⟩ (Yv.move rfl) ?_
                      have hdz := div_bd (a := ((k : Int) / W)) (b := sz) (by omega) (by omega)
                      refine Ops.vg ⟨_, rfl, rfl⟩ (Yv.quo rfl rfl (by omega) (by omega) (by omega)) ?_
                      refine Ops.vg ⟨_, rfl, rfl⟩ (Yv.move rfl) ?_
                      have hdm := mul_bd (a := ((k : Int) / W) / sz) (b := sz) (x := 64) (y := 64) (by omega) (by omega) (by omega) (by omega)
                      refine Ops.vg ⟨_, rfl, rfl⟩ (Yv.mul rfl rfl (by omega)) ?_
                      refine Ops.vg ⟨_, rfl, rfl⟩ (Yv.move rfl) ?_
                      refine Ops.vg ⟨_, rfl, rfl⟩ (Yv.add rfl rfl (by omega)) ?_
                      refine Ops.vg ⟨_, rfl, rfl⟩ (Yv.move rfl) ?_
                      refine Ops.vg ⟨_, rfl, rfl⟩ (Yv.lt rfl rfl) ?_
                      refine Ops.vg ⟨_, rfl, rfl⟩ (Yv.pick1 rfl rfl) ?_
                      refine Ops.v (Yv.pick0 rfl rfl) ?_
                      refine Ops.v (Yv.assign rfl) ?_
                      refine Ops.nil ?_
                      refine ⟨rfl, Sub.le ⟨rfl, rfl, rfl, rfl, rfl, rfl, rfl, rfl, rfl, rfl, rfl, rfl, rfl, lookB rfl (by first | (simp only [h72, h75, not_true_eq_false, not_false_eq_true, or_true, true_or, or_false, false_or, and_true, true_and, and_false, false_and, decide_true, decide_false, or_self, and_self, Bool.decide_eq_true]; done) | simp [h72, h75]), rfl, rfl, rfl, rfl, trivial⟩⟩
                    · -- no
                      refine Ops.vg ⟨_, rfl, rfl⟩ (Yv.move rfl) ?_
                      refine Ops.skip ⟨_, rfl, rfl⟩ ?_
                      refine Ops.skip ⟨_, rfl, rfl⟩ ?_
                      refine Ops.skip ⟨_, rfl, rfl⟩ ?_
                      refine Ops.skip ⟨_, rfl, rfl⟩ ?_
                      refine Ops.skip ⟨_, rfl, rfl⟩ ?_
                      refine Ops.skip ⟨_, rfl, rfl⟩ ?_
                      refine Ops.skip ⟨_, rfl, rfl⟩ ?_
                      refine Ops.skip ⟨_, rfl, rfl⟩ ?_
                      refine Ops.skip ⟨_, rfl, rfl⟩ ?_
                      refine Ops.vg ⟨_, rfl, rfl⟩ (Yv.pick0 rfl rfl) ?_
                      refine Ops.v (Yv.pick0 rfl rfl) ?_
                      refine Ops.v (Yv.assign rfl) ?_
                      refine Ops.nil ?_
                      refine ⟨rfl, Sub.le ⟨rfl, rfl, rfl, rfl, rfl, rfl, rfl, rfl, rfl, rfl, rfl, rfl, rfl, lookB rfl (by first | (simp only [h72, h75, not_true_eq_false, not_false_eq_true, or_true, true_or, or_false, false_or, and_true, true_and, and_false, false_and, decide_true, decide_false, or_self, and_self, Bool.decide_eq_true]; done) | simp [h72, h75]), rfl, rfl, rfl, rfl, trivial⟩⟩
                rintro e76 _ ⟨rfl, he76⟩
                refine k71 _ _ ?_
                refine Run.le he76 ?_
                refine run_seq fun K77 k77 => ?_
                refine Run.cut (fun e_ w_ => HS w [.blk b47 [.int .i64 W, .int .i64 H, .slice Ad42 ((W * H).toNat) c43] 28, .row Ad42 ((W * H).toNat) c43 (u8s (passF up co W H (W / 4) (List.replicate ((H / 4).toNat * (W / 4).toNat) sz) (idsTo (W / 4).toNat (sz / 4) ((H / 4).toNat * (W / 4).toNat)) (List.replicate ((H / 4).toNat * (W / 4).toNat) false) lv (bringF sh0 8) (fitTo xs (W * H).toNat))) 5 1, .row Ad29 ((H / 4).toNat * (W / 4).toNat) c32 (u8s (List.replicate ((H / 4).toNat * (W / 4).toNat) sz)) 5 1, .row Ad30 ((H / 4).toNat * (W / 4).toNat) c33 (i64s (idsTo (W / 4).toNat (sz / 4) ((H / 4).toNat * (W / 4).toNat))) 3 1, .row Ad31 ((H / 4).toNat * (W / 4).toNat) c34 (bools (List.replicate ((H / 4).toNat * (W / 4).toNat) false)) 4 1, .blk b16 [.int .i64 W, .int .i64 H, .slice Ad12 ((W * H).toNat) c13] 28, .row Ad12 ((W * H).toNat) c13 (u8s (fitTo xs (W * H).toNat)) 5 1, .blk b5 [.bool up, .bool co, .int .i64 lv0, .int .i64 sh0] 25, .blk b2 [.int .i64 a, .int .i64 b] 22] w_ ∧ Le [(0, .agg #[.int .i64 a, .int .i64 b]), (1, .slice A m c), (2, .agg #[.bool up, .bool co, .int .i64 lv0, .int .i64 sh0]), (3, .pointer (some ⟨b2, 0, none⟩)), (5, .pointer (some ⟨b5, 0, none⟩)), (7, .pointer (some ⟨b16, 0, none⟩)), (8, .int .i64 sz), (9, .int .i64 lv), (10, .pointer (some ⟨b47, 0, none⟩)), (11, .int .i64 0), (12, .int .i64 (k : Int)), (13, .int .i64 ((k : Int) / W)), (14, .int .i64 H), (15, .bool (decide ((((((k : Int) / W) % sz) < (6 : Int)) ∧ (sz ≤ ((k : Int) / W))) ∨ (((sz - 6) ≤ (((k : Int) / W) % sz)) ∧ ((((((k : Int) / W) / sz) * sz) + sz) < H))))), (17, .bool false), (72, .bool (decide (((W * H).toNat : Int) ≠ ((W * H).toNat : Int)))), (77, .bool (decide ((k : Int) < ((W * H).toNat : Int)))), (88, .bool (!up)), (141, .bool (decide (((¬ ((((((k : Int) / W) % sz) < (6 : Int)) ∧ (sz ≤ ((k : Int) / W))) ∨ (((sz - 6) ≤ (((k : Int) / W) % sz)) ∧ ((((((k : Int) / W) / sz) * sz) + sz) < H)))) ∨ (lv = (0 : Int))) ∧ ((gi (passF up co W H (W / 4) (List.replicate ((H / 4).toNat * (W / 4).toNat) sz) (idsTo (W / 4).toNat (sz / 4) ((H / 4).toNat * (W / 4).toNat)) (List.replicate ((H / 4).toNat * (W / 4).toNat) false) lv (bringF sh0 8) (fitTo xs (W * H).toNat)) (k : Int)) ≠ (gi (fitTo xs (W * H).toNat) (k : Int))))))] e_) ?_ ?_
                · -- region 17: its ways meet again
                  refine run_drawn [] (fun x => Below ((w59.drew).drew).heap.size ((w59.drew).drew) x) ?_ Tf.mixed (by kernel_rfl) (fun _ _ _ h => h)
                  have hs78 := hs65.drew
                  have hS79 := Below.refl ((w59.drew).drew).heap.size ((w59.drew).drew)
                  refine Drw.a 0 rfl (by kernel_rfl) (Yv.move rfl) ?_
                  refine Drw.dec (fun h80 => ?_) (fun h80 => ?_)
                  · -- yes
                    refine Drw.a 1 rfl (by kernel_rfl) (Yv.not rfl) ?_
                    refine Drw.a 2 rfl (by kernel_rfl) (Yv.move rfl) ?_
                    refine Drw.a 3 rfl (by kernel_rfl) (Yv.move rfl) ?_ ⟨_, rfl, rfl⟩
                    refine Drw.a 4 rfl (by kernel_rfl) (Yv.eq rfl rfl) ?_ ⟨_, rfl, rfl⟩
                    refine Drw.dec (fun h81 => ?_) (fun h81 => ?_)
                    · -- yes
                      refine Drw.a 5 rfl (by kernel_rfl) (Yv.pick0 rfl rfl) ?_
                      refine Drw.a 6 rfl (by kernel_rfl) (Yv.move rfl) ?_
                      refine Drw.a 7 rfl (by kernel_rfl) (Yv.fld F28_2 rfl) ?_ ⟨_, rfl, rfl⟩
                      refine Drw.l 8 rfl (by kernel_rfl) hS79 (Yv.load A23 rfl (fun _ hq_ => ((hs78.grow hq_).cell 0 rfl 2 rfl))) ?_ ⟨_, rfl, rfl⟩
                      refine Drw.a 9 rfl (by kernel_rfl) (Yv.move rfl) ?_ ⟨_, rfl, rfl⟩
                      refine Drw.a 10 rfl (by kernel_rfl) (Yv.idx L23 rfl rfl ((hs78.rdRow 1 rfl).isSome (i := (k : Int)) (by omega) (by omega)) (by omega) (by omega)) ?_ ⟨_, rfl, rfl⟩
                      refine Drw.l 11 rfl (by kernel_rfl) hS79 (Yv.load A5 rfl (fun _ hq_ => (((hs78.grow hq_).rdRow 1 rfl).u8 (by omega) (by omega)))) ?_ ⟨_, rfl, rfl⟩
                      have g82 := gi_bytes (xs := passF up co W H (W / 4) (List.replicate ((H / 4).toNat * (W / 4).toNat) sz) (idsTo (W / 4).toNat (sz / 4) ((H / 4).toNat * (W / 4).toNat)) (List.replicate ((H / 4).toNat * (W / 4).toNat) false) lv (bringF sh0 8) (fitTo xs (W * H).toNat)) (passF_bytes _ _ _ _ _ _ _ _ _ _ (fitTo_bytes hx _)) (k : Int)
                      refine Drw.a 12 rfl (by kernel_rfl) (Yv.fld F28_2 rfl) ?_ ⟨_, rfl, rfl⟩
                      refine Drw.l 13 rfl (by kernel_rfl) hS79 (Yv.load A23 rfl (fun _ hq_ => ((hs78.grow hq_).cell 5 rfl 2 rfl))) ?_ ⟨_, rfl, rfl⟩
                      refine Drw.a 14 rfl (by kernel_rfl) (Yv.move rfl) ?_ ⟨_, rfl, rfl⟩
                      refine Drw.a 15 rfl (by kernel_rfl) (Yv.idx L23 rfl rfl ((hs78.rdRow 6 rfl).isSome (i := (k : Int)) (by omega) (by omega)) (by omega) (by omega)) ?_ ⟨_, rfl, rfl⟩
                      refine Drw.l 16 rfl (by kernel_rfl) hS79 (Yv.load A5 rfl (fun _ hq_ => (((hs78.grow hq_).rdRow 6 rfl).u8 (by omega) (by omega)))) ?_ ⟨_, rfl, rfl⟩
                      have g83 := gi_bytes (xs := fitTo xs (W * H).toNat) (fitTo_bytes hx _) (k : Int)
                      refine Drw.a 17 rfl (by kernel_rfl) (Yv.ne rfl rfl) ?_ ⟨_, rfl, rfl⟩
                      refine Drw.a 18 rfl (by kernel_rfl) (Yv.pick1 rfl rfl) ?_
                      refine Drw.done ?_ (by kernel_rfl)
                      refine ⟨hs78, Sub.le ⟨rfl, rfl, rfl, rfl, rfl, rfl, rfl, rfl, rfl, rfl, rfl, rfl, rfl, rfl, rfl, rfl, rfl, rfl, lookB rfl (by first | (simp only [h80, h81, not_true_eq_false, not_false_eq_true, or_true, true_or, or_false, false_or, and_true, true_and, and_false, false_and, decide_true, decide_false, or_self, and_self, Bool.decide_eq_true]; done) | simp [h80, h81]), trivial⟩⟩
                    · -- no
                      refine Drw.a 5 rfl (by kernel_rfl) (Yv.pick0 rfl rfl) ?_
                      refine Drw.a 6 rfl (by kernel_rfl) (Yv.move rfl) ?_
                      refine Drw.no 7 rfl (by kernel_rfl) ?_ ⟨_, rfl, rfl⟩
                      refine Drw.no 8 rfl (by kernel_rfl) ?_ ⟨_, rfl, rfl⟩
                      refine Drw.no 9 rfl (by kernel_rfl) ?_ ⟨_, rfl, rfl⟩
                      refine Drw.no 10 rfl (by kernel_rfl) ?_ ⟨_, rfl, rfl⟩
                      refine Drw.no 11 rfl (by kernel_rfl) ?_ ⟨_, rfl, rfl⟩
                      refine Drw.no 12 rfl (by kernel_rfl) ?_ ⟨_, rfl, rfl⟩
                      refine Drw.no 13 rfl (by kernel_rfl) ?_ ⟨_, rfl, rfl⟩
                      refine Drw.no 14 rfl (by kernel_rfl) ?_ ⟨_, rfl, rfl⟩
                      refine Drw.no 15 rfl (by kernel_rfl) ?_ ⟨_, rfl, rfl⟩
                      refine Drw.no 16 rfl (by kernel_rfl) ?_ ⟨_, rfl, rfl⟩
                      refine Drw.no 17 rfl (by kernel_rfl) ?_ ⟨_, rfl, rfl⟩
                      refine Drw.a 18 rfl (by kernel_rfl) (Yv.pick0 rfl rfl) ?_
                      refine Drw.done ?_ (by kernel_rfl)
                      refine ⟨hs78, Sub.le ⟨rfl, rfl, rfl, rfl, rfl, rfl, rfl, rfl, rfl, rfl, rfl, rfl, rfl, rfl, rfl, rfl, rfl, rfl, lookB rfl (by first | (simp only [h80, h81, not_true_eq_false, not_false_eq_true, or_true, true_or, or_false, false_or, and_true, true_and, and_false, false_and, decide_true, decide_false, or_self, and_self, Bool.decide_eq_true]; done) | simp [h80, h81]), trivial⟩⟩
                  · -- no
                    refine Drw.a 1 rfl (by kernel_rfl) (Yv.not rfl) ?_
                    refine Drw.a 2 rfl (by kernel_rfl) (Yv.move rfl) ?_
                    refine Drw.no 3 rfl (by kernel_rfl) ?_ ⟨_, rfl, rfl⟩
                    refine Drw.no 4 rfl (by kernel_rfl) ?_ ⟨_, rfl, rfl⟩
                    refine Drw.a 5 rfl (by kernel_rfl) (Yv.pick1 rfl rfl) ?_
                    refine Drw.a 6 rfl (by kernel_rfl) (Yv.move rfl) ?_
                    refine Drw.a 7 rfl (by kernel_rfl) (Yv.fld F28_2 rfl) ?_ ⟨_, rfl, rfl⟩
                    refine Drw.l 8 rfl (by kernel_rfl) hS79 (Yv.load A23 rfl (fun _ hq_ => ((hs78.grow hq_).cell 0 rfl 2 rfl))) ?_ ⟨_, rfl, rfl⟩
                    refine Drw.a 9 rfl (by kernel_rfl) (Yv.move rfl) ?_ ⟨_, rfl, rfl⟩
                    refine Drw.a 10 rfl (by kernel_rfl) (Yv.idx L23 rfl rfl ((hs78.rdRow 1 rfl).isSome (i := (k : Int)) (by omega) (by omega)) (by omega) (by omega)) ?_ ⟨_, rfl, rfl⟩
                    refine Drw.l 11 rfl (by kernel_rfl) hS79 (Yv.load A5 rfl (fun _ hq_ => (((hs78.grow hq_).rdRow 1 rfl).u8 (by omega) (by omega)))) ?_ ⟨_, rfl, rfl⟩
                    have g84 := gi_bytes (xs := passF up co W H (W / 4) (List.replicate ((H / 4).toNat * (W / 4).toNat) sz) (idsTo (W / 4).toNat (sz / 4) ((H / 4).toNat * (W / 4).toNat)) (List.replicate ((H / 4).toNat * (W / 4).toNat) false) lv (bringF sh0 8) (fitTo xs (W * H).toNat)) (passF_bytes _ _ _ _ _ _ _ _ _ _ (fitTo_bytes hx _)) (k : Int)
                    refine Drw.a 12 rfl (by kernel_rfl) (Yv.fld F28_2 rfl) ?_ ⟨_, rfl, rfl⟩
                    refine Drw.l 13 rfl (by kernel_rfl) hS79 (Yv.load A23 rfl (fun _ hq_ => ((hs78.grow hq_).cell 5 rfl 2 rfl))) ?_ ⟨_, rfl, rfl⟩
                    refine Drw.a 14 rfl (by kernel_rfl) (Yv.move rfl) ?_ ⟨_, rfl, rfl⟩
                    refine Drw.a 15 rfl (by kernel_rfl) (Yv.idx L23 rfl rfl ((hs78.rdRow 6 rfl).isSome (i := (k : Int)) (by omega) (by omega)) (by omega) (by omega)) ?_ ⟨_, rfl, rfl⟩
                    refine Drw.l 16 rfl (by kernel_rfl) hS79 (Yv.load A5 rfl (fun _ hq_ => (((hs78.grow hq_).rdRow 6 rfl).u8 (by omega) (by omega)))) ?_ ⟨_, rfl, rfl⟩
                    have g85 := gi_bytes (xs := fitTo xs (W * H).toNat) (fitTo_bytes hx _) (k : Int)
                    refine Drw.a 17 rfl (by kernel_rfl) (Yv.ne rfl rfl) ?_ ⟨_, rfl, rfl⟩
                    refine Drw.a 18 rfl (by kernel_rfl) (Yv.pick1 rfl rfl) ?_
                    refine Drw.done ?_ (by kernel_rfl)
                    refine ⟨hs78, Sub.le ⟨rfl, rfl, rfl, rfl, rfl, rfl, rfl, rfl, rfl, rfl, rfl, rfl, rfl, rfl, rfl, rfl, rfl, rfl, lookB rfl (by first | (simp only [h80, not_true_eq_false, not_false_eq_true, or_true, true_or, or_false, false_or, and_true, true_and, and_false, false_and, decide_true, decide_false, or_self, and_self, Bool.decide_eq_true]; done) | simp [h80]), trivial⟩⟩
                rintro e88 w88 ⟨hs88, he88⟩
                refine k77 _ _ ?_
                refine Run.le he88 ?_
                refine run_ifp rfl (fun h89 => ?_) (fun h89 => ?_)
                · -- yes ((¬ ((((((k : Int) / W) % sz) < (6 : Int)) ∧ (sz ≤ ((k : Int) / W))) ∨ (((sz - 6) ≤ (((k : Int) / W) % sz)) ∧ ((((((k : Int) / W) / sz) * sz) + sz) < H)))) ∨ (lv = (0 : Int))) ∧ ((gi (passF up co W H (W / 4) (List.replicate ((H / 4).toNat * (W / 4).toNat) sz) (idsTo (W / 4).toNat (sz / 4) ((H / 4).toNat * (W / 4).toNat)) (List.replicate ((H / 4).toNat * (W / 4).toNat) false) lv (bringF sh0 8) (fitTo xs (W * H).toNat)) (k : Int)) ≠ (gi (fitTo xs (W * H).toNat) (k : Int)))
                  refine run_seq fun K90 k90 => ?_
                  refine run_region ?_
                  refine Ops.v (Yv.assign rfl) ?_
                  refine Ops.nil ?_
                  refine k90 _ _ ?_
                  refine run_ret ?_
                  refine ⟨[.bool false], ⟨_, _, rfl, rfl, rfl⟩, ?_⟩
                  have hup : up = false := by simpa using h69
                  subst hup
                  exact absurd (far_lie (by omega) (by omega) (by omega) h89.1) h89.2
                · -- no
                  refine run_skip ?_
                  refine k63 _ _ ?_
                  refine run_region ?_
                  refine Ops.v (Yv.move rfl) ?_
                  refine Ops.v (Yv.add rfl rfl (by omega)) ?_
                  refine Ops.v (Yv.assign rfl) ?_
                  refine Ops.nil ?_
                  refine ⟨k + 1, _, ⟨hs88, rfl, by omega⟩, Sub.le ⟨rfl, rfl, rfl, rfl, rfl, rfl, rfl, rfl, rfl, rfl, lookI rfl (by omega), rfl, rfl, trivial⟩, by omega⟩
              · -- no
                refine run_skip ?_
                refine k67 _ _ ?_
                refine run_seq fun K91 k91 => ?_
                refine Run.cut (fun e_ w_ => (w59.drew) = w_ ∧ Le [(0, .agg #[.int .i64 a, .int .i64 b]), (1, .slice A m c), (2, .agg #[.bool up, .bool co, .int .i64 lv0, .int .i64 sh0]), (3, .pointer (some ⟨b2, 0, none⟩)), (5, .pointer (some ⟨b5, 0, none⟩)), (7, .pointer (some ⟨b16, 0, none⟩)), (8, .int .i64 sz), (9, .int .i64 lv), (10, .pointer (some ⟨b47, 0, none⟩)), (11, .int .i64 0), (12, .int .i64 (k : Int)), (13, .int .i64 ((k : Int) % W)), (14, .int .i64 W), (15, .bool (decide ((((((k : Int) % W) % sz) < (6 : Int)) ∧ (sz ≤ ((k : Int) % W))) ∨ (((sz - 6) ≤ (((k : Int) % W) % sz)) ∧ ((((((k : Int) % W) / sz) * sz) + sz) < W))))), (17, .bool false), (72, .bool (decide (((W * H).toNat : Int) ≠ ((W * H).toNat : Int)))), (77, .bool (decide ((k : Int) < ((W * H).toNat : Int)))), (88, .bool (!up))] e_) ?_ ?_
                · -- region 16: its ways meet again
                  refine run_region ?_
                  refine Ops.v (Yv.move rfl) ?_
                  refine Ops.v (Yv.move rfl) ?_
                  refine Ops.v (Yv.rem rfl rfl (by omega) (by omega)) ?_
                  refine Ops.v (Yv.lt rfl rfl) ?_
                  refine Ops.dec (fun h92 => ?_) (fun h92 => ?_)
                  · -- yes
                    refine Ops.v (Yv.move rfl) ?_
                    refine Ops.vg ⟨_, rfl, rfl⟩ (Yv.move rfl) ?_
                    refine Ops.vg ⟨_, rfl, rfl⟩ (Yv.move rfl) ?_
                    refine Ops.vg ⟨_, rfl, rfl⟩ (Yv.ge rfl rfl) ?_
                    refine Ops.dec (fun h93 => ?_) (fun h93 => ?_)
                    · -- yes
                      refine Ops.v (Yv.pick1 rfl rfl) ?_
                      refine Ops.v (Yv.move rfl) ?_
                      refine Ops.skip ⟨_, rfl, rfl⟩ ?_
                      refine Ops.skip ⟨_, rfl, rfl⟩ ?_
                      refine Ops.skip ⟨_, rfl, rfl⟩ ?_
                      refine Ops.skip ⟨_, rfl, rfl⟩ ?_
                      refine Ops.skip ⟨_, rfl, rfl⟩ ?_
                      refine Ops.skip ⟨_, rfl, rfl⟩ ?_
                      refine Ops.skip ⟨_, rfl, rfl⟩ ?_
                      refine Ops.skip ⟨_, rfl, rfl⟩ ?_
                      refine Ops.skip ⟨_, rfl, rfl⟩ ?_
                      refine Ops.skip ⟨_, rfl, rfl⟩ ?_
                      refine Ops.skip ⟨_, rfl, rfl⟩ ?_
                      refine Ops.skip ⟨_, rfl, rfl⟩ ?_
                      refine Ops.skip ⟨_, rfl, rfl⟩ ?_
                      refine Ops.skip ⟨_, rfl, rfl⟩ ?_
                      refine Ops.skip ⟨_, rfl, rfl⟩ ?_
                      refine Ops.skip ⟨_, rfl, rfl⟩ ?_
                      refine Ops.skip ⟨_, rfl, rfl⟩ ?_
                      refine Ops.v (Yv.pick1 rfl rfl) ?_
                      refine Ops.v (Yv.assign rfl) ?_
                      refine Ops.nil ?_
                      refine ⟨rfl, Sub.le ⟨rfl, rfl, rfl, rfl, rfl, rfl, rfl, rfl, rfl, rfl, rfl, rfl, rfl, lookB rfl (by first | (simp only [h92, h93, not_true_eq_false, not_false_eq_true, or_true, true_or, or_false, false_or, and_true, true_and, and_false, false_and, decide_true, decide_false, or_self, and_self, Bool.decide_eq_true]; done) | simp [h92, h93]), rfl, rfl, rfl, rfl, trivial⟩⟩
                    · -- no
                      refine Ops.v (Yv.pick1 rfl rfl) ?_
                      refine Ops.v (Yv.move rfl) ?_
                      refine Ops.vg ⟨_, rfl, rfl⟩ (Yv.move rfl) ?_
                      refine Ops.vg ⟨_, rfl, rfl⟩ (Yv.move rfl) ?_
                      refine Ops.vg ⟨_, rfl, rfl⟩ (Yv.rem rfl rfl (by omega) (by omega)) ?_
                      refine Ops.vg ⟨_, rfl, rfl⟩ (Yv.move rfl) ?_
                      refine Ops.vg ⟨_, rfl, rfl⟩ (Yv.sub rfl rfl (by omega)) ?_
                      refine Ops.vg ⟨_, rfl, rfl⟩ (Yv.ge rfl rfl) ?_
                      refine Ops.dec (fun h94 => ?_) (fun h94 => ?_)
                      · -- yes
                        refine Ops.vg ⟨_, rfl, rfl⟩ (Yv.move rfl) ?_
                        refine Ops.vg ⟨_, rfl, rfl⟩ (Yv.move rfl) ?_
                        refine Ops.vg ⟨_, rfl, rfl⟩ (Yv.move rfl) ?_
                        have hdz := div_bd (a := ((k : Int) % W)) (b := sz) (by omega) (by omega)
                        refine Ops.vg ⟨_, rfl, rfl⟩ (Yv.quo rfl rfl (by omega) (by omega) (by omega)) ?_
                        refine Ops.vg ⟨_, rfl, rfl⟩ (Yv.move rfl) ?_
                        have hdm := mul_bd (a := ((k : Int) % W) / sz) (b := sz) (x := 64) (y := 64) (by omega) (by omega) (by omega) (by omega)
                        refine Ops.vg ⟨_, rfl, rfl⟩ (Yv.mul rfl rfl (by omega)) ?_
                        refine Ops.vg ⟨_, rfl, rfl⟩ (Yv.move rfl) ?_
                        refine Ops.vg ⟨_, rfl, rfl⟩ (Yv.add rfl rfl (by omega)) ?_
                        refine Ops.vg ⟨_, rfl, rfl⟩ (Yv.move rfl) ?_
                        refine Ops.vg ⟨_, rfl, rfl⟩ (Yv.lt rfl rfl) ?_
                        refine Ops.vg ⟨_, rfl, rfl⟩ (Yv.pick1 rfl rfl) ?_
                        refine Ops.v (Yv.pick0 rfl rfl) ?_
                        refine Ops.v (Yv.assign rfl) ?_
                        refine Ops.nil ?_
                        refine ⟨rfl, Sub.le ⟨rfl, rfl, rfl, rfl, rfl, rfl, rfl, rfl, rfl, rfl, rfl, rfl, rfl, lookB rfl (by first | (simp only [h92, h93, h94, not_true_eq_false, not_false_eq_true, or_true, true_or, or_false, false_or, and_true, true_and, and_false, false_and, decide_true, decide_false, or_self, and_self, Bool.decide_eq_true]; done) | simp [h92, h93, h94]), rfl, rfl, rfl, rfl, trivial⟩⟩
                      · -- no
                        refine Ops.vg ⟨_, rfl, rfl⟩ (Yv.move rfl) ?_
                        refine Ops.skip ⟨_, rfl, rfl⟩ ?_
                        refine Ops.skip ⟨_, rfl, rfl⟩ ?_
                        refine Ops.skip ⟨_, rfl, rfl⟩ ?_
                        refine Ops.skip ⟨_, rfl, rfl⟩ ?_
                        refine Ops.skip ⟨_, rfl, rfl⟩ ?_
                        refine Ops.skip ⟨_, rfl, rfl⟩ ?_
                        refine Ops.skip ⟨_, rfl, rfl⟩ ?_
                        refine Ops.skip ⟨_, rfl, rfl⟩ ?_
                        refine Ops.skip ⟨_, rfl, rfl⟩ ?_
                        refine Ops.vg ⟨_, rfl, rfl⟩ (Yv.pick0 rfl rfl) ?_
                        refine Ops.v (Yv.pick0 rfl rfl) ?_
                        refine Ops.v (Yv.assign rfl) ?_
                        refine Ops.nil ?_
                        refine ⟨rfl, Sub.le ⟨rfl, rfl, rfl, rfl, rfl, rfl, rfl, rfl, rfl, rfl, rfl, rfl, rfl, lookB rfl (by first | (simp only [h92, h93, h94, not_true_eq_false, not_false_eq_true, or_true, true_or, or_false, false_or, and_true, true_and, and_false, false_and, decide_true, decide_false, or_self, and_self, Bool.decide_eq_true]; done) | simp [h92, h93, h94]), rfl, rfl, rfl, rfl, trivial⟩⟩
                  · -- no
                    refine Ops.v (Yv.move rfl) ?_
                    refine Ops.skip ⟨_, rfl, rfl⟩ ?_
                    refine Ops.skip ⟨_, rfl, rfl⟩ ?_
                    refine Ops.skip ⟨_, rfl, rfl⟩ ?_
                    refine Ops.v (Yv.pick0 rfl rfl) ?_
                    refine Ops.v (Yv.move rfl) ?_
                    refine Ops.vg ⟨_, rfl, rfl⟩ (Yv.move rfl) ?_
                    refine Ops.vg ⟨_, rfl, rfl⟩ (Yv.move rfl) ?_
                    refine Ops.vg ⟨_, rfl, rfl⟩ (Yv.rem rfl rfl (by omega) (by omega)) ?_
                    refine Ops.vg ⟨_, rfl, rfl⟩ (Yv.move rfl) ?_
                    refine Ops.vg ⟨_, rfl, rfl⟩ (Yv.sub rfl rfl (by omega)) ?_
                    refine Ops.vg ⟨_, rfl, rfl⟩ (Yv.ge rfl rfl) ?_
                    refine Ops.dec (fun h95 => ?_) (fun h95 => ?_)
                    · -- yes
                      refine Ops.vg ⟨_, rfl, rfl⟩ (Yv.move rfl) ?_
                      refine Ops.vg ⟨_, rfl, rfl⟩ (Yv.move rfl) ?_
                      refine Ops.vg ⟨_, rfl, rfl⟩ (Yv.move rfl) ?_
                      have hdz := div_bd (a := ((k : Int) % W)) (b := sz) (by omega) (by omega)
                      refine Ops.vg ⟨_, rfl, rfl⟩ (Yv.quo rfl rfl (by omega) (by omega) (by omega)) ?_
                      refine Ops.vg ⟨_, rfl, rfl⟩ (Yv.move rfl) ?_
                      have hdm := mul_bd (a := ((k : Int) % W) / sz) (b := sz) (x := 64) (y := 64) (by omega) (by omega) (by omega) (by omega)
                      refine Ops.vg ⟨_, rfl, rfl⟩ (Yv.mul rfl rfl (by omega)) ?_
                      refine Ops.vg ⟨_, rfl, rfl⟩ (Yv.move rfl) ?_
                      refine Ops.vg ⟨_, rfl, rfl⟩ (Yv.add rfl rfl (by omega)) ?_
                      refine Ops.vg ⟨_, rfl, rfl⟩ (Yv.move rfl) ?_
                      refine Ops.vg ⟨_, rfl, rfl⟩ (Yv.lt rfl rfl) ?_
                      refine Ops.vg ⟨_, rfl, rfl⟩ (Yv.pick1 rfl rfl) ?_
                      refine Ops.v (Yv.pick0 rfl rfl) ?_
                      refine Ops.v (Yv.assign rfl) ?_
                      refine Ops.nil ?_
                      refine ⟨rfl, Sub.le ⟨rfl, rfl, rfl, rfl, rfl, rfl, rfl, rfl, rfl, rfl, rfl, rfl, rfl, lookB rfl (by first | (simp only [h92, h95, not_true_eq_false, not_false_eq_true, or_true, true_or, or_false, false_or, and_true, true_and, and_false, false_and, decide_true, decide_false, or_self, and_self, Bool.decide_eq_true]; done) | simp [h92, h95]), rfl, rfl, rfl, rfl, trivial⟩⟩
                    · -- no
                      refine Ops.vg ⟨_, rfl, rfl⟩ (Yv.move rfl) ?_
                      refine Ops.skip ⟨_, rfl, rfl⟩ ?_
                      refine Ops.skip ⟨_, rfl, rfl⟩ ?_
                      refine Ops.skip ⟨_, rfl, rfl⟩ ?_
                      refine Ops.skip ⟨_, rfl, rfl⟩ ?_
                      refine Ops.skip ⟨_, rfl, rfl⟩ ?_
                      refine Ops.skip ⟨_, rfl, rfl⟩ ?_
                      refine Ops.skip ⟨_, rfl, rfl⟩ ?_
                      refine Ops.skip ⟨_, rfl, rfl⟩ ?_
                      refine Ops.skip ⟨_, rfl, rfl⟩ ?_
                      refine Ops.vg ⟨_, rfl, rfl⟩ (Yv.pick0 rfl rfl) ?_
                      refine Ops.v (Yv.pick0 rfl rfl) ?_
                      refine Ops.v (Yv.assign rfl) ?_
                      refine Ops.nil ?_
                      refine ⟨rfl, Sub.le ⟨rfl, rfl, rfl, rfl, rfl, rfl, rfl, rfl, rfl, rfl, rfl, rfl, rfl, lookB rfl (by first | (simp only [h92, h95, not_true_eq_false, not_false_eq_true, or_true, true_or, or_false, false_or, and_true, true_and, and_false, false_and, decide_true, decide_false, or_self, and_self, Bool.decide_eq_true]; done) | simp [h92, h95]), rfl, rfl, rfl, rfl, trivial⟩⟩
                rintro e96 _ ⟨rfl, he96⟩
                refine k91 _ _ ?_
                refine Run.le he96 ?_
                refine run_seq fun K97 k97 => ?_
                refine Run.cut (fun e_ w_ => HS w [.blk b47 [.int .i64 W, .int .i64 H, .slice Ad42 ((W * H).toNat) c43] 28, .row Ad42 ((W * H).toNat) c43 (u8s (passF up co W H (W / 4) (List.replicate ((H / 4).toNat * (W / 4).toNat) sz) (idsTo (W / 4).toNat (sz / 4) ((H / 4).toNat * (W / 4).toNat)) (List.replicate ((H / 4).toNat * (W / 4).toNat) false) lv (bringF sh0 8) (fitTo xs (W * H).toNat))) 5 1, .row Ad29 ((H / 4).toNat * (W / 4).toNat) c32 (u8s (List.replicate ((H / 4).toNat * (W / 4).toNat) sz)) 5 1, .row Ad30 ((H / 4).toNat * (W / 4).toNat) c33 (i64s (idsTo (W / 4).toNat (sz / 4) ((H / 4).toNat * (W / 4).toNat))) 3 1, .row Ad31 ((H / 4).toNat * (W / 4).toNat) c34 (bools (List.replicate ((H / 4).toNat * (W / 4).toNat) false)) 4 1, .blk b16 [.int .i64 W, .int .i64 H, .slice Ad12 ((W * H).toNat) c13] 28, .row Ad12 ((W * H).toNat) c13 (u8s (fitTo xs (W * H).toNat)) 5 1, .blk b5 [.bool up, .bool co, .int .i64 lv0, .int .i64 sh0] 25, .blk b2 [.int .i64 a, .int .i64 b] 22] w_ ∧ Le [(0, .agg #[.int .i64 a, .int .i64 b]), (1, .slice A m c), (2, .agg #[.bool up, .bool co, .int .i64 lv0, .int .i64 sh0]), (3, .pointer (some ⟨b2, 0, none⟩)), (5, .pointer (some ⟨b5, 0, none⟩)), (7, .pointer (some ⟨b16, 0, none⟩)), (8, .int .i64 sz), (9, .int .i64 lv), (10, .pointer (some ⟨b47, 0, none⟩)), (11, .int .i64 0), (12, .int .i64 (k : Int)), (13, .int .i64 ((k : Int) % W)), (14, .int .i64 W), (15, .bool (decide ((((((k : Int) % W) % sz) < (6 : Int)) ∧ (sz ≤ ((k : Int) % W))) ∨ (((sz - 6) ≤ (((k : Int) % W) % sz)) ∧ ((((((k : Int) % W) / sz) * sz) + sz) < W))))), (17, .bool false), (72, .bool (decide (((W * H).toNat : Int) ≠ ((W * H).toNat : Int)))), (77, .bool (decide ((k : Int) < ((W * H).toNat : Int)))), (88, .bool (!up)), (141, .bool (decide (((¬ ((((((k : Int) % W) % sz) < (6 : Int)) ∧ (sz ≤ ((k : Int) % W))) ∨ (((sz - 6) ≤ (((k : Int) % W) % sz)) ∧ ((((((k : Int) % W) / sz) * sz) + sz) < W)))) ∨ (lv = (0 : Int))) ∧ ((gi (passF up co W H (W / 4) (List.replicate ((H / 4).toNat * (W / 4).toNat) sz) (idsTo (W / 4).toNat (sz / 4) ((H / 4).toNat * (W / 4).toNat)) (List.replicate ((H / 4).toNat * (W / 4).toNat) false) lv (bringF sh0 8) (fitTo xs (W * H).toNat)) (k : Int)) ≠ (gi (fitTo xs (W * H).toNat) (k : Int))))))] e_) ?_ ?_
                · -- region 17: its ways meet again
                  refine run_drawn [] (fun x => Below ((w59.drew).drew).heap.size ((w59.drew).drew) x) ?_ Tf.mixed (by kernel_rfl) (fun _ _ _ h => h)
                  have hs98 := hs65.drew
                  have hS99 := Below.refl ((w59.drew).drew).heap.size ((w59.drew).drew)
                  refine Drw.a 0 rfl (by kernel_rfl) (Yv.move rfl) ?_
                  refine Drw.dec (fun h100 => ?_) (fun h100 => ?_)
                  · -- yes
                    refine Drw.a 1 rfl (by kernel_rfl) (Yv.not rfl) ?_
                    refine Drw.a 2 rfl (by kernel_rfl) (Yv.move rfl) ?_
                    refine Drw.a 3 rfl (by kernel_rfl) (Yv.move rfl) ?_ ⟨_, rfl, rfl⟩
                    refine Drw.a 4 rfl (by kernel_rfl) (Yv.eq rfl rfl) ?_ ⟨_, rfl, rfl⟩
                    refine Drw.dec (fun h101 => ?_) (fun h101 => ?_)
                    · -- yes
                      refine Drw.a 5 rfl (by kernel_rfl) (Yv.pick0 rfl rfl) ?_
                      refine Drw.a 6 rfl (by kernel_rfl) (Yv.move rfl) ?_
                      refine Drw.a 7 rfl (by kernel_rfl) (Yv.fld F28_2 rfl) ?_ ⟨_, rfl, rfl⟩
                      refine Drw.l 8 rfl (by kernel_rfl) hS99 (Yv.load A23 rfl (fun _ hq_ => ((hs98.grow hq_).cell 0 rfl 2 rfl))) ?_ ⟨_, rfl, rfl⟩
                      refine Drw.a 9 rfl (by kernel_rfl) (Yv.move rfl) ?_ ⟨_, rfl, rfl⟩
                      refine Drw.a 10 rfl (by kernel_rfl) (Yv.idx L23 rfl rfl ((hs98.rdRow 1 rfl).isSome (i := (k : Int)) (by omega) (by omega)) (by omega) (by omega)) ?_ ⟨_, rfl, rfl⟩
                      refine Drw.l 11 rfl (by kernel_rfl) hS99 (Yv.load A5 rfl (fun _ hq_ => (((hs98.grow hq_).rdRow 1 rfl).u8 (by omega) (by omega)))) ?_ ⟨_, rfl, rfl⟩
                      have g102 := gi_bytes (xs := passF up co W H (W / 4) (List.replicate ((H / 4).toNat * (W / 4).toNat) sz) (idsTo (W / 4).toNat (sz / 4) ((H / 4).toNat * (W / 4).toNat)) (List.replicate ((H / 4).toNat * (W / 4).toNat) false) lv (bringF sh0 8) (fitTo xs (W * H).toNat)) (passF_bytes _ _ _ _ _ _ _ _ _ _ (fitTo_bytes hx _)) (k : Int)
                      refine Drw.a 12 rfl (by kernel_rfl) (Yv.fld F28_2 rfl) ?_ ⟨_, rfl, rfl⟩
                      refine Drw.l 13 rfl (by kernel_rfl) hS99 (Yv.load A23 rfl (fun _ hq_ => ((hs98.grow hq_).cell 5 rfl 2 rfl))) ?_ ⟨_, rfl, rfl⟩
                      refine Drw.a 14 rfl (by kernel_rfl) (Yv.move rfl) ?_ ⟨_, rfl, rfl⟩
                      refine Drw.a 15 rfl (by kernel_rfl) (Yv.idx L23 rfl rfl ((hs98.rdRow 6 rfl).isSome (i := (k : Int)) (by omega) (by omega)) (by omega) (by omega)) ?_ ⟨_, rfl, rfl⟩
                      refine Drw.l 16 rfl (by kernel_rfl) hS99 (Yv.load A5 rfl (fun _ hq_ => (((hs98.grow hq_).rdRow 6 rfl).u8 (by omega) (by omega)))) ?_ ⟨_, rfl, rfl⟩
                      have g103 := gi_bytes (xs := fitTo xs (W * H).toNat) (fitTo_bytes hx _) (k : Int)
                      refine Drw.a 17 rfl (by kernel_rfl) (Yv.ne rfl rfl) ?_ ⟨_, rfl, rfl⟩
                      refine Drw.a 18 rfl (by kernel_rfl) (Yv.pick1 rfl rfl) ?_
                      refine Drw.done ?_ (by kernel_rfl)
                      refine ⟨hs98, Sub.le ⟨rfl, rfl, rfl, rfl, rfl, rfl, rfl, rfl, rfl, rfl, rfl, rfl, rfl, rfl, rfl, rfl, rfl, rfl, lookB rfl (by first | (simp only [h100, h101, not_true_eq_false, not_false_eq_true, or_true, true_or, or_false, false_or, and_true, true_and, and_false, false_and, decide_true, decide_false, or_self, and_self, Bool.decide_eq_true]; done) | simp [h100, h101]), trivial⟩⟩
                    · -- no
                      refine Drw.a 5 rfl (by kernel_rfl) (Yv.pick0 rfl rfl) ?_
                      refine Drw.a 6 rfl (by kernel_rfl) (Yv.move rfl) ?_
                      refine Drw.no 7 rfl (by kernel_rfl) ?_ ⟨_, rfl, rfl⟩
                      refine Drw.no 8 rfl (by kernel_rfl) ?_ ⟨_, rfl, rfl⟩
                      refine Drw.no 9 rfl (by kernel_rfl) ?_ ⟨_, rfl, rfl⟩
                      refine Drw.no 10 rfl (by kernel_rfl) ?_ ⟨_, rfl, rfl⟩
                      refine Drw.no 11 rfl (by kernel_rfl) ?_ ⟨_, rfl, rfl⟩
                      refine Drw.no 12 rfl (by kernel_rfl) ?_ ⟨_, rfl, rfl⟩
                      refine Drw.no 13 rfl (by kernel_rfl) ?_ ⟨_, rfl, rfl⟩
                      refine Drw.no 14 rfl (by kernel_rfl) ?_ ⟨_, rfl, rfl⟩
                      refine Drw.no 15 rfl (by kernel_rfl) ?_ ⟨_, rfl, rfl⟩
                      refine Drw.no 16 rfl (by kernel_rfl) ?_ ⟨_, rfl, rfl⟩
                      refine Drw.no 17 rfl (by kernel_rfl) ?_ ⟨_, rfl, rfl⟩
                      refine Drw.a 18 rfl (by kernel_rfl) (Yv.pick0 rfl rfl) ?_
                      refine Drw.done ?_ (by kernel_rfl)
                      refine ⟨hs98, Sub.le ⟨rfl, rfl, rfl, rfl, rfl, rfl, rfl, rfl, rfl, rfl, rfl, rfl, rfl, rfl, rfl, rfl, rfl, rfl, lookB rfl (by first | (simp only [h100, h101, not_true_eq_false, not_false_eq_true, or_true, true_or, or_false, false_or, and_true, true_and, and_false, false_and, decide_true, decide_false, or_self, and_self, Bool.decide_eq_true]; done) | simp [h100, h101]), trivial⟩⟩
                  · -- no
                    refine Drw.a 1 rfl (by kernel_rfl) (Yv.not rfl) ?_
                    refine Drw.a 2 rfl (by kernel_rfl) (Yv.move rfl) ?_
                    refine Drw.no 3 rfl (by kernel_rfl) ?_ ⟨_, rfl, rfl⟩
                    refine Drw.no 4 rfl (by kernel_rfl) ?_ ⟨_, rfl, rfl⟩
                    refine Drw.a 5 rfl (by kernel_rfl) (Yv.pick1 rfl rfl) ?_
                    refine Drw.a 6 rfl (by kernel_rfl) (Yv.move rfl) ?_
                    refine Drw.a 7 rfl (by kernel_rfl) (Yv.fld F28_2 rfl) ?_ ⟨_, rfl, rfl⟩
                    refine Drw.l 8 rfl (by kernel_rfl) hS99 (Yv.load A23 rfl (fun _ hq_ => ((hs98.grow hq_).cell 0 rfl 2 rfl))) ?_ ⟨_, rfl, rfl⟩
                    refine Drw.a 9 rfl (by kernel_rfl) (Yv.move rfl) ?_ ⟨_, rfl, rfl⟩
                    refine Drw.a 10 rfl (by kernel_rfl) (Yv.idx L23 rfl rfl ((hs98.rdRow 1 rfl).isSome (i := (k : Int)) (by omega) (by omega)) (by omega) (by omega)) ?_ ⟨_, rfl, rfl⟩
                    refine Drw.l 11 rfl (by kernel_rfl) hS99 (Yv.load A5 rfl (fun _ hq_ => (((hs98.grow hq_).rdRow 1 rfl).u8 (by omega) (by omega)))) ?_ ⟨_, rfl, rfl⟩
                    have g104 := gi_bytes (xs := passF up co W H (W / 4) (List.replicate ((H / 4).toNat * (W / 4).toNat) sz) (idsTo (W / 4).toNat (sz / 4) ((H / 4).toNat * (W / 4).toNat)) (List.replicate ((H / 4).toNat * (W / 4).toNat) false) lv (bringF sh0 8) (fitTo xs (W * H).toNat)) (passF_bytes _ _ _ _ _ _ _ _ _ _ (fitTo_bytes hx _)) (k : Int)
                    refine Drw.a 12 rfl (by kernel_rfl) (Yv.fld F28_2 rfl) ?_ ⟨_, rfl, rfl⟩
                    refine Drw.l 13 rfl (by kernel_rfl) hS99 (Yv.load A23 rfl (fun _ hq_ => ((hs98.grow hq_).cell 5 rfl 2 rfl))) ?_ ⟨_, rfl, rfl⟩
                    refine Drw.a 14 rfl (by kernel_rfl) (Yv.move rfl) ?_ ⟨_, rfl, rfl⟩
                    refine Drw.a 15 rfl (by kernel_rfl) (Yv.idx L23 rfl rfl ((hs98.rdRow 6 rfl).isSome (i := (k : Int)) (by omega) (by omega)) (by omega) (by omega)) ?_ ⟨_, rfl, rfl⟩
                    refine Drw.l 16 rfl (by kernel_rfl) hS99 (Yv.load A5 rfl (fun _ hq_ => (((hs98.grow hq_).rdRow 6 rfl).u8 (by omega) (by omega)))) ?_ ⟨_, rfl, rfl⟩
                    have g105 := gi_bytes (xs := fitTo xs (W * H).toNat) (fitTo_bytes hx _) (k : Int)
                    refine Drw.a 17 rfl (by kernel_rfl) (Yv.ne rfl rfl) ?_ ⟨_, rfl, rfl⟩
                    refine Drw.a 18 rfl (by kernel_rfl) (Yv.pick1 rfl rfl) ?_
                    refine Drw.done ?_ (by kernel_rfl)
                    refine ⟨hs98, Sub.le ⟨rfl, rfl, rfl, rfl, rfl, rfl, rfl, rfl, rfl, rfl, rfl, rfl, rfl, rfl, rfl, rfl, rfl, rfl, lookB rfl (by first | (simp only [h100, not_true_eq_false, not_false_eq_true, or_true, true_or, or_false, false_or, and_true, true_and, and_false, false_and, decide_true, decide_false, or_self, and_self, Bool.decide_eq_true]; done) | simp [h100]), trivial⟩⟩
                rintro e108 w108 ⟨hs108, he108⟩
                refine k97 _ _ ?_
                refine Run.le he108 ?_
                refine run_ifp rfl (fun h109 => ?_) (fun h109 => ?_)
                · -- yes ((¬ ((((((k : Int) % W) % sz) < (6 : Int)) ∧ (sz ≤ ((k : Int) % W))) ∨ (((sz - 6) ≤ (((k : Int) % W) % sz)) ∧ ((((((k : Int) % W) / sz) * sz) + sz) < W)))) ∨ (lv = (0 : Int))) ∧ ((gi (passF up co W H (W / 4) (List.replicate ((H / 4).toNat * (W / 4).toNat) sz) (idsTo (W / 4).toNat (sz / 4) ((H / 4).toNat * (W / 4).toNat)) (List.replicate ((H / 4).toNat * (W / 4).toNat) false) lv (bringF sh0 8) (fitTo xs (W * H).toNat)) (k : Int)) ≠ (gi (fitTo xs (W * H).toNat) (k : Int)))
                  refine run_seq fun K110 k110 => ?_
                  refine run_region ?_
                  refine Ops.v (Yv.assign rfl) ?_
                  refine Ops.nil ?_
                  refine k110 _ _ ?_
                  refine run_ret ?_
                  refine ⟨[.bool false], ⟨_, _, rfl, rfl, rfl⟩, ?_⟩
                  have hup : up = true := by simpa using h69
                  subst hup
                  exact absurd (far_up (by omega) (by omega) (by omega) h109.1) h109.2
                · -- no
                  refine run_skip ?_
                  refine k63 _ _ ?_
                  refine run_region ?_
                  refine Ops.v (Yv.move rfl) ?_
                  refine Ops.v (Yv.add rfl rfl (by omega)) ?_
                  refine Ops.v (Yv.assign rfl) ?_
                  refine Ops.nil ?_
                  refine ⟨k + 1, _, ⟨hs108, rfl, by omega⟩, Sub.le ⟨rfl, rfl, rfl, rfl, rfl, rfl, rfl, rfl, rfl, rfl, lookI rfl (by omega), rfl, rfl, trivial⟩, by omega⟩
            · -- no
              refine run_exit ?_
              refine k57 _ _ ?_
              refine run_seq fun K111 k111 => ?_
              refine run_region ?_
              refine Ops.v (Yv.assign rfl) ?_
              refine Ops.nil ?_
              refine k111 _ _ ?_
              refine run_ret ?_
              refine ⟨[.bool true], ⟨_, _, rfl, rfl, rfl⟩, ?_⟩
              exact ⟨rfl, hs59.pick [] _ (by decide) rfl⟩
      · -- operation 17 first
        refine ⟨_, _, _, _, _, _, rfl, ?_⟩
        refine Step.alloc (cs := [.int .i64 0, .int .i64 0, .slice none 0 0]) hs38 Z28 rfl (fun b112 w113 hs113 hb113 => ?_) True.intro (by rfl)
        have hS115 := hS39.trans (hb113.mono (Nat.le_trans (Nat.le_refl _) hS39.size))
        refine ⟨fun _ _ => hS115, ?_⟩
        refine Drw.one 13 rfl (by kernel_rfl) (Step.call rfl rfl (pass_good (hs113.rdRow 5 rfl) (fitTo_bytes hx _) (hs113.rdRow 1 rfl) (Bytes.rep (by omega)) (hs113.rdRow 2 rfl) (hs113.rdRow 3 rfl) (good_cells (by omega) (by omega) (by omega) (by omega) (by omega))) (?_) True.intro (by rfl))
        rintro _ w119 ⟨Ad116, c117, rfl, hs119⟩
        have hS120 := HS.keepS hS115 (Nat.le_refl _) hs119
        refine ⟨fun _ _ => hS120, ?_⟩
        replace hs119 := hs113.call hs119
        refine Drw.a 14 rfl (by kernel_rfl) (Yv.move rfl) ?_
        refine Drw.a 15 rfl (by kernel_rfl) (Yv.extract rfl rfl) ?_
        refine Drw.a 16 rfl (by kernel_rfl) (Yv.extract rfl rfl) ?_
        refine Drw.one 18 rfl (by kernel_rfl) (Step.store (vs := [.int .i64 W, .int .i64 H, .slice Ad116 ((W * H).toNat) c117]) 1 hs119 rfl rfl rfl rfl S28 (Nat.le_of_ble_eq_true rfl) rfl (fun w121 hs121 => ?_) True.intro)
        refine ⟨fun h => absurd h (by decide), ?_⟩
        replace hs121 : HS _ [.row _ _ _ _ _ _, .blk _ [_, _, _] _, .row _ _ _ _ _ _, .row _ _ _ _ _ _, .row _ _ _ _ _ _, .blk _ [_, _, _] _, .row _ _ _ _ _ _, .blk _ [_, _, _, _] _, .blk _ [_, _] _] _ := hs121
        refine Drw.a 19 rfl (by kernel_rfl) (Yv.assign rfl) ?_
        refine Drw.done ?_ (by kernel_rfl)
        refine k26 _ _ ?_
        refine run_seq fun K122 k122 => ?_
        refine run_seq fun K123 k123 => ?_
        refine Run.cut (fun e_ w_ => w121 = w_ ∧ Le [(0, .agg #[.int .i64 a, .int .i64 b]), (1, .slice A m c), (2, .agg #[.bool up, .bool co, .int .i64 lv0, .int .i64 sh0]), (3, .pointer (some ⟨b2, 0, none⟩)), (5, .pointer (some ⟨b5, 0, none⟩)), (6, .bool false), (7, .pointer (some ⟨b16, 0, none⟩)), (8, .int .i64 sz), (9, .int .i64 lv), (10, .pointer (some ⟨b112, 0, none⟩)), (11, .int .i64 0), (17, .bool false), (72, .bool (decide (((W * H).toNat : Int) ≠ ((W * H).toNat : Int))))] e_) ?_ ?_
        · -- region 7: its ways meet again
          refine run_region ?_
          refine Ops.v (Yv.move rfl) ?_
          refine Ops.v (Yv.ne rfl rfl) ?_
          refine Ops.dec0 (fun h_ => h_ rfl) ?_
          refine Ops.v (Yv.move rfl) ?_
          refine Ops.vg ⟨_, rfl, rfl⟩ (Yv.fld F28_0 rfl) ?_
          refine Ops.vg ⟨_, rfl, rfl⟩ (Yv.load A3 rfl (now (hs121.cell 1 rfl 0 rfl))) ?_
          refine Ops.vg ⟨_, rfl, rfl⟩ (Yv.fld F28_0 rfl) ?_
          refine Ops.vg ⟨_, rfl, rfl⟩ (Yv.load A3 rfl (now (hs121.cell 5 rfl 0 rfl))) ?_
          refine Ops.vg ⟨_, rfl, rfl⟩ (Yv.ne rfl rfl) ?_
          refine Ops.dec0 (fun h_ => h_ rfl) ?_
          refine Ops.v (Yv.pick0 rfl rfl) ?_
          refine Ops.v (Yv.move rfl) ?_
          refine Ops.vg ⟨_, rfl, rfl⟩ (Yv.fld F28_1 rfl) ?_
          refine Ops.vg ⟨_, rfl, rfl⟩ (Yv.load A3 rfl (now (hs121.cell 1 rfl 1 rfl))) ?_
          refine Ops.vg ⟨_, rfl, rfl⟩ (Yv.fld F28_1 rfl) ?_
          refine Ops.vg ⟨_, rfl, rfl⟩ (Yv.load A3 rfl (now (hs121.cell 5 rfl 1 rfl))) ?_
          refine Ops.vg ⟨_, rfl, rfl⟩ (Yv.ne rfl rfl) ?_
          refine Ops.dec0 (fun h_ => h_ rfl) ?_
          refine Ops.v (Yv.pick0 rfl rfl) ?_
          refine Ops.v (Yv.move rfl) ?_
          refine Ops.vg ⟨_, rfl, rfl⟩ (Yv.fld F28_2 rfl) ?_
          refine Ops.vg ⟨_, rfl, rfl⟩ (Yv.load A23 rfl (now (hs121.cell 1 rfl 2 rfl))) ?_
          refine Ops.vg ⟨_, rfl, rfl⟩ (Yv.len (by rw [L23]; rfl) rfl) ?_
          refine Ops.vg ⟨_, rfl, rfl⟩ (Yv.fld F28_2 rfl) ?_
          refine Ops.vg ⟨_, rfl, rfl⟩ (Yv.load A23 rfl (now (hs121.cell 5 rfl 2 rfl))) ?_
          refine Ops.vg ⟨_, rfl, rfl⟩ (Yv.len (by rw [L23]; rfl) rfl) ?_
          refine Ops.vg ⟨_, rfl, rfl⟩ (Yv.ne rfl rfl) ?_
          refine Ops.v (Yv.pick0 rfl rfl) ?_
          refine Ops.nil ?_
          refine ⟨rfl, Sub.le ⟨rfl, rfl, rfl, rfl, rfl, rfl, rfl, rfl, rfl, rfl, rfl, rfl, rfl, trivial⟩⟩
        rintro e124 _ ⟨rfl, he124⟩
        refine k123 _ _ ?_
        refine Run.le he124 ?_
        refine run_ifp rfl (fun h125 => ?_) (fun h125 => ?_)
        · -- yes ((W * H).toNat : Int) ≠ ((W * H).toNat : Int)
          refine run_seq fun K126 k126 => ?_
          refine run_region ?_
          refine Ops.v (Yv.assign rfl) ?_
          refine Ops.nil ?_
          refine k126 _ _ ?_
          refine run_ret ?_
          refine ⟨[.bool false], ⟨_, _, rfl, rfl, rfl⟩, ?_⟩
          exact absurd rfl h125
        · -- no
          refine run_skip ?_
          refine k122 _ _ ?_
          refine run_seq fun K127 k127 => ?_
          refine run_seq fun K128 k128 => ?_
          refine run_region ?_
          refine Ops.v (Yv.assign rfl) ?_
          refine Ops.nil ?_
          refine k128 _ _ ?_
          refine run_block ?_
          have hWH := mul_bd (a := W) (b := H) (x := 64) (y := 64) (by omega) (by omega) (by omega) (by omega)
          refine Run.sub [(0, _), (1, _), (2, _), (3, _), (5, _), (7, _), (8, _), (9, _), (10, _), (11, _), (12, _), (17, _), (72, _)] ⟨rfl, rfl, rfl, rfl, rfl, rfl, rfl, rfl, rfl, rfl, rfl, rfl, rfl, trivial⟩ ?_
          refine run_loop (σ := Nat) (fun k e_ w_ => HS w [.row Ad116 ((W * H).toNat) c117 (u8s (passF up co W H (W / 4) (List.replicate ((H / 4).toNat * (W / 4).toNat) sz) (idsTo (W / 4).toNat (sz / 4) ((H / 4).toNat * (W / 4).toNat)) (List.replicate ((H / 4).toNat * (W / 4).toNat) false) lv (bringF sh0 8) (fitTo xs (W * H).toNat))) 5 1, .blk b112 [.int .i64 W, .int .i64 H, .slice Ad116 ((W * H).toNat) c117] 28, .row Ad29 ((H / 4).toNat * (W / 4).toNat) c32 (u8s (List.replicate ((H / 4).toNat * (W / 4).toNat) sz)) 5 1, .row Ad30 ((H / 4).toNat * (W / 4).toNat) c33 (i64s (idsTo (W / 4).toNat (sz / 4) ((H / 4).toNat * (W / 4).toNat))) 3 1, .row Ad31 ((H / 4).toNat * (W / 4).toNat) c34 (bools (List.replicate ((H / 4).toNat * (W / 4).toNat) false)) 4 1, .blk b16 [.int .i64 W, .int .i64 H, .slice Ad12 ((W * H).toNat) c13] 28, .row Ad12 ((W * H).toNat) c13 (u8s (fitTo xs (W * H).toNat)) 5 1, .blk b5 [.bool up, .bool co, .int .i64 lv0, .int .i64 sh0] 25, .blk b2 [.int .i64 a, .int .i64 b] 22] w_ ∧ e_ = [(0, .agg #[.int .i64 a, .int .i64 b]), (1, .slice A m c), (2, .agg #[.bool up, .bool co, .int .i64 lv0, .int .i64 sh0]), (3, .pointer (some ⟨b2, 0, none⟩)), (5, .pointer (some ⟨b5, 0, none⟩)), (7, .pointer (some ⟨b16, 0, none⟩)), (8, .int .i64 sz), (9, .int .i64 lv), (10, .pointer (some ⟨b112, 0, none⟩)), (11, .int .i64 0), (12, .int .i64 (k : Int)), (17, .bool false), (72, .bool (decide (((W * H).toNat : Int) ≠ ((W * H).toNat : Int))))] ∧ k ≤ (W * H).toNat)
            (fun k => (W * H).toNat - k) 0 ?_ ?_
          · -- at the start
            refine ⟨hs121, rfl, by omega⟩
          · -- a round
            rintro k _ w129 ⟨hs129, rfl, f1⟩
            refine run_seq fun K130 k130 => ?_
            refine run_seq fun K131 k131 => ?_
            refine run_region ?_
            refine Ops.v (Yv.move rfl) ?_
            refine Ops.v (Yv.fld F28_2 rfl) ?_
            refine Ops.v (Yv.load A23 rfl (now (hs129.cell 5 rfl 2 rfl))) ?_
            refine Ops.v (Yv.len (by rw [L23]; rfl) rfl) ?_
            refine Ops.v (Yv.lt rfl rfl) ?_
            refine Ops.nil ?_
            refine k131 _ _ ?_
            refine run_ifp rfl (fun h132 => ?_) (fun h132 => ?_)
            · -- yes (k : Int) < ((W * H).toNat : Int)
              have hk1 : (k : Int) < W * H := by omega
              have hkm : 0 ≤ (k : Int) % W ∧ (k : Int) % W < W := ⟨Int.emod_nonneg _ (by omega), Int.emod_lt_of_pos _ (by omega)⟩
              have hkd : 0 ≤ (k : Int) / W ∧ (k : Int) / W < H := ⟨Int.ediv_nonneg (by omega) (by omega), Int.ediv_lt_of_lt_mul (by omega) (by rw [Int.mul_comm]; omega)⟩
              refine run_skip ?_
              refine k130 _ _ ?_
              refine run_seq fun K133 k133 => ?_
              refine run_block ?_
              refine run_seq fun K134 k134 => ?_
              refine run_drawn [] (fun x => Below (w129.drew).heap.size (w129.drew) x) ?_ Tf.mixed (by kernel_rfl) (fun _ _ _ h => h)
              have hs135 := hs129.drew
              have hS136 := Below.refl (w129.drew).heap.size (w129.drew)
              refine Drw.a 0 rfl (by kernel_rfl) (Yv.move rfl) ?_
              refine Drw.a 1 rfl (by kernel_rfl) (Yv.fld F28_0 rfl) ?_
              refine Drw.l 2 rfl (by kernel_rfl) hS136 (Yv.load A3 rfl (fun _ hq_ => ((hs135.grow hq_).cell 5 rfl 0 rfl))) ?_
              refine Drw.a 3 rfl (by kernel_rfl) (Yv.rem rfl rfl (by omega) (by omega)) ?_
              refine Drw.a 4 rfl (by kernel_rfl) (Yv.fld F28_0 rfl) ?_
              refine Drw.l 5 rfl (by kernel_rfl) hS136 (Yv.load A3 rfl (fun _ hq_ => ((hs135.grow hq_).cell 5 rfl 0 rfl))) ?_
              refine Drw.a 6 rfl (by kernel_rfl) (Yv.assign rfl) ?_
              refine Drw.a 7 rfl (by kernel_rfl) (Yv.assign rfl) ?_
              refine Drw.done ?_ (by kernel_rfl)
              refine k134 _ _ ?_
              refine run_seq fun K137 k137 => ?_
              refine run_seq fun K138 k138 => ?_
              refine run_region ?_
              refine Ops.v (Yv.fld F25_0 rfl) ?_
              refine Ops.v (Yv.load A4 rfl (now (hs135.cell 7 rfl 0 rfl))) ?_
              refine Ops.v (Yv.not rfl) ?_
              refine Ops.nil ?_
              refine k138 _ _ ?_
              refine run_if rfl (fun h139 => ?_) (fun h139 => ?_)
              · -- yes !up
                refine run_seq fun K140 k140 => ?_
                refine run_region ?_
                refine Ops.v (Yv.move rfl) ?_
                refine Ops.v (Yv.fld F28_0 rfl) ?_
                refine Ops.v (Yv.load A3 rfl (now (hs135.cell 5 rfl 0 rfl))) ?_
                refine Ops.v (Yv.quo rfl rfl (by omega) (by omega) (by omega)) ?_
                refine Ops.v (Yv.assign rfl) ?_
                refine Ops.nil ?_
                refine k140 _ _ ?_
                refine run_region ?_
                refine Ops.v (Yv.fld F28_1 rfl) ?_
                refine Ops.v (Yv.load A3 rfl (now (hs135.cell 5 rfl 1 rfl))) ?_
                refine Ops.v (Yv.assign rfl) ?_
                refine Ops.nil ?_
                refine k137 _ _ ?_
                refine run_seq fun K141 k141 => ?_
                refine Run.cut (fun e_ w_ => (w129.drew) = w_ ∧ Le [(0, .agg #[.int .i64 a, .int .i64 b]), (1, .slice A m c), (2, .agg #[.bool up, .bool co, .int .i64 lv0, .int .i64 sh0]), (3, .pointer (some ⟨b2, 0, none⟩)), (5, .pointer (some ⟨b5, 0, none⟩)), (7, .pointer (some ⟨b16, 0, none⟩)), (8, .int .i64 sz), (9, .int .i64 lv), (10, .pointer (some ⟨b112, 0, none⟩)), (11, .int .i64 0), (12, .int .i64 (k : Int)), (13, .int .i64 ((k : Int) / W)), (14, .int .i64 H), (15, .bool (decide ((((((k : Int) / W) % sz) < (6 : Int)) ∧ (sz ≤ ((k : Int) / W))) ∨ (((sz - 6) ≤ (((k : Int) / W) % sz)) ∧ ((((((k : Int) / W) / sz) * sz) + sz) < H))))), (17, .bool false), (72, .bool (decide (((W * H).toNat : Int) ≠ ((W * H).toNat : Int)))), (77, .bool (decide ((k : Int) < ((W * H).toNat : Int)))), (88, .bool (!up))] e_) ?_ ?_
                · -- region 16: its ways meet again
                  refine run_region ?_
                  refine Ops.v (Yv.move rfl) ?_
                  refine Ops.v (Yv.move rfl) ?_
                  refine Ops.v (Yv.rem rfl rfl (by omega) (by omega)) ?_
                  refine Ops.v (Yv.lt rfl rfl) ?_
                  refine Ops.dec (fun h142 => ?_) (fun h142 => ?_)
                  · -- yes
                    refine Ops.v (Yv.move rfl) ?_
                    refine Ops.vg ⟨_, rfl, rfl⟩ (Yv.move rfl) ?_
                    refine Ops.vg ⟨_, rfl, rfl⟩ (Yv.move rfl) ?_
                    refine Ops.vg ⟨_, rfl, rfl⟩ (Yv.ge rfl rfl) ?_
                    refine Ops.dec (fun h143 => ?_) (fun h143 => ?_)
                    · -- yes
                      refine Ops.v (Yv.pick1 rfl rfl) ?_
                      refine Ops.v (Yv.move rfl) ?_
                      refine Ops.skip ⟨_, rfl, rfl⟩ ?_
                      refine Ops.skip ⟨_, rfl, rfl⟩ ?_
                      refine Ops.skip ⟨_, rfl, rfl⟩ ?_
                      refine Ops.skip ⟨_, rfl, rfl⟩ ?_
                      refine Ops.skip ⟨_, rfl, rfl⟩ ?_
                      refine Ops.skip ⟨_, rfl, rfl⟩ ?_
                      refine Ops.skip ⟨_, rfl, rfl⟩ ?_
                      refine Ops.skip ⟨_, rfl, rfl⟩ ?_
                      refine Ops.skip ⟨_, rfl, rfl⟩ ?_
                      refine Ops.skip ⟨_, rfl, rfl⟩ ?_
                      refine Ops.skip ⟨_, rfl, rfl⟩ ?_
                      refine Ops.skip ⟨_, rfl, rfl⟩ ?_
                      refine Ops.skip ⟨_, rfl, rfl⟩ ?_
                      refine Ops.skip ⟨_, rfl, rfl⟩ ?_
                      refine Ops.skip ⟨_, rfl, rfl⟩ ?_
                      refine Ops.skip ⟨_, rfl, rfl⟩ ?_
                      refine Ops.skip ⟨_, rfl, rfl⟩ ?_
                      refine Ops.v (Yv.pick1 rfl rfl) ?_
                      refine Ops.v (Yv.assign rfl) ?_
                      refine Ops.nil ?_
                      refine ⟨rfl, Sub.le ⟨rfl, rfl, rfl, rfl, rfl, rfl, rfl, rfl, rfl, rfl, rfl, rfl, rfl, lookB rfl (by first | (simp only [h142, h143, not_true_eq_false, not_false_eq_true, or_true, true_or, or_false, false_or, and_true, true_and, and_false, false_and, decide_true, decide_false, or_self, and_self, Bool.decide_eq_true]; done) | simp [h142, h143]), rfl, rfl, rfl, rfl, trivial⟩⟩
                    · -- no
                      refine Ops.v (Yv.pick1 rfl rfl) ?_
                      refine Ops.v (Yv.move rfl) ?_
                      refine Ops.vg ⟨_, rfl, rfl⟩ (Yv.move rfl) ?_
                      refine Ops.vg ⟨_, rfl, rfl⟩ (Yv.move rfl) ?_
                      refine Ops.vg ⟨_, rfl, rfl⟩ (Yv.rem rfl rfl (by omega) (by omega)) ?_
                      refine Ops.vg ⟨_, rfl, rfl⟩ (Yv.move rfl) ?_
                      refine Ops.vg ⟨_, rfl, rfl⟩ (Yv.sub rfl rfl (by omega)) ?_
                      refine Ops.vg ⟨_, rfl, rfl⟩ (Yv.ge rfl rfl) ?_
                      refine Ops.dec (fun h144 => ?_) (fun h144 => ?_)
                      · -- yes
                        refine Ops.vg ⟨_, rfl, rfl⟩ (Yv.move rfl) ?_
                        refine Ops.vg ⟨_, rfl, rfl⟩ (Yv.move rfl) ?_
                        refine Ops.vg ⟨_, rfl, rfl⟩ (Yv.move rfl) ?_
                        have hdz := div_bd (a := ((k : Int) / W)) (b := sz) (by omega) (by omega)
                        refine Ops.vg ⟨_, rfl, rfl⟩ (Yv.quo rfl rfl (by omega) (by omega) (by omega)) ?_
                        refine Ops.vg ⟨_, rfl, rfl⟩ (Yv.move rfl) ?_
                        have hdm := mul_bd (a := ((k : Int) / W) / sz) (b := sz) (x := 64) (y := 64) (by omega) (by omega) (by omega) (by omega)
                        refine Ops.vg ⟨_, rfl, rfl⟩ (Yv.mul rfl rfl (by omega)) ?_
                        refine Ops.vg ⟨_, rfl, rfl⟩ (Yv.move rfl) ?_
                        refine Ops.vg ⟨_, rfl, rfl⟩ (Yv.add rfl rfl (by omega)) ?_
                        refine Ops.vg ⟨_, rfl, rfl⟩ (Yv.move rfl) ?_
                        refine Ops.vg ⟨_, rfl, rfl⟩ (Yv.lt rfl rfl) ?_
                        refine Ops.vg ⟨_, rfl, rfl⟩ (Yv.pick1 rfl rfl) ?_
                        refine Ops.v (Yv.pick0 rfl rfl) ?_
                        refine Ops.v (Yv.assign rfl) ?_
                        refine Ops.nil ?_
                        refine ⟨rfl, Sub.le ⟨rfl, rfl, rfl, rfl, rfl, rfl, rfl, rfl, rfl, rfl, rfl, rfl, rfl, lookB rfl (by first | (simp only [h142, h143, h144, not_true_eq_false, not_false_eq_true, or_true, true_or, or_false, false_or, and_true, true_and, and_false, false_and, decide_true, decide_false, or_self, and_self, Bool.decide_eq_true]; done) | simp [h142, h143, h144]), rfl, rfl, rfl, rfl, trivial⟩⟩
                      · -- no
                        refine Ops.vg ⟨_, rfl, rfl⟩ (Yv.move rfl) ?_
                        refine Ops.skip ⟨_, rfl, rfl⟩ ?_
                        refine Ops.skip ⟨_, rfl, rfl⟩ ?_
                        refine Ops.skip ⟨_, rfl, rfl⟩ ?_
                        refine Ops.skip ⟨_, rfl, rfl⟩ ?_
                        refine Ops.skip ⟨_, rfl, rfl⟩ ?_
                        refine Ops.skip ⟨_, rfl, rfl⟩ ?_
                        refine Ops.skip ⟨_, rfl, rfl⟩ ?_
                        refine Ops.skip ⟨_, rfl, rfl⟩ ?_
                        refine Ops.skip ⟨_, rfl, rfl⟩ ?_
                        refine Ops.vg ⟨_, rfl, rfl⟩ (Yv.pick0 rfl rfl) ?_
                        refine Ops.v (Yv.pick0 rfl rfl) ?_
                        refine Ops.v (Yv.assign rfl) ?_
                        refine Ops.nil ?_
                        refine ⟨rfl, Sub.le ⟨rfl, rfl, rfl, rfl, rfl, rfl, rfl, rfl, rfl, rfl, rfl, rfl, rfl, lookB rfl (by first | (simp only [h142, h143, h144, not_true_eq_false, not_false_eq_true, or_true, true_or, or_false, false_or, and_true, true_and, and_false, false_and, decide_true, decide_false, or_self, and_self, Bool.decide_eq_true]; done) | simp [h142, h143, h144]), rfl, rfl, rfl, rfl, trivial⟩⟩
                  · -- no
                    refine Ops.v (Yv.move rfl) ?_
                    refine Ops.skip ⟨_, rfl, rfl⟩ ?_
                    refine Ops.skip ⟨_, rfl, rfl⟩ ?_
                    refine Ops.skip ⟨_, rfl, rfl⟩ ?_
                    refine Ops.v (Yv.pick0 rfl rfl) ?_
                    refine Ops.v (Yv.move rfl) ?_
                    refine Ops.vg ⟨_, rfl, rfl⟩ (Yv.move rfl) ?_
                    refine Ops.vg ⟨_, rfl, rfl⟩ (Yv.move rfl) ?_
                    refine Ops.vg ⟨_, rfl, rfl⟩ (Yv.rem rfl rfl (by omega) (by omega)) ?_
                    refine Ops.vg ⟨_, rfl, rfl⟩ (Yv.move rfl) ?_
                    refine Ops.vg ⟨_, rfl, rfl⟩ (Yv.sub rfl rfl (by omega)) ?_
                    refine Ops.vg ⟨_, rfl, rfl⟩ (Yv.ge rfl rfl) ?_
                    refine Ops.dec (fun h145 => ?_) (fun h145 => ?_)
                    · -- yes
                      refine Ops.vg ⟨_, rfl, rfl⟩ (Yv.move rfl) ?_
                      refine Ops.vg ⟨_, rfl, rfl⟩ (Yv.move rfl) ?_
                      refine Ops.vg ⟨_, rfl, rfl⟩ (Yv.move rfl) ?_
                      have hdz := div_bd (a := ((k : Int) / W)) (b := sz) (by omega) (by omega)
                      refine Ops.vg ⟨_, rfl, rfl⟩ (Yv.quo rfl rfl (by omega) (by omega) (by omega)) ?_
                      refine Ops.vg ⟨_, rfl, rfl⟩ (Yv.move rfl) ?_
                      have hdm := mul_bd (a := ((k : Int) / W) / sz) (b := sz) (x := 64) (y := 64) (by omega) (by omega) (by omega) (by omega)
                      refine Ops.vg ⟨_, rfl, rfl⟩ (Yv.mul rfl rfl (by omega)) ?_
                      refine Ops.vg ⟨_, rfl, rfl⟩ (Yv.move rfl) ?_
                      refine Ops.vg ⟨_, rfl, rfl⟩ (Yv.add rfl rfl (by omega)) ?_
                      refine Ops.vg ⟨_, rfl, rfl⟩ (Yv.move rfl) ?_
                      refine Ops.vg ⟨_, rfl, rfl⟩ (Yv.lt rfl rfl) ?_
                      refine Ops.vg ⟨_, rfl, rfl⟩ (Yv.pick1 rfl rfl) ?_
                      refine Ops.v (Yv.pick0 rfl rfl) ?_
                      refine Ops.v (Yv.assign rfl) ?_
                      refine Ops.nil ?_
                      refine ⟨rfl, Sub.le ⟨rfl, rfl, rfl, rfl, rfl, rfl, rfl, rfl, rfl, rfl, rfl, rfl, rfl, lookB rfl (by first | (simp only [h142, h145, not_true_eq_false, not_false_eq_true, or_true, true_or, or_false, false_or, and_true, true_and, and_false, false_and, decide_true, decide_false, or_self, and_self, Bool.decide_eq_true]; done) | simp [h142, h145]), rfl, rfl, rfl, rfl, trivial⟩⟩
                    · -- no
                      refine Ops.vg ⟨_, rfl, rfl⟩ (Yv.move rfl) ?_
                      refine Ops.skip ⟨_, rfl, rfl⟩ ?_
                      refine Ops.skip ⟨_, rfl, rfl⟩ ?_
                      refine Ops.skip ⟨_, rfl, rfl⟩ ?_
                      refine Ops.skip ⟨_, rfl, rfl⟩ ?_
                      refine Ops.skip ⟨_, rfl, rfl⟩ ?_
                      refine Ops.skip ⟨_, rfl, rfl⟩ ?_
                      refine Ops.skip ⟨_, rfl, rfl⟩ ?_
                      refine Ops.skip ⟨_, rfl, rfl⟩ ?_
                      refine Ops.skip ⟨_, rfl, rfl⟩ ?_
                      refine Ops.vg ⟨_, rfl, rfl⟩ (Yv.pick0 rfl rfl) ?_
                      refine Ops.v (Yv.pick0 rfl rfl) ?_
                      refine Ops.v (Yv.assign rfl) ?_
                      refine Ops.nil ?_
                      refine ⟨rfl, Sub.le ⟨rfl, rfl, rfl, rfl, rfl, rfl, rfl, rfl, rfl, rfl, rfl, rfl, rfl, lookB rfl (by first | (simp only [h142, h145, not_true_eq_false, not_false_eq_true, or_true, true_or, or_false, false_or, and_true, true_and, and_false, false_and, decide_true, decide_false, or_self, and_self, Bool.decide_eq_true]; done) | simp [h142, h145]), rfl, rfl, rfl, rfl, trivial⟩⟩
                rintro e146 _ ⟨rfl, he146⟩
                refine k141 _ _ ?_
                refine Run.le he146 ?_
                refine run_seq fun K147 k147 => ?_
                refine Run.cut (fun e_ w_ => HS w [.row Ad116 ((W * H).toNat) c117 (u8s (passF up co W H (W / 4) (List.replicate ((H / 4).toNat * (W / 4).toNat) sz) (idsTo (W / 4).toNat (sz / 4) ((H / 4).toNat * (W / 4).toNat)) (List.replicate ((H / 4).toNat * (W / 4).toNat) false) lv (bringF sh0 8) (fitTo xs (W * H).toNat))) 5 1, .blk b112 [.int .i64 W, .int .i64 H, .slice Ad116 ((W * H).toNat) c117] 28, .row Ad29 ((H / 4).toNat * (W / 4).toNat) c32 (u8s (List.replicate ((H / 4).toNat * (W / 4).toNat) sz)) 5 1, .row Ad30 ((H / 4).toNat * (W / 4).toNat) c33 (i64s (idsTo (W / 4).toNat (sz / 4) ((H / 4).toNat * (W / 4).toNat))) 3 1, .row Ad31 ((H / 4).toNat * (W / 4).toNat) c34 (bools (List.replicate ((H / 4).toNat * (W / 4).toNat) false)) 4 1, .blk b16 [.int .i64 W, .int .i64 H, .slice Ad12 ((W * H).toNat) c13] 28, .row Ad12 ((W * H).toNat) c13 (u8s (fitTo xs (W * H).toNat)) 5 1, .blk b5 [.bool up, .bool co, .int .i64 lv0, .int .i64 sh0] 25, .blk b2 [.int .i64 a, .int .i64 b] 22] w_ ∧ Le [(0, .agg #[.int .i64 a, .int .i64 b]), (1, .slice A m c), (2, .agg #[.bool up, .bool co, .int .i64 lv0, .int .i64 sh0]), (3, .pointer (some ⟨b2, 0, none⟩)), (5, .pointer (some ⟨b5, 0, none⟩)), (7, .pointer (some ⟨b16, 0, none⟩)), (8, .int .i64 sz), (9, .int .i64 lv), (10, .pointer (some ⟨b112, 0, none⟩)), (11, .int .i64 0), (12, .int .i64 (k : Int)), (13, .int .i64 ((k : Int) / W)), (14, .int .i64 H), (15, .bool (decide ((((((k : Int) / W) % sz) < (6 : Int)) ∧ (sz ≤ ((k : Int) / W))) ∨ (((sz - 6) ≤ (((k : Int) / W) % sz)) ∧ ((((((k : Int) / W) / sz) * sz) + sz) < H))))), (17, .bool false), (72, .bool (decide (((W * H).toNat : Int) ≠ ((W * H).toNat : Int)))), (77, .bool (decide ((k : Int) < ((W * H).toNat : Int)))), (88, .bool (!up)), (141, .bool (decide (((¬ ((((((k : Int) / W) % sz) < (6 : Int)) ∧ (sz ≤ ((k : Int) / W))) ∨ (((sz - 6) ≤ (((k : Int) / W) % sz)) ∧ ((((((k : Int) / W) / sz) * sz) + sz) < H)))) ∨ (lv = (0 : Int))) ∧ ((gi (passF up co W H (W / 4) (List.replicate ((H / 4).toNat * (W / 4).toNat) sz) (idsTo (W / 4).toNat (sz / 4) ((H / 4).toNat * (W / 4).toNat)) (List.replicate ((H / 4).toNat * (W / 4).toNat) false) lv (bringF sh0 8) (fitTo xs (W * H).toNat)) (k : Int)) ≠ (gi (fitTo xs (W * H).toNat) (k : Int))))))] e_) ?_ ?_
                · -- region 17: its ways meet again
                  refine run_drawn [] (fun x => Below ((w129.drew).drew).heap.size ((w129.drew).drew) x) ?_ Tf.mixed (by kernel_rfl) (fun _ _ _ h => h)
                  have hs148 := hs135.drew
                  have hS149 := Below.refl ((w129.drew).drew).heap.size ((w129.drew).drew)
                  refine Drw.a 0 rfl (by kernel_rfl) (Yv.move rfl) ?_
                  refine Drw.dec (fun h150 => ?_) (fun h150 => ?_)
                  · -- yes
                    refine Drw.a 1 rfl (by kernel_rfl) (Yv.not rfl) ?_
                    refine Drw.a 2 rfl (by kernel_rfl) (Yv.move rfl) ?_
                    refine Drw.a 3 rfl (by kernel_rfl) (Yv.move rfl) ?_ ⟨_, rfl, rfl⟩
                    refine Drw.a 4 rfl (by kernel_rfl) (Yv.eq rfl rfl) ?_ ⟨_, rfl, rfl⟩
                    refine Drw.dec (fun h151 => ?_) (fun h151 => ?_)
                    · -- yes
                      refine Drw.a 5 rfl (by kernel_rfl) (Yv.pick0 rfl rfl) ?_
                      refine Drw.a 6 rfl (by kernel_rfl) (Yv.move rfl) ?_
                      refine Drw.a 7 rfl (by kernel_rfl) (Yv.fld F28_2 rfl) ?_ ⟨_, rfl, rfl⟩
                      refine Drw.l 8 rfl (by kernel_rfl) hS149 (Yv.load A23 rfl (fun _ hq_ => ((hs148.grow hq_).cell 1 rfl 2 rfl))) ?_ ⟨_, rfl, rfl⟩
                      refine Drw.a 9 rfl (by kernel_rfl) (Yv.move rfl) ?_ ⟨_, rfl, rfl⟩
                      refine Drw.a 10 rfl (by kernel_rfl) (Yv.idx L23 rfl rfl ((hs148.rdRow 0 rfl).isSome (i := (k : Int)) (by omega) (by omega)) (by omega) (by omega)) ?_ ⟨_, rfl, rfl⟩
                      refine Drw.l 11 rfl (by kernel_rfl) hS149 (Yv.load A5 rfl (fun _ hq_ => (((hs148.grow hq_).rdRow 0 rfl).u8 (by omega) (by omega)))) ?_ ⟨_, rfl, rfl⟩
                      have g152 := gi_bytes (xs := passF up co W H (W / 4) (List.replicate ((H / 4).toNat * (W / 4).toNat) sz) (idsTo (W / 4).toNat (sz / 4) ((H / 4).toNat * (W / 4).toNat)) (List.replicate ((H / 4).toNat * (W / 4).toNat) false) lv (bringF sh0 8) (fitTo xs (W * H).toNat)) (passF_bytes _ _ _ _ _ _ _ _ _ _ (fitTo_bytes hx _)) (k : Int)
                      refine Drw.a 12 rfl (by kernel_rfl) (Yv.fld F28_2 rfl) ?_ ⟨_, rfl, rfl⟩
                      refine Drw.l 13 rfl (by kernel_rfl) hS149 (Yv.load A23 rfl (fun _ hq_ => ((hs148.grow hq_).cell 5 rfl 2 rfl))) ?_ ⟨_, rfl, rfl⟩
                      refine Drw.a 14 rfl (by kernel_rfl) (Yv.move rfl) ?_ ⟨_, rfl, rfl⟩
                      refine Drw.a 15 rfl (by kernel_rfl) (Yv.idx L23 rfl rfl ((hs148.rdRow 6 rfl).isSome (i := (k : Int)) (by omega) (by omega)) (by omega) (by omega)) ?_ ⟨_, rfl, rfl⟩
                      refine Drw.l 16 rfl (by kernel_rfl) hS149 (Yv.load A5 rfl (fun _ hq_ => (((hs148.grow hq_).rdRow 6 rfl).u8 (by omega) (by omega)))) ?_ ⟨_, rfl, rfl⟩
                      have g153 := gi_bytes (xs := fitTo xs (W * H).toNat) (fitTo_bytes hx _) (k : Int)
                      refine Drw.a 17 rfl (by kernel_rfl) (Yv.ne rfl rfl) ?_ ⟨_, rfl, rfl⟩
                      refine Drw.a 18 rfl (by kernel_rfl) (Yv.pick1 rfl rfl) ?_
                      refine Drw.done ?_ (by kernel_rfl)
                      refine ⟨hs148, Sub.le ⟨rfl, rfl, rfl, rfl, rfl, rfl, rfl, rfl, rfl, rfl, rfl, rfl, rfl, rfl, rfl, rfl, rfl, rfl, lookB rfl (by first | (simp only [h150, h151, not_true_eq_false, not_false_eq_true, or_true, true_or, or_false, false_or, and_true, true_and, and_false, false_and, decide_true, decide_false, or_self, and_self, Bool.decide_eq_true]; done) | simp [h150, h151]), trivial⟩⟩
                    · -- no
                      refine Drw.a 5 rfl (by kernel_rfl) (Yv.pick0 rfl rfl) ?_
                      refine Drw.a 6 rfl (by kernel_rfl) (Yv.move rfl) ?_
                      refine Drw.no 7 rfl (by kernel_rfl) ?_ ⟨_, rfl, rfl⟩
                      refine Drw.no 8 rfl (by kernel_rfl) ?_ ⟨_, rfl, rfl⟩
                      refine Drw.no 9 rfl (by kernel_rfl) ?_ ⟨_, rfl, rfl⟩
                      refine Drw.no 10 rfl (by kernel_rfl) ?_ ⟨_, rfl, rfl⟩
                      refine Drw.no 11 rfl (by kernel_rfl) ?_ ⟨_, rfl, rfl⟩
                      refine Drw.no 12 rfl (by kernel_rfl) ?_ ⟨_, rfl, rfl⟩
                      refine Drw.no 13 rfl (by kernel_rfl) ?_ ⟨_, rfl, rfl⟩
                      refine Drw.no 14 rfl (by kernel_rfl) ?_ ⟨_, rfl, rfl⟩
                      refine Drw.no 15 rfl (by kernel_rfl) ?_ ⟨_, rfl, rfl⟩
                      refine Drw.no 16 rfl (by kernel_rfl) ?_ ⟨_, rfl, rfl⟩
                      refine Drw.no 17 rfl (by kernel_rfl) ?_ ⟨_, rfl, rfl⟩
                      refine Drw.a 18 rfl (by kernel_rfl) (Yv.pick0 rfl rfl) ?_
                      refine Drw.done ?_ (by kernel_rfl)
                      refine ⟨hs148, Sub.le ⟨rfl, rfl, rfl, rfl, rfl, rfl, rfl, rfl, rfl, rfl, rfl, rfl, rfl, rfl, rfl, rfl, rfl, rfl, lookB rfl (by first | (simp only [h150, h151, not_true_eq_false, not_false_eq_true, or_true, true_or, or_false, false_or, and_true, true_and, and_false, false_and, decide_true, decide_false, or_self, and_self, Bool.decide_eq_true]; done) | simp [h150, h151]), trivial⟩⟩
                  · -- no
                    refine Drw.a 1 rfl (by kernel_rfl) (Yv.not rfl) ?_
                    refine Drw.a 2 rfl (by kernel_rfl) (Yv.move rfl) ?_
                    refine Drw.no 3 rfl (by kernel_rfl) ?_ ⟨_, rfl, rfl⟩
                    refine Drw.no 4 rfl (by kernel_rfl) ?_ ⟨_, rfl, rfl⟩
                    refine Drw.a 5 rfl (by kernel_rfl) (Yv.pick1 rfl rfl) ?_
                    refine Drw.a 6 rfl (by kernel_rfl) (Yv.move rfl) ?_
                    refine Drw.a 7 rfl (by kernel_rfl) (Yv.fld F28_2 rfl) ?_ ⟨_, rfl, rfl⟩
                    refine Drw.l 8 rfl (by kernel_rfl) hS149 (Yv.load A23 rfl (fun _ hq_ => ((hs148.grow hq_).cell 1 rfl 2 rfl))) ?_ ⟨_, rfl, rfl⟩
                    refine Drw.a 9 rfl (by kernel_rfl) (Yv.move rfl) ?_ ⟨_, rfl, rfl⟩
                    refine Drw.a 10 rfl (by kernel_rfl) (Yv.idx L23 rfl rfl ((hs148.rdRow 0 rfl).isSome (i := (k : Int)) (by omega) (by omega)) (by omega) (by omega)) ?_ ⟨_, rfl, rfl⟩
                    refine Drw.l 11 rfl (by kernel_rfl) hS149 (Yv.load A5 rfl (fun _ hq_ => (((hs148.grow hq_).rdRow 0 rfl).u8 (by omega) (by omega)))) ?_ ⟨_, rfl, rfl⟩
                    have g154 := gi_bytes (xs := passF up co W H (W / 4) (List.replicate ((H / 4).toNat * (W / 4).toNat) sz) (idsTo (W / 4).toNat (sz / 4) ((H / 4).toNat * (W / 4).toNat)) (List.replicate ((H / 4).toNat * (W / 4).toNat) false) lv (bringF sh0 8) (fitTo xs (W * H).toNat)) (passF_bytes _ _ _ _ _ _ _ _ _ _ (fitTo_bytes hx _)) (k : Int)
                    refine Drw.a 12 rfl (by kernel_rfl) (Yv.fld F28_2 rfl) ?_ ⟨_, rfl, rfl⟩
                    refine Drw.l 13 rfl (by kernel_rfl) hS149 (Yv.load A23 rfl (fun _ hq_ => ((hs148.grow hq_).cell 5 rfl 2 rfl))) ?_ ⟨_, rfl, rfl⟩
                    refine Drw.a 14 rfl (by kernel_rfl) (Yv.move rfl) ?_ ⟨_, rfl, rfl⟩
                    refine Drw.a 15 rfl (by kernel_rfl) (Yv.idx L23 rfl rfl ((hs148.rdRow 6 rfl).isSome (i := (k : Int)) (by omega) (by omega)) (by omega) (by omega)) ?_ ⟨_, rfl, rfl⟩
                    refine Drw.l 16 rfl (by kernel_rfl) hS149 (Yv.load A5 rfl (fun _ hq_ => (((hs148.grow hq_).rdRow 6 rfl).u8 (by omega) (by omega)))) ?_ ⟨_, rfl, rfl⟩
                    have g155 := gi_bytes (xs := fitTo xs (W * H).toNat) (fitTo_bytes hx _) (k : Int)
                    refine Drw.a 17 rfl (by kernel_rfl) (Yv.ne rfl rfl) ?_ ⟨_, rfl, rfl⟩
                    refine Drw.a 18 rfl (by kernel_rfl) (Yv.pick1 rfl rfl) ?_
                    refine Drw.done ?_ (by kernel_rfl)
                    refine ⟨hs148, Sub.le ⟨rfl, rfl, rfl, rfl, rfl, rfl, rfl, rfl, rfl, rfl, rfl, rfl, rfl, rfl, rfl, rfl, rfl, rfl, lookB rfl (by first | (simp only [h150, not_true_eq_false, not_false_eq_true, or_true, true_or, or_false, false_or, and_true, true_and, and_false, false_and, decide_true, decide_false, or_self, and_self, Bool.decide_eq_true]; done) | simp [h150]), trivial⟩⟩
                rintro e158 w158 ⟨hs158, he158⟩
                refine k147 _ _ ?_
                refine Run.le he158 ?_
                refine run_ifp rfl (fun h159 => ?_) (fun h159 => ?_)
                · -- yes ((¬ ((((((k : Int) / W) % sz) < (6 : Int)) ∧ (sz ≤ ((k : Int) / W))) ∨ (((sz - 6) ≤ (((k : Int) / W) % sz)) ∧ ((((((k : Int) / W) / sz) * sz) + sz) < H)))) ∨ (lv = (0 : Int))) ∧ ((gi (passF up co W H (W / 4) (List.replicate ((H / 4).toNat * (W / 4).toNat) sz) (idsTo (W / 4).toNat (sz / 4) ((H / 4).toNat * (W / 4).toNat)) (List.replicate ((H / 4).toNat * (W / 4).toNat) false) lv (bringF sh0 8) (fitTo xs (W * H).toNat)) (k : Int)) ≠ (gi (fitTo xs (W * H).toNat) (k : Int)))
                  refine run_seq fun K160 k160 => ?_
                  refine run_region ?_
                  refine Ops.v (Yv.assign rfl) ?_
                  refine Ops.nil ?_
                  refine k160 _ _ ?_
                  refine run_ret ?_
                  refine ⟨[.bool false], ⟨_, _, rfl, rfl, rfl⟩, ?_⟩
                  have hup : up = false := by simpa using h139
                  subst hup
                  exact absurd (far_lie (by omega) (by omega) (by omega) h159.1) h159.2
                · -- no
                  refine run_skip ?_
                  refine k133 _ _ ?_
                  refine run_region ?_
                  refine Ops.v (Yv.move rfl) ?_
                  refine Ops.v (Yv.add rfl rfl (by omega)) ?_
                  refine Ops.v (Yv.assign rfl) ?_
                  refine Ops.nil ?_
                  refine ⟨k + 1, _, ⟨hs158, rfl, by omega⟩, Sub.le ⟨rfl, rfl, rfl, rfl, rfl, rfl, rfl, rfl, rfl, rfl, lookI rfl (by omega), rfl, rfl, trivial⟩, by omega⟩
              · -- no
                refine run_skip ?_
                refine k137 _ _ ?_
                refine run_seq fun K161 k161 => ?_
                refine Run.cut (fun e_ w_ => (w129.drew) = w_ ∧ Le [(0, .agg #[.int .i64 a, .int .i64 b]), (1, .slice A m c), (2, .agg #[.bool up, .bool co, .int .i64 lv0, .int .i64 sh0]), (3, .pointer (some ⟨b2, 0, none⟩)), (5, .pointer (some ⟨b5, 0, none⟩)), (7, .pointer (some ⟨b16, 0, none⟩)), (8, .int .i64 sz), (9, .int .i64 lv), (10, .pointer (some ⟨b112, 0, none⟩)), (11, .int .i64 0), (12, .int .i64 (k : Int)), (13, .int .i64 ((k : Int) % W)), (14, .int .i64 W), (15, .bool (decide ((((((k : Int) % W) % sz) < (6 : Int)) ∧ (sz ≤ ((k : Int) % W))) ∨ (((sz - 6) ≤ (((k : Int) % W) % sz)) ∧ ((((((k : Int) % W) / sz) * sz) + sz) < W))))), (17, .bool false), (72, .bool (decide (((W * H).toNat : Int) ≠ ((W * H).toNat : Int)))), (77, .bool (decide ((k : Int) < ((W * H).toNat : Int)))), (88, .bool (!up))] e_) ?_ ?_
                · -- region 16: its ways meet again
                  refine run_region ?_
                  refine Ops.v (Yv.move rfl) ?_
                  refine Ops.v (Yv.move rfl) ?_
                  refine Ops.v (Yv.rem rfl rfl (by omega) (by omega)) ?_
                  refine Ops.v (Yv.lt rfl rfl) ?_
                  refine Ops.dec (fun h162 => ?_) (fun h162 => ?_)
                  · -- yes
                    refine Ops.v (Yv.move rfl) ?_
                    refine Ops.vg ⟨_, rfl, rfl⟩ (Yv.move rfl) ?_
                    refine Ops.vg ⟨_, rfl, rfl⟩ (Yv.move rfl) ?_
                    refine Ops.vg ⟨_, rfl, rfl⟩ (Yv.ge rfl rfl) ?_
                    refine Ops.dec (fun h163 => ?_) (fun h163 => ?_)
                    · -- yes
                      refine Ops.v (Yv.pick1 rfl rfl) ?_
                      refine Ops.v (Yv.move rfl) ?_
                      refine Ops.skip ⟨_, rfl, rfl⟩ ?_
                      refine Ops.skip ⟨_, rfl, rfl⟩ ?_
                      refine Ops.skip ⟨_, rfl, rfl⟩ ?_
                      refine Ops.skip ⟨_, rfl, rfl⟩ ?_
                      refine Ops.skip ⟨_, rfl, rfl⟩ ?_
                      refine Ops.skip ⟨_, rfl, rfl⟩ ?_
                      refine Ops.skip ⟨_, rfl, rfl⟩ ?_
                      refine Ops.skip ⟨_, rfl, rfl⟩ ?_
                      refine Ops.skip ⟨_, rfl, rfl⟩ ?_
                      refine Ops.skip ⟨_, rfl, rfl⟩ ?_
                      refine Ops.skip ⟨_, rfl, rfl⟩ ?_
                      refine Ops.skip ⟨_, rfl, rfl⟩ ?_
                      refine Ops.skip ⟨_, rfl, rfl⟩ ?_
                      refine Ops.skip ⟨_, rfl, rfl⟩ ?_
                      refine Ops.skip ⟨_, rfl, rfl⟩ ?_
                      refine Ops.skip ⟨_, rfl, rfl⟩ ?_
                      refine Ops.skip ⟨_, rfl, rfl⟩ ?_
                      refine Ops.v (Yv.pick1 rfl rfl) ?_
                      refine Ops.v (Yv.assign rfl) ?_
                      refine Ops.nil ?_
                      refine ⟨rfl, Sub.le ⟨rfl, rfl, rfl, rfl, rfl, rfl, rfl, rfl, rfl, rfl, rfl, rfl, rfl, lookB rfl (by first | (simp only [h162, h163, not_true_eq_false, not_false_eq_true, or_true, true_or, or_false, false_or, and_true, true_and, and_false, false_and, decide_true, decide_false, or_self, and_self, Bool.decide_eq_true]; done) | simp [h162, h163]), rfl, rfl, rfl, rfl, trivial⟩⟩
                    · -- no
                      refine Ops.v (Yv.pick1 rfl rfl) ?_
                      refine Ops.v (Yv.move rfl) ?_
                      refine Ops.vg ⟨_, rfl, rfl⟩ (Yv.move rfl) ?_
                      refine Ops.vg ⟨_, rfl, rfl⟩ (Yv.move rfl) ?_
                      refine Ops.vg ⟨_, rfl, rfl⟩ (Yv.rem rfl rfl (by omega) (by omega)) ?_
                      refine Ops.vg ⟨_, rfl, rfl⟩ (Yv.move rfl) ?_
                      refine Ops.vg ⟨_, rfl, rfl⟩ (Yv.sub rfl rfl (by omega)) ?_
                      refine Ops.vg ⟨_, rfl, rfl⟩ (Yv.ge rfl rfl) ?_
                      refine Ops.dec (fun h164 => ?_) (fun h164 => ?_)
                      · -- yes
                        refine Ops.vg ⟨_, rfl, rfl⟩ (Yv.move rfl) ?_
                        refine Ops.vg ⟨_, rfl, rfl⟩ (Yv.move rfl) ?_
                        refine Ops.vg ⟨_, rfl, rfl⟩ (Yv.move rfl) ?_
                        have hdz := div_bd (a := ((k : Int) % W)) (b := sz) (by omega) (by omega)
                        refine Ops.vg ⟨_, rfl, rfl⟩ (Yv.quo rfl rfl (by omega) (by omega) (by omega)) ?_
                        refine Ops.vg ⟨_, rfl, rfl⟩ (Yv.move rfl) ?_
                        have hdm := mul_bd (a := ((k : Int) % W) / sz) (b := sz) (x := 64) (y := 64) (by omega) (by omega) (by omega) (by omega)
                        refine Ops.vg ⟨_, rfl, rfl⟩ (Yv.mul rfl rfl (by omega)) ?_
                        refine Ops.vg ⟨_, rfl, rfl⟩ (Yv.move rfl) ?_
                        refine Ops.vg ⟨_, rfl, rfl⟩ (Yv.add rfl rfl (by omega)) ?_
                        refine Ops.vg ⟨_, rfl, rfl⟩ (Yv.move rfl) ?_
                        refine Ops.vg ⟨_, rfl, rfl⟩ (Yv.lt rfl rfl) ?_
                        refine Ops.vg ⟨_, rfl, rfl⟩ (Yv.pick1 rfl rfl) ?_
                        refine Ops.v (Yv.pick0 rfl rfl) ?_
                        refine Ops.v (Yv.assign rfl) ?_
                        refine Ops.nil ?_
                        refine ⟨rfl, Sub.le ⟨rfl, rfl, rfl, rfl, rfl, rfl, rfl, rfl, rfl, rfl, rfl, rfl, rfl, lookB rfl (by first | (simp only [h162, h163, h164, not_true_eq_false, not_false_eq_true, or_true, true_or, or_false, false_or, and_true, true_and, and_false, false_and, decide_true, decide_false, or_self, and_self, Bool.decide_eq_true]; done) | simp [h162, h163, h164]), rfl, rfl, rfl, rfl, trivial⟩⟩
                      · -- no
                        refine Ops.vg ⟨_, rfl, rfl⟩ (Yv.move rfl) ?_
                        refine Ops.skip ⟨_, rfl, rfl⟩ ?_
                        refine Ops.skip ⟨_, rfl, rfl⟩ ?_
                        refine Ops.skip ⟨_, rfl, rfl⟩ ?_
                        refine Ops.skip ⟨_, rfl, rfl⟩ ?_
                        refine Ops.skip ⟨_, rfl, rfl⟩ ?_
                        refine Ops.skip ⟨_, rfl, rfl⟩ ?_
                        refine Ops.skip ⟨_, rfl, rfl⟩ ?_
                        refine Ops.skip ⟨_, rfl, rfl⟩ ?_
                        refine Ops.skip ⟨_, rfl, rfl⟩ ?_
                        refine Ops.vg ⟨_, rfl, rfl⟩ (Yv.pick0 rfl rfl) ?_
                        refine Ops.v (Yv.pick0 rfl rfl) ?_
                        refine Ops.v (Yv.assign rfl) ?_
                        refine Ops.nil ?_
                        refine ⟨rfl, Sub.le ⟨rfl, rfl, rfl, rfl, rfl, rfl, rfl, rfl, rfl, rfl, rfl, rfl, rfl, lookB rfl (by first | (simp only [h162, h163, h164, not_true_eq_false, not_false_eq_true, or_true, true_or, or_false, false_or, and_true, true_and, and_false, false_and, decide_true, decide_false, or_self, and_self, Bool.decide_eq_true]; done) | simp [h162, h163, h164]), rfl, rfl, rfl, rfl, trivial⟩⟩
                  · -- no
                    refine Ops.v (Yv.move rfl) ?_
                    refine Ops.skip ⟨_, rfl, rfl⟩ ?_
                    refine Ops.skip ⟨_, rfl, rfl⟩ ?_
                    refine Ops.skip ⟨_, rfl, rfl⟩ ?_
                    refine Ops.v (Yv.pick0 rfl rfl) ?_
                    refine Ops.v (Yv.move rfl) ?_
                    refine Ops.vg ⟨_, rfl, rfl⟩ (Yv.move rfl) ?_
                    refine Ops.vg ⟨_, rfl, rfl⟩ (Yv.move rfl) ?_
                    refine Ops.vg ⟨_, rfl, rfl⟩ (Yv.rem rfl rfl (by omega) (by omega)) ?_
                    refine Ops.vg ⟨_, rfl, rfl⟩ (Yv.move rfl) ?_
                    refine Ops.vg ⟨_, rfl, rfl⟩ (Yv.sub rfl rfl (by omega)) ?_
                    refine Ops.vg ⟨_, rfl, rfl⟩ (Yv.ge rfl rfl) ?_
                    refine Ops.dec (fun h165 => ?_) (fun h165 => ?_)
                    · -- yes
                      refine Ops.vg ⟨_, rfl, rfl⟩ (Yv.move rfl) ?_
                      refine Ops.vg ⟨_, rfl, rfl⟩ (Yv.move rfl) ?_
                      refine Ops.vg ⟨_, rfl, rfl⟩ (Yv.move rfl) ?_
                      have hdz := div_bd (a := ((k : Int) % W)) (b := sz) (by omega) (by omega)
                      refine Ops.vg ⟨_, rfl, rfl⟩ (Yv.quo rfl rfl (by omega) (by omega) (by omega)) ?_
                      refine Ops.vg ⟨_, rfl, rfl⟩ (Yv.move rfl) ?_
                      have hdm := mul_bd (a := ((k : Int) % W) / sz) (b := sz) (x := 64) (y := 64) (by omega) (by omega) (by omega) (by omega)
                      refine Ops.vg ⟨_, rfl, rfl⟩ (Yv.mul rfl rfl (by omega)) ?_
                      refine Ops.vg ⟨_, rfl, rfl⟩ (Yv.move rfl) ?_
                      refine Ops.vg ⟨_, rfl, rfl⟩ (Yv.add rfl rfl (by omega)) ?_
                      refine Ops.vg ⟨_, rfl, rfl⟩ (Yv.move rfl) ?_
                      refine Ops.vg ⟨_, rfl, rfl⟩ (Yv.lt rfl rfl) ?_
                      refine Ops.vg ⟨_, rfl, rfl⟩ (Yv.pick1 rfl rfl) ?_
                      refine Ops.v (Yv.pick0 rfl rfl) ?_
                      refine Ops.v (Yv.assign rfl) ?_
                      refine Ops.nil ?_
                      refine ⟨rfl, Sub.le ⟨rfl, rfl, rfl, rfl, rfl, rfl, rfl, rfl, rfl, rfl, rfl, rfl, rfl, lookB rfl (by first | (simp only [h162, h165, not_true_eq_false, not_false_eq_true, or_true, true_or, or_false, false_or, and_true, true_and, and_false, false_and, decide_true, decide_false, or_self, and_self, Bool.decide_eq_true]; done) | simp [h162, h165]), rfl, rfl, rfl, rfl, trivial⟩⟩
                    · -- no
                      refine Ops.vg ⟨_, rfl, rfl⟩ (Yv.move rfl) ?_
                      refine Ops.skip ⟨_, rfl, rfl⟩ ?_
                      refine Ops.skip ⟨_, rfl, rfl⟩ ?_
                      refine Ops.skip ⟨_, rfl, rfl⟩ ?_
                      refine Ops.skip ⟨_, rfl, rfl⟩ ?_
                      refine Ops.skip ⟨_, rfl, rfl⟩ ?_
                      refine Ops.skip ⟨_, rfl, rfl⟩ ?_
                      refine Ops.skip ⟨_, rfl, rfl⟩ ?_
                      refine Ops.skip ⟨_, rfl, rfl⟩ ?_
                      refine Ops.skip ⟨_, rfl, rfl⟩ ?_
                      refine Ops.vg ⟨_, rfl, rfl⟩ (Yv.pick0 rfl rfl) ?_
                      refine Ops.v (Yv.pick0 rfl rfl) ?_
                      refine Ops.v (Yv.assign rfl) ?_
                      refine Ops.nil ?_
                      refine ⟨rfl, Sub.le ⟨rfl, rfl, rfl, rfl, rfl, rfl, rfl, rfl, rfl, rfl, rfl, rfl, rfl, lookB rfl (by first | (simp only [h162, h165, not_true_eq_false, not_false_eq_true, or_true, true_or, or_false, false_or, and_true, true_and, and_false, false_and, decide_true, decide_false, or_self, and_self, Bool.decide_eq_true]; done) | simp [h162, h165]), rfl, rfl, rfl, rfl, trivial⟩⟩
                rintro e166 _ ⟨rfl, he166⟩
                refine k161 _ _ ?_
                refine Run.le he166 ?_
                refine run_seq fun K167 k167 => ?_
                refine Run.cut (fun e_ w_ => HS w [.row Ad116 ((W * H).toNat) c117 (u8s (passF up co W H (W / 4) (List.replicate ((H / 4).toNat * (W / 4).toNat) sz) (idsTo (W / 4).toNat (sz / 4) ((H / 4).toNat * (W / 4).toNat)) (List.replicate ((H / 4).toNat * (W / 4).toNat) false) lv (bringF sh0 8) (fitTo xs (W * H).toNat))) 5 1, .blk b112 [.int .i64 W, .int .i64 H, .slice Ad116 ((W * H).toNat) c117] 28, .row Ad29 ((H / 4).toNat * (W / 4).toNat) c32 (u8s (List.replicate ((H / 4).toNat * (W / 4).toNat) sz)) 5 1, .row Ad30 ((H / 4).toNat * (W / 4).toNat) c33 (i64s (idsTo (W / 4).toNat (sz / 4) ((H / 4).toNat * (W / 4).toNat))) 3 1, .row Ad31 ((H / 4).toNat * (W / 4).toNat) c34 (bools (List.replicate ((H / 4).toNat * (W / 4).toNat) false)) 4 1, .blk b16 [.int .i64 W, .int .i64 H, .slice Ad12 ((W * H).toNat) c13] 28, .row Ad12 ((W * H).toNat) c13 (u8s (fitTo xs (W * H).toNat)) 5 1, .blk b5 [.bool up, .bool co, .int .i64 lv0, .int .i64 sh0] 25, .blk b2 [.int .i64 a, .int .i64 b] 22] w_ ∧ Le [(0, .agg #[.int .i64 a, .int .i64 b]), (1, .slice A m c), (2, .agg #[.bool up, .bool co, .int .i64 lv0, .int .i64 sh0]), (3, .pointer (some ⟨b2, 0, none⟩)), (5, .pointer (some ⟨b5, 0, none⟩)), (7, .pointer (some ⟨b16, 0, none⟩)), (8, .int .i64 sz), (9, .int .i64 lv), (10, .pointer (some ⟨b112, 0, none⟩)), (11, .int .i64 0), (12, .int .i64 (k : Int)), (13, .int .i64 ((k : Int) % W)), (14, .int .i64 W), (15, .bool (decide ((((((k : Int) % W) % sz) < (6 : Int)) ∧ (sz ≤ ((k : Int) % W))) ∨ (((sz - 6) ≤ (((k : Int) % W) % sz)) ∧ ((((((k : Int) % W) / sz) * sz) + sz) < W))))), (17, .bool false), (72, .bool (decide (((W * H).toNat : Int) ≠ ((W * H).toNat : Int)))), (77, .bool (decide ((k : Int) < ((W * H).toNat : Int)))), (88, .bool (!up)), (141, .bool (decide (((¬ ((((((k : Int) % W) % sz) < (6 : Int)) ∧ (sz ≤ ((k : Int) % W))) ∨ (((sz - 6) ≤ (((k : Int) % W) % sz)) ∧ ((((((k : Int) % W) / sz) * sz) + sz) < W)))) ∨ (lv = (0 : Int))) ∧ ((gi (passF up co W H (W / 4) (List.replicate ((H / 4).toNat * (W / 4).toNat) sz) (idsTo (W / 4).toNat (sz / 4) ((H / 4).toNat * (W / 4).toNat)) (List.replicate ((H / 4).toNat * (W / 4).toNat) false) lv (bringF sh0 8) (fitTo xs (W * H).toNat)) (k : Int)) ≠ (gi (fitTo xs (W * H).toNat) (k : Int))))))] e_) ?_ ?_
                · -- region 17: its ways meet again
                  refine run_drawn [] (fun x => Below ((w129.drew).drew).heap.size ((w129.drew).drew) x) ?_ Tf.mixed (by kernel_rfl) (fun _ _ _ h => h)
                  have hs168 := hs135.drew
                  have hS169 := Below.refl ((w129.drew).drew).heap.size ((w129.drew).drew)
                  refine Drw.a 0 rfl (by kernel_rfl) (Yv.move rfl) ?_
                  refine Drw.dec (fun h170 => ?_) (fun h170 => ?_)
                  · -- yes
                    refine Drw.a 1 rfl (by kernel_rfl) (Yv.not rfl) ?_
                    refine Drw.a 2 rfl (by kernel_rfl) (Yv.move rfl) ?_
                    refine Drw.a 3 rfl (by kernel_rfl) (Yv.move rfl) ?_ ⟨_, rfl, rfl⟩
                    refine Drw.a 4 rfl (by kernel_rfl) (Yv.eq rfl rfl) ?_ ⟨_, rfl, rfl⟩
                    refine Drw.dec (fun h171 => ?_) (fun h171 => ?_)
                    · -- yes
                      refine Drw.a 5 rfl (by kernel_rfl) (Yv.pick0 rfl rfl) ?_
                      refine Drw.a 6 rfl (by kernel_rfl) (Yv.move rfl) ?_
                      refine Drw.a 7 rfl (by kernel_rfl) (Yv.fld F28_2 rfl) ?_ ⟨_, rfl, rfl⟩
                      refine Drw.l 8 rfl (by kernel_rfl) hS169 (Yv.load A23 rfl (fun _ hq_ => ((hs168.grow hq_).cell 1 rfl 2 rfl))) ?_ ⟨_, rfl, rfl⟩
                      refine Drw.a 9 rfl (by kernel_rfl) (Yv.move rfl) ?_ ⟨_, rfl, rfl⟩
                      refine Drw.a 10 rfl (by kernel_rfl) (Yv.idx L23 rfl rfl ((hs168.rdRow 0 rfl).isSome (i := (k : Int)) (by omega) (by omega)) (by omega) (by omega)) ?_ ⟨_, rfl, rfl⟩
                      refine Drw.l 11 rfl (by kernel_rfl) hS169 (Yv.load A5 rfl (fun _ hq_ => (((hs168.grow hq_).rdRow 0 rfl).u8 (by omega) (by omega)))) ?_ ⟨_, rfl, rfl⟩
                      have g172 := gi_bytes (xs := passF up co W H (W / 4) (List.replicate ((H / 4).toNat * (W / 4).toNat) sz) (idsTo (W / 4).toNat (sz / 4) ((H / 4).toNat * (W / 4).toNat)) (List.replicate ((H / 4).toNat * (W / 4).toNat) false) lv (bringF sh0 8) (fitTo xs (W * H).toNat)) (passF_bytes _ _ _ _ _ _ _ _ _ _ (fitTo_bytes hx _)) (k : Int)
                      refine Drw.a 12 rfl (by kernel_rfl) (Yv.fld F28_2 rfl) ?_ ⟨_, rfl, rfl⟩
                      refine Drw.l 13 rfl (by kernel_rfl) hS169 (Yv.load A23 rfl (fun _ hq_ => ((hs168.grow hq_).cell 5 rfl 2 rfl))) ?_ ⟨_, rfl, rfl⟩
                      refine Drw.a 14 rfl (by kernel_rfl) (Yv.move rfl) ?_ ⟨_, rfl, rfl⟩
                      refine Drw.a 15 rfl (by kernel_rfl) (Yv.idx L23 rfl rfl ((hs168.rdRow 6 rfl).isSome (i := (k : Int)) (by omega) (by omega)) (by omega) (by omega)) ?_ ⟨_, rfl, rfl⟩
                      refine Drw.l 16 rfl (by kernel_rfl) hS169 (Yv.load A5 rfl (fun _ hq_ => (((hs168.grow hq_).rdRow 6 rfl).u8 (by omega) (by omega)))) ?_ ⟨_, rfl, rfl⟩
                      have g173 := gi_bytes (xs := fitTo xs (W * H).toNat) (fitTo_bytes hx _) (k : Int)
                      refine Drw.a 17 rfl (by kernel_rfl) (Yv.ne rfl rfl) ?_ ⟨_, rfl, rfl⟩
                      refine Drw.a 18 rfl (by kernel_rfl) (Yv.pick1 rfl rfl) ?_
                      refine Drw.done ?_ (by kernel_rfl)
                      refine ⟨hs168, Sub.le ⟨rfl, rfl, rfl, rfl, rfl, rfl, rfl, rfl, rfl, rfl, rfl, rfl, rfl, rfl, rfl, rfl, rfl, rfl, lookB rfl (by first | (simp only [h170, h171, not_true_eq_false, not_false_eq_true, or_true, true_or, or_false, false_or, and_true, true_and, and_false, false_and, decide_true, decide_false, or_self, and_self, Bool.decide_eq_true]; done) | simp [h170, h171]), trivial⟩⟩
                    · -- no
                      refine Drw.a 5 rfl (by kernel_rfl) (Yv.pick0 rfl rfl) ?_
                      refine Drw.a 6 rfl (by kernel_rfl) (Yv.move rfl) ?_
                      refine Drw.no 7 rfl (by kernel_rfl) ?_ ⟨_, rfl, rfl⟩
                      refine Drw.no 8 rfl (by kernel_rfl) ?_ ⟨_, rfl, rfl⟩
                      refine Drw.no 9 rfl (by kernel_rfl) ?_ ⟨_, rfl, rfl⟩
                      refine Drw.no 10 rfl (by kernel_rfl) ?_ ⟨_, rfl, rfl⟩
                      refine Drw.no 11 rfl (by kernel_rfl) ?_ ⟨_, rfl, rfl⟩
                      refine Drw.no 12 rfl (by kernel_rfl) ?_ ⟨_, rfl, rfl⟩
                      refine Drw.no 13 rfl (by kernel_rfl) ?_ ⟨_, rfl, rfl⟩
                      refine Drw.no 14 rfl (by kernel_rfl) ?_ ⟨_, rfl, rfl⟩
                      refine Drw.no 15 rfl (by kernel_rfl) ?_ ⟨_, rfl, rfl⟩
                      refine Drw.no 16 rfl (by kernel_rfl) ?_ ⟨_, rfl, rfl⟩
                      refine Drw.no 17 rfl (by kernel_rfl) ?_ ⟨_, rfl, rfl⟩
                      refine Drw.a 18 rfl (by kernel_rfl) (Yv.pick0 rfl rfl) ?_
                      refine Drw.done ?_ (by kernel_rfl)
                      refine ⟨hs168, Sub.le ⟨rfl, rfl, rfl, rfl, rfl, rfl, rfl, rfl, rfl, rfl, rfl, rfl, rfl, rfl, rfl, rfl, rfl, rfl, lookB rfl (by first | (simp only [h170, h171, not_true_eq_false, not_false_eq_true, or_true, true_or, or_false, false_or, and_true, true_and, and_false, false_and, decide_true, decide_false, or_self, and_self, Bool.decide_eq_true]; done) | simp [h170, h171]), trivial⟩⟩
                  · -- no
                    refine Drw.a 1 rfl (by kernel_rfl) (Yv.not rfl) ?_
                    refine Drw.a 2 rfl (by kernel_rfl) (Yv.move rfl) ?_
                    refine Drw.no 3 rfl (by kernel_rfl) ?_ ⟨_, rfl, rfl⟩
                    refine Drw.no 4 rfl (by kernel_rfl) ?_ ⟨_, rfl, rfl⟩
                    refine Drw.a 5 rfl (by kernel_rfl) (Yv.pick1 rfl rfl) ?_
                    refine Drw.a 6 rfl (by kernel_rfl) (Yv.move rfl) ?_
                    refine Drw.a 7 rfl (by kernel_rfl) (Yv.fld F28_2 rfl) ?_ ⟨_, rfl, rfl⟩
                    refine Drw.l 8 rfl (by kernel_rfl) hS169 (Yv.load A23 rfl (fun _ hq_ => ((hs168.grow hq_).cell 1 rfl 2 rfl))) ?_ ⟨_, rfl, rfl⟩
                    refine Drw.a 9 rfl (by kernel_rfl) (Yv.move rfl) ?_ ⟨_, rfl, rfl⟩
                    refine Drw.a 10 rfl (by kernel_rfl) (Yv.idx L23 rfl rfl ((hs168.rdRow 0 rfl).isSome (i := (k : Int)) (by omega) (by omega)) (by omega) (by omega)) ?_ ⟨_, rfl, rfl⟩
                    refine Drw.l 11 rfl (by kernel_rfl) hS169 (Yv.load A5 rfl (fun _ hq_ => (((hs168.grow hq_).rdRow 0 rfl).u8 (by omega) (by omega)))) ?_ ⟨_, rfl, rfl⟩
                    have g174 := gi_bytes (xs := passF up co W H (W / 4) (List.replicate ((H / 4).toNat * (W / 4).toNat) sz) (idsTo (W / 4).toNat (sz / 4) ((H / 4).toNat * (W / 4).toNat)) (List.replicate ((H / 4).toNat * (W / 4).toNat) false) lv (bringF sh0 8) (fitTo xs (W * H).toNat)) (passF_bytes _ _ _ _ _ _ _ _ _ _ (fitTo_bytes hx _)) (k : Int)
                    refine Drw.a 12 rfl (by kernel_rfl) (Yv.fld F28_2 rfl) ?_ ⟨_, rfl, rfl⟩
                    refine Drw.l 13 rfl (by kernel_rfl) hS169 (Yv.load A23 rfl (fun _ hq_ => ((hs168.grow hq_).cell 5 rfl 2 rfl))) ?_ ⟨_, rfl, rfl⟩
                    refine Drw.a 14 rfl (by kernel_rfl) (Yv.move rfl) ?_ ⟨_, rfl, rfl⟩
                    refine Drw.a 15 rfl (by kernel_rfl) (Yv.idx L23 rfl rfl ((hs168.rdRow 6 rfl).isSome (i := (k : Int)) (by omega) (by omega)) (by omega) (by omega)) ?_ ⟨_, rfl, rfl⟩
                    refine Drw.l 16 rfl (by kernel_rfl) hS169 (Yv.load A5 rfl (fun _ hq_ => (((hs168.grow hq_).rdRow 6 rfl).u8 (by omega) (by omega)))) ?_ ⟨_, rfl, rfl⟩
                    have g175 := gi_bytes (xs := fitTo xs (W * H).toNat) (fitTo_bytes hx _) (k : Int)
                    refine Drw.a 17 rfl (by kernel_rfl) (Yv.ne rfl rfl) ?_ ⟨_, rfl, rfl⟩
                    refine Drw.a 18 rfl (by kernel_rfl) (Yv.pick1 rfl rfl) ?_
                    refine Drw.done ?_ (by kernel_rfl)
                    refine ⟨hs168, Sub.le ⟨rfl, rfl, rfl, rfl, rfl, rfl, rfl, rfl, rfl, rfl, rfl, rfl, rfl, rfl, rfl, rfl, rfl, rfl, lookB rfl (by first | (simp only [h170, not_true_eq_false, not_false_eq_true, or_true, true_or, or_false, false_or, and_true, true_and, and_false, false_and, decide_true, decide_false, or_self, and_self, Bool.decide_eq_true]; done) | simp [h170]), trivial⟩⟩
                rintro e178 w178 ⟨hs178, he178⟩
                refine k167 _ _ ?_
                refine Run.le he178 ?_
                refine run_ifp rfl (fun h179 => ?_) (fun h179 => ?_)
                · -- yes ((¬ ((((((k : Int) % W) % sz) < (6 : Int)) ∧ (sz ≤ ((k : Int) % W))) ∨ (((sz - 6) ≤ (((k : Int) % W) % sz)) ∧ ((((((k : Int) % W) / sz) * sz) + sz) < W)))) ∨ (lv = (0 : Int))) ∧ ((gi (passF up co W H (W / 4) (List.replicate ((H / 4).toNat * (W / 4).toNat) sz) (idsTo (W / 4).toNat (sz / 4) ((H / 4).toNat * (W / 4).toNat)) (List.replicate ((H / 4).toNat * (W / 4).toNat) false) lv (bringF sh0 8) (fitTo xs (W * H).toNat)) (k : Int)) ≠ (gi (fitTo xs (W * H).toNat) (k : Int)))
                  refine run_seq fun K180 k180 => ?_
                  refine run_region ?_
                  refine Ops.v (Yv.assign rfl) ?_
                  refine Ops.nil ?_
                  refine k180 _ _ ?_
                  refine run_ret ?_
                  refine ⟨[.bool false], ⟨_, _, rfl, rfl, rfl⟩, ?_⟩
                  have hup : up = true := by simpa using h139
                  subst hup
                  exact absurd (far_up (by omega) (by omega) (by omega) h179.1) h179.2
                · -- no
                  refine run_skip ?_
                  refine k133 _ _ ?_
                  refine run_region ?_
                  refine Ops.v (Yv.move rfl) ?_
                  refine Ops.v (Yv.add rfl rfl (by omega)) ?_
                  refine Ops.v (Yv.assign rfl) ?_
                  refine Ops.nil ?_
                  refine ⟨k + 1, _, ⟨hs178, rfl, by omega⟩, Sub.le ⟨rfl, rfl, rfl, rfl, rfl, rfl, rfl, rfl, rfl, rfl, lookI rfl (by omega), rfl, rfl, trivial⟩, by omega⟩
            · -- no
              refine run_exit ?_
              refine k127 _ _ ?_
              refine run_seq fun K181 k181 => ?_
              refine run_region ?_
              refine Ops.v (Yv.assign rfl) ?_
              refine Ops.nil ?_
              refine k181 _ _ ?_
              refine run_ret ?_
              refine ⟨[.bool true], ⟨_, _, rfl, rfl, rfl⟩, ?_⟩
              exact ⟨rfl, hs129.pick [] _ (by decide) rfl⟩
    · -- operation 17 first
      refine ⟨_, _, _, _, _, _, rfl, ?_⟩
      refine Step.alloc (cs := [.int .i64 0, .int .i64 0, .slice none 0 0]) hs38 Z28 rfl (fun b182 w183 hs183 hb183 => ?_) True.intro (by rfl)
      have hS185 := hS39.trans (hb183.mono (Nat.le_trans (Nat.le_refl _) hS39.size))
      refine ⟨fun _ _ => hS185, ?_⟩
      refine Drw.one 12 rfl (by kernel_rfl) (Step.call rfl rfl (bring_fun (by omega)) (?_) True.intro (by rfl))
      rintro _ _ ⟨rfl, rfl⟩
      refine ⟨fun _ h => h, ?_⟩
      have g186 := bringF_bd (i := sh0) (n := 8) (by decide)
      refine Drw.one 13 rfl (by kernel_rfl) (Step.call rfl rfl (pass_good (hs183.rdRow 5 rfl) (fitTo_bytes hx _) (hs183.rdRow 1 rfl) (Bytes.rep (by omega)) (hs183.rdRow 2 rfl) (hs183.rdRow 3 rfl) (good_cells (by omega) (by omega) (by omega) (by omega) (by omega))) (?_) True.intro (by rfl))
      rintro _ w191 ⟨Ad188, c189, rfl, hs191⟩
      have hS192 := HS.keepS hS185 (Nat.le_refl _) hs191
      refine ⟨fun _ _ => hS192, ?_⟩
      replace hs191 := hs183.call hs191
      refine Drw.a 14 rfl (by kernel_rfl) (Yv.move rfl) ?_
      refine Drw.a 15 rfl (by kernel_rfl) (Yv.extract rfl rfl) ?_
      refine Drw.a 16 rfl (by kernel_rfl) (Yv.extract rfl rfl) ?_
      refine Drw.one 18 rfl (by kernel_rfl) (Step.store (vs := [.int .i64 W, .int .i64 H, .slice Ad188 ((W * H).toNat) c189]) 1 hs191 rfl rfl rfl rfl S28 (Nat.le_of_ble_eq_true rfl) rfl (fun w193 hs193 => ?_) True.intro)
      refine ⟨fun h => absurd h (by decide), ?_⟩
      replace hs193 : HS _ [.row _ _ _ _ _ _, .blk _ [_, _, _] _, .row _ _ _ _ _ _, .row _ _ _ _ _ _, .row _ _ _ _ _ _, .blk _ [_, _, _] _, .row _ _ _ _ _ _, .blk _ [_, _, _, _] _, .blk _ [_, _] _] _ := hs193
      refine Drw.a 19 rfl (by kernel_rfl) (Yv.assign rfl) ?_
      refine Drw.done ?_ (by kernel_rfl)
      refine k26 _ _ ?_
      refine run_seq fun K194 k194 => ?_
      refine run_seq fun K195 k195 => ?_
      refine Run.cut (fun e_ w_ => w193 = w_ ∧ Le [(0, .agg #[.int .i64 a, .int .i64 b]), (1, .slice A m c), (2, .agg #[.bool up, .bool co, .int .i64 lv0, .int .i64 sh0]), (3, .pointer (some ⟨b2, 0, none⟩)), (5, .pointer (some ⟨b5, 0, none⟩)), (6, .bool false), (7, .pointer (some ⟨b16, 0, none⟩)), (8, .int .i64 sz), (9, .int .i64 lv), (10, .pointer (some ⟨b182, 0, none⟩)), (11, .int .i64 0), (17, .bool false), (72, .bool (decide (((W * H).toNat : Int) ≠ ((W * H).toNat : Int))))] e_) ?_ ?_
      · -- region 7: its ways meet again
        refine run_region ?_
        refine Ops.v (Yv.move rfl) ?_
        refine Ops.v (Yv.ne rfl rfl) ?_
        refine Ops.dec0 (fun h_ => h_ rfl) ?_
        refine Ops.v (Yv.move rfl) ?_
        refine Ops.vg ⟨_, rfl, rfl⟩ (Yv.fld F28_0 rfl) ?_
        refine Ops.vg ⟨_, rfl, rfl⟩ (Yv.load A3 rfl (now (hs193.cell 1 rfl 0 rfl))) ?_
        refine Ops.vg ⟨_, rfl, rfl⟩ (Yv.fld F28_0 rfl) ?_
        refine Ops.vg ⟨_, rfl, rfl⟩ (Yv.load A3 rfl (now (hs193.cell 5 rfl 0 rfl))) ?_
        refine Ops.vg ⟨_, rfl, rfl⟩ (Yv.ne rfl rfl) ?_
        refine Ops.dec0 (fun h_ => h_ rfl) ?_
        refine Ops.v (Yv.pick0 rfl rfl) ?_
        refine Ops.v (Yv.move rfl) ?_
        refine Ops.vg ⟨_, rfl, rfl⟩ (Yv.fld F28_1 rfl) ?_
        refine Ops.vg ⟨_, rfl, rfl⟩ (Yv.load A3 rfl (now (hs193.cell 1 rfl 1 rfl))) ?_
        refine Ops.vg ⟨_, rfl, rfl⟩ (Yv.fld F28_1 rfl) ?_
        refine Ops.vg ⟨_, rfl, rfl⟩ (Yv.load A3 rfl (now (hs193.cell 5 rfl 1 rfl))) ?_
        refine Ops.vg ⟨_, rfl, rfl⟩ (Yv.ne rfl rfl) ?_
        refine Ops.dec0 (fun h_ => h_ rfl) ?_
        refine Ops.v (Yv.pick0 rfl rfl) ?_
        refine Ops.v (Yv.move rfl) ?_
        refine Ops.vg ⟨_, rfl, rfl⟩ (Yv.fld F28_2 rfl) ?_
        refine Ops.vg ⟨_, rfl, rfl⟩ (Yv.load A23 rfl (now (hs193.cell 1 rfl 2 rfl))) ?_
        refine Ops.vg ⟨_, rfl, rfl⟩ (Yv.len (by rw [L23]; rfl) rfl) ?_
        refine Ops.vg ⟨_, rfl, rfl⟩ (Yv.fld F28_2 rfl) ?_
        refine Ops.vg ⟨_, rfl, rfl⟩ (Yv.load A23 rfl (now (hs193.cell 5 rfl 2 rfl))) ?_
        refine Ops.vg ⟨_, rfl, rfl⟩ (Yv.len (by rw [L23]; rfl) rfl) ?_
        refine Ops.vg ⟨_, rfl, rfl⟩ (Yv.ne rfl rfl) ?_
        refine Ops.v (Yv.pick0 rfl rfl) ?_
        refine Ops.nil ?_
        refine ⟨rfl, Sub.le ⟨rfl, rfl, rfl, rfl, rfl, rfl, rfl, rfl, rfl, rfl, rfl, rfl, rfl, trivial⟩⟩
      rintro e196 _ ⟨rfl, he196⟩
      refine k195 _ _ ?_
      refine Run.le he196 ?_
      refine run_ifp rfl (fun h197 => ?_) (fun h197 => ?_)
      · -- yes ((W * H).toNat : Int) ≠ ((W * H).toNat : Int)
        refine run_seq fun K198 k198 => ?_
        refine run_region ?_
        refine Ops.v (Yv.assign rfl) ?_
        refine Ops.nil ?_
        refine k198 _ _ ?_
        refine run_ret ?_
        refine ⟨[.bool false], ⟨_, _, rfl, rfl, rfl⟩, ?_⟩
        exact absurd rfl h197
      · -- no
        refine run_skip ?_
        refine k194 _ _ ?_
        refine run_seq fun K199 k199 => ?_
        refine run_seq fun K200 k200 => ?_
        refine run_region ?_
        refine Ops.v (Yv.assign rfl) ?_
        refine Ops.nil ?_
        refine k200 _ _ ?_
        refine run_block ?_
        have hWH := mul_bd (a := W) (b := H) (x := 64) (y := 64) (by omega) (by omega) (by omega) (by omega)
        refine Run.sub [(0, _), (1, _), (2, _), (3, _), (5, _), (7, _), (8, _), (9, _), (10, _), (11, _), (12, _), (17, _), (72, _)] ⟨rfl, rfl, rfl, rfl, rfl, rfl, rfl, rfl, rfl, rfl, rfl, rfl, rfl, trivial⟩ ?_
        refine run_loop (σ := Nat) (fun k e_ w_ => HS w [.row Ad188 ((W * H).toNat) c189 (u8s (passF up co W H (W / 4) (List.replicate ((H / 4).toNat * (W / 4).toNat) sz) (idsTo (W / 4).toNat (sz / 4) ((H / 4).toNat * (W / 4).toNat)) (List.replicate ((H / 4).toNat * (W / 4).toNat) false) lv (bringF sh0 8) (fitTo xs (W * H).toNat))) 5 1, .blk b182 [.int .i64 W, .int .i64 H, .slice Ad188 ((W * H).toNat) c189] 28, .row Ad29 ((H / 4).toNat * (W / 4).toNat) c32 (u8s (List.replicate ((H / 4).toNat * (W / 4).toNat) sz)) 5 1, .row Ad30 ((H / 4).toNat * (W / 4).toNat) c33 (i64s (idsTo (W / 4).toNat (sz / 4) ((H / 4).toNat * (W / 4).toNat))) 3 1, .row Ad31 ((H / 4).toNat * (W / 4).toNat) c34 (bools (List.replicate ((H / 4).toNat * (W / 4).toNat) false)) 4 1, .blk b16 [.int .i64 W, .int .i64 H, .slice Ad12 ((W * H).toNat) c13] 28, .row Ad12 ((W * H).toNat) c13 (u8s (fitTo xs (W * H).toNat)) 5 1, .blk b5 [.bool up, .bool co, .int .i64 lv0, .int .i64 sh0] 25, .blk b2 [.int .i64 a, .int .i64 b] 22] w_ ∧ e_ = [(0, .agg #[.int .i64 a, .int .i64 b]), (1, .slice A m c), (2, .agg #[.bool up, .bool co, .int .i64 lv0, .int .i64 sh0]), (3, .pointer (some ⟨b2, 0, none⟩)), (5, .pointer (some ⟨b5, 0, none⟩)), (7, .pointer (some ⟨b16, 0, none⟩)), (8, .int .i64 sz), (9, .int .i64 lv), (10, .pointer (some ⟨b182, 0, none⟩)), (11, .int .i64 0), (12, .int .i64 (k : Int)), (17, .bool false), (72, .bool (decide (((W * H).toNat : Int) ≠ ((W * H).toNat : Int))))] ∧ k ≤ (W * H).toNat)
          (fun k => (W * H).toNat - k) 0 ?_ ?_
        · -- at the start
          refine ⟨hs193, rfl, by omega⟩
        · -- a round
          rintro k _ w201 ⟨hs201, rfl, f1⟩
          refine run_seq fun K202 k202 => ?_
          refine run_seq fun K203 k203 => ?_
          refine run_region ?_
          refine Ops.v (Yv.move rfl) ?_
          refine Ops.v (Yv.fld F28_2 rfl) ?_
          refine Ops.v (Yv.load A23 rfl (now (hs201.cell 5 rfl 2 rfl))) ?_
          refine Ops.v (Yv.len (by rw [L23]; rfl) rfl) ?_
          refine Ops.v (Yv.lt rfl rfl) ?_
          refine Ops.nil ?_
          refine k203 _ _ ?_
          refine run_ifp rfl (fun h204 => ?_) (fun h204 => ?_)
          · -- yes (k : Int) < ((W * H).toNat : Int)
            have hk1 : (k : Int) < W * H := by omega
            have hkm : 0 ≤ (k : Int) % W ∧ (k : Int) % W < W := ⟨Int.emod_nonneg _ (by omega), Int.emod_lt_of_pos _ (by omega)⟩
            have hkd : 0 ≤ (k : Int) / W ∧ (k : Int) / W < H := ⟨Int.ediv_nonneg (by omega) (by omega), Int.ediv_lt_of_lt_mul (by omega) (by rw [Int.mul_comm]; omega)⟩
            refine run_skip ?_
            refine k202 _ _ ?_
            refine run_seq fun K205 k205 => ?_
            refine run_block ?_
            refine run_seq fun K206 k206 => ?_
            refine run_drawn [] (fun x => Below (w201.drew).heap.size (w201.drew) x) ?_ Tf.mixed (by kernel_rfl) (fun _ _ _ h => h)
            have hs207 := hs201.drew
            have hS208 := Below.refl (w201.drew).heap.size (w201.drew)
            refine Drw.a 0 rfl (by kernel_rfl) (Yv.move rfl) ?_
            refine Drw.a 1 rfl (by kernel_rfl) (Yv.fld F28_0 rfl) ?_
            refine Drw.l 2 rfl (by kernel_rfl) hS208 (Yv.load A3 rfl (fun _ hq_ => ((hs207.grow hq_).cell 5 rfl 0 rfl))) ?_
            refine Drw.a 3 rfl (by kernel_rfl) (Yv.rem rfl rfl (by omega) (by omega)) ?_
            refine Drw.a 4 rfl (by kernel_rfl) (Yv.fld F28_0 rfl) ?_
            refine Drw.l 5 rfl (by kernel_rfl) hS208 (Yv.load A3 rfl (fun _ hq_ => ((hs207.grow hq_).cell 5 rfl 0 rfl))) ?_
            refine Drw.a 6 rfl (by kernel_rfl) (Yv.assign rfl) ?_
            refine Drw.a 7 rfl (by kernel_rfl) (Yv.assign rfl) ?_
            refine Drw.done ?_ (by kernel_rfl)
            refine k206 _ _ ?_
            refine run_seq fun K209 k209 => ?_
            refine run_seq fun K210 k210 => ?_
            refine run_region ?_
            refine Ops.v (Yv.fld F25_0 rfl) ?_
            refine Ops.v (Yv.load A4 rfl (now (hs207.cell 7 rfl 0 rfl))) ?_
            refine Ops.v (Yv.not rfl) ?_
            refine Ops.nil ?_
            refine k210 _ _ ?_
            refine run_if rfl (fun h211 => ?_) (fun h211 => ?_)
            · -- yes !up
              refine run_seq fun K212 k212 => ?_
              refine run_region ?_
              refine Ops.v (Yv.move rfl) ?_
              refine Ops.v (Yv.fld F28_0 rfl) ?_
              refine Ops.v (Yv.load A3 rfl (now (hs207.cell 5 rfl 0 rfl))) ?_
              refine Ops.v (Yv.quo rfl rfl (by omega) (by omega) (by omega)) ?_
              refine Ops.v (Yv.assign rfl) ?_
              refine Ops.nil ?_
              refine k212 _ _ ?_
              refine run_region ?_
              refine Ops.v (Yv.fld F28_1 rfl) ?_
              refine Ops.v (Yv.load A3 rfl (now (hs207.cell 5 rfl 1 rfl))) ?_
              refine Ops.v (Yv.assign rfl) ?_
              refine Ops.nil ?_
              refine k209 _ _ ?_
              refine run_seq fun K213 k213 => ?_
              refine Run.cut (fun e_ w_ => (w201.drew) = w_ ∧ Le [(0, .agg #[.int .i64 a, .int .i64 b]), (1, .slice A m c), (2, .agg #[.bool up, .bool co, .int .i64 lv0, .int .i64 sh0]), (3, .pointer (some ⟨b2, 0, none⟩)), (5, .pointer (some ⟨b5, 0, none⟩)), (7, .pointer (some ⟨b16, 0, none⟩)), (8, .int .i64 sz), (9, .int .i64 lv), (10, .pointer (some ⟨b182, 0, none⟩)), (11, .int .i64 0), (12, .int .i64 (k : Int)), (13, .int .i64 ((k : Int) / W)), (14, .int .i64 H), (15, .bool (decide ((((((k : Int) / W) % sz) < (6 : Int)) ∧ (sz ≤ ((k : Int) / W))) ∨ (((sz - 6) ≤ (((k : Int) / W) % sz)) ∧ ((((((k : Int) / W) / sz) * sz) + sz) < H))))), (17, .bool false), (72, .bool (decide (((W * H).toNat : Int) ≠ ((W * H).toNat : Int)))), (77, .bool (decide ((k : Int) < ((W * H).toNat : Int)))), (88, .bool (!up))] e_) ?_ ?_
              · -- region 16: its ways meet again
                refine run_region ?_
                refine Ops.v (Yv.move rfl) ?_
                refine Ops.v (Yv.move rfl) ?_
                refine Ops.v (Yv.rem rfl rfl (by omega) (by omega)) ?_
                refine Ops.v (Yv.lt rfl rfl) ?_
                refine Ops.dec (fun h214 => ?_) (fun h214 => ?_)
                · -- yes
                  refine Ops.v (Yv.move rfl) ?_
                  refine Ops.vg ⟨_, rfl, rfl⟩ (Yv.move rfl) ?_
                  refine Ops.vg ⟨_, rfl, rfl⟩ (Yv.move rfl) ?_
                  refine Ops.vg ⟨_, rfl, rfl⟩ (Yv.ge rfl rfl) ?_
                  refine Ops.dec (fun h215 => ?_) (fun h215 => ?_)
                  · -- yes
                    refine Ops.v (Yv.pick1 rfl rfl) ?_
                    refine Ops.v (Yv.move rfl) ?_
                    refine Ops.skip ⟨_, rfl, rfl⟩ ?_
                    refine Ops.skip ⟨_, rfl, rfl⟩ ?_
                    refine Ops.skip ⟨_, rfl, rfl⟩ ?_
                    refine Ops.skip ⟨_, rfl, rfl⟩ ?_
                    refine Ops.skip ⟨_, rfl, rfl⟩ ?_
                    refine Ops.skip ⟨_, rfl, rfl⟩ ?_
                    refine Ops.skip ⟨_, rfl, rfl⟩ ?_
                    refine Ops.skip ⟨_, rfl, rfl⟩ ?_
                    refine Ops.skip ⟨_, rfl, rfl⟩ ?_
                    refine Ops.skip ⟨_, rfl, rfl⟩ ?_
                    refine Ops.skip ⟨_, rfl, rfl⟩ ?_
                    refine Ops.skip ⟨_, rfl, rfl⟩ ?_
                    refine Ops.skip ⟨_, rfl, rfl⟩ ?_
                    refine Ops.skip ⟨_, rfl, rfl⟩ ?_
                    refine Ops.skip ⟨_, rfl, rfl⟩ ?_
                    refine Ops.skip ⟨_, rfl, rfl⟩ ?_
                    refine Ops.skip ⟨_, rfl, rfl⟩ ?_
                    refine Ops.v (Yv.pick1 rfl rfl) ?_
                    refine Ops.v (Yv.assign rfl) ?_
                    refine Ops.nil ?_
                    refine ⟨rfl, Sub.le ⟨rfl, rfl, rfl, rfl, rfl, rfl, rfl, rfl, rfl, rfl, rfl, rfl, rfl, lookB rfl (by first | (simp only [h214, h215, not_true_eq_false, not_false_eq_true, or_true, true_or, or_false, false_or, and_true, true_and, and_false, false_and, decide_true, decide_false, or_self, and_self, Bool.decide_eq_true]; done) | simp [h214, h215]), rfl, rfl, rfl, rfl, trivial⟩⟩
                  · -- no
                    refine Ops.v (Yv.pick1 rfl rfl) ?_
                    refine Ops.v (Yv.move rfl) ?_
                    refine Ops.vg ⟨_, rfl, rfl⟩ (Yv.move rfl) ?_
                    refine Ops.vg ⟨_, rfl, rfl⟩ (Yv.move rfl) ?_
                    refine Ops.vg ⟨_, rfl, rfl⟩ (Yv.rem rfl rfl (by omega) (by omega)) ?_
                    refine Ops.vg ⟨_, rfl, rfl⟩ (Yv.move rfl) ?_
                    refine Ops.vg ⟨_, rfl, rfl⟩ (Yv.sub rfl rfl (by omega)) ?_
                    refine Ops.vg ⟨_, rfl, rfl⟩ (Yv.ge rfl rfl) ?_
                    refine Ops.dec (fun h216 => ?_) (fun h216 => ?_)
                    · -- yes
                      refine Ops.vg ⟨_, rfl, rfl⟩ (Yv.move rfl) ?_
                      refine Ops.vg ⟨_, rfl, rfl⟩ (Yv.move rfl) ?_
                      refine Ops.vg ⟨_, rfl, rfl⟩ (Yv.move rfl) ?_
                      have hdz := div_bd (a := ((k : Int) / W)) (b := sz) (by omega) (by omega)
                      refine Ops.vg ⟨_, rfl, rfl⟩ (Yv.quo rfl rfl (by omega) (by omega) (by omega)) ?_
                      refine Ops.vg ⟨_, rfl, rfl⟩ (Yv.move rfl) ?_
                      have hdm := mul_bd (a := ((k : Int) / W) / sz) (b := sz) (x := 64) (y := 64) (by omega) (by omega) (by omega) (by omega)
                      refine Ops.vg ⟨_, rfl, rfl⟩ (Yv.mul rfl rfl (by omega)) ?_
                      refine Ops.vg ⟨_, rfl, rfl⟩ (Yv.move rfl) ?_
                      refine Ops.vg ⟨_, rfl, rfl⟩ (Yv.add rfl rfl (by omega)) ?_
                      refine Ops.vg ⟨_, rfl, rfl⟩ (Yv.move rfl) ?_
                      refine Ops.vg ⟨_, rfl, rfl⟩ (Yv.lt rfl rfl) ?_
                      refine Ops.vg ⟨_, rfl, rfl⟩ (Yv.pick1 rfl rfl) ?_
                      refine Ops.v (Yv.pick0 rfl rfl) ?_
                      refine Ops.v (Yv.assign rfl) ?_
                      refine Ops.nil ?_
                      refine ⟨rfl, Sub.le ⟨rfl, rfl, rfl, rfl, rfl, rfl, rfl, rfl, rfl, rfl, rfl, rfl, rfl, lookB rfl (by first | (simp only [h214, h215, h216, not_true_eq_false, not_false_eq_true, or_true, true_or, or_false, false_or, and_true, true_and, and_false, false_and, decide_true, decide_false, or_self, and_self, Bool.decide_eq_true]; done) | simp [h214, h215, h216]), rfl, rfl, rfl, rfl, trivial⟩⟩
                    · -- no
                      refine Ops.vg ⟨_, rfl, rfl⟩ (Yv.move rfl) ?_
                      refine Ops.skip ⟨_, rfl, rfl⟩ ?_
                      refine Ops.skip ⟨_, rfl, rfl⟩ ?_
                      refine Ops.skip ⟨_, rfl, rfl⟩ ?_
                      refine Ops.skip ⟨_, rfl, rfl⟩ ?_
                      refine Ops.skip ⟨_, rfl, rfl⟩ ?_
                      refine Ops.skip ⟨_, rfl, rfl⟩ ?_
                      refine Ops.skip ⟨_, rfl, rfl⟩ ?_
                      refine Ops.skip ⟨_, rfl, rfl⟩ ?_
                      refine Ops.skip ⟨_, rfl, rfl⟩ ?_
                      refine Ops.vg ⟨_, rfl, rfl⟩ (Yv.pick0 rfl rfl) ?_
                      refine Ops.v (Yv.pick0 rfl rfl) ?_
                      refine Ops.v (Yv.assign rfl) ?_
                      refine Ops.nil ?_
                      refine ⟨rfl, Sub.le ⟨rfl, rfl, rfl, rfl, rfl, rfl, rfl, rfl, rfl, rfl, rfl, rfl, rfl, lookB rfl (by first | (simp only [h214, h215, h216, not_true_eq_false, not_false_eq_true, or_true, true_or, or_false, false_or, and_true, true_and, and_false, false_and, decide_true, decide_false, or_self, and_self, Bool.decide_eq_true]; done) | simp [h214, h215, h216]), rfl, rfl, rfl, rfl, trivial⟩⟩
                · -- no
                  refine Ops.v (Yv.move rfl) ?_
                  refine Ops.skip ⟨_, rfl, rfl⟩ ?_
                  refine Ops.skip ⟨_, rfl, rfl⟩ ?_
                  refine Ops.skip ⟨_, rfl, rfl⟩ ?_
                  refine Ops.v (Yv.pick0 rfl rfl) ?_
                  refine Ops.v (Yv.move rfl) ?_
                  refine Ops.vg ⟨_, rfl, rfl⟩ (Yv.move rfl) ?_
                  refine Ops.vg ⟨_, rfl, rfl⟩ (Yv.move rfl) ?_
                  refine Ops.vg ⟨_, rfl, rfl⟩ (Yv.rem rfl rfl (by omega) (by omega)) ?_
                  refine Ops.vg ⟨_, rfl, rfl⟩ (Yv.move rfl) ?_
                  refine Ops.vg ⟨_, rfl, rfl⟩ (Yv.sub rfl rfl (by omega)) ?_
                  refine Ops.vg ⟨_, rfl, rfl⟩ (Yv.ge rfl rfl) ?_
                  refine Ops.dec (fun h217 => ?_) (fun h217 => ?_)
                  · -- yes
                    refine Ops.vg ⟨_, rfl, rfl⟩ (Yv.move rfl) ?_
                    refine Ops.vg ⟨_, rfl, rfl⟩ (Yv.move rfl) ?_
                    refine Ops.vg ⟨_, rfl, rfl⟩ (Yv.move rfl) ?_
                    have hdz := div_bd (a := ((k : Int) / W)) (b := sz) (by omega) (by omega)
                    refine Ops.vg ⟨_, rfl, rfl⟩ (Yv.quo rfl rfl (by omega) (by omega) (by omega)) ?_
                    refine Ops.vg ⟨_, rfl, rfl⟩ (Yv.move rfl) ?_
                    have hdm := mul_bd (a := ((k : Int) / W) / sz) (b := sz) (x := 64) (y := 64) (by omega) (by omega) (by omega) (by omega)
                    refine Ops.vg ⟨_, rfl, rfl⟩ (Yv.mul rfl rfl (by omega)) ?_
                    refine Ops.vg ⟨_, rfl, rfl⟩ (Yv.move rfl) ?_
                    refine Ops.vg ⟨_, rfl, rfl⟩ (Yv.add rfl rfl (by omega)) ?_
                    refine Ops.vg ⟨_, rfl, rfl⟩ (Yv.move rfl) ?_
                    refine Ops.vg ⟨_, rfl, rfl⟩ (Yv.lt rfl rfl) ?_
                    refine Ops.vg ⟨_, rfl, rfl⟩ (Yv.pick1 rfl rfl) ?_
                    refine Ops.v (Yv.pick0 rfl rfl) ?_
                    refine Ops.v (Yv.assign rfl) ?_
                    refine Ops.nil ?_
                    refine ⟨rfl, Sub.le ⟨rfl, rfl, rfl, rfl, rfl, rfl, rfl, rfl, rfl, rfl, rfl, rfl, rfl, lookB rfl (by first | (simp only [h214, h217, not_true_eq_false, not_false_eq_true, or_true, true_or, or_false, false_or, and_true, true_and, and_false, false_and, decide_true, decide_false, or_self, and_self, Bool.decide_eq_true]; done) | simp [h214, h217]), rfl, rfl, rfl, rfl, trivial⟩⟩
                  · -- no
                    refine Ops.vg ⟨_, rfl, rfl⟩ (Yv.move rfl) ?_
                    refine Ops.skip ⟨_, rfl, rfl⟩ ?_
                    refine Ops.skip ⟨_, rfl, rfl⟩ ?_
                    refine Ops.skip ⟨_, rfl, rfl⟩ ?_
                    refine Ops.skip ⟨_, rfl, rfl⟩ ?_
                    refine Ops.skip ⟨_, rfl, rfl⟩ ?_
                    refine Ops.skip ⟨_, rfl, rfl⟩ ?_
                    refine Ops.skip ⟨_, rfl, rfl⟩ ?_
                    refine Ops.skip ⟨_, rfl, rfl⟩ ?_
                    refine Ops.skip ⟨_, rfl, rfl⟩ ?_
                    refine Ops.vg ⟨_, rfl, rfl⟩ (Yv.pick0 rfl rfl) ?_
                    refine Ops.v (Yv.pick0 rfl rfl) ?_
                    refine Ops.v (Yv.assign rfl) ?_
                    refine Ops.nil ?_
                    refine ⟨rfl, Sub.le ⟨rfl, rfl, rfl, rfl, rfl, rfl, rfl, rfl, rfl, rfl, rfl, rfl, rfl, lookB rfl (by first | (simp only [h214, h217, not_true_eq_false, not_false_eq_true, or_true, true_or, or_false, false_or, and_true, true_and, and_false, false_and, decide_true, decide_false, or_self, and_self, Bool.decide_eq_true]; done) | simp [h214, h217]), rfl, rfl, rfl, rfl, trivial⟩⟩
              rintro e218 _ ⟨rfl, he218⟩
              refine k213 _ _ ?_
              refine Run.le he218 ?_
              refine run_seq fun K219 k219 => ?_
              refine Run.cut (fun e_ w_ => HS w [.row Ad188 ((W * H).toNat) c189 (u8s (passF up co W H (W / 4) (List.replicate ((H / 4).toNat * (W / 4).toNat) sz) (idsTo (W / 4).toNat (sz / 4) ((H / 4).toNat * (W / 4).toNat)) (List.replicate ((H / 4).toNat * (W / 4).toNat) false) lv (bringF sh0 8) (fitTo xs (W * H).toNat))) 5 1, .blk b182 [.int .i64 W, .int .i64 H, .slice Ad188 ((W * H).toNat) c189] 28, .row Ad29 ((H / 4).toNat * (W / 4).toNat) c32 (u8s (List.replicate ((H / 4).toNat * (W / 4).toNat) sz)) 5 1, .row Ad30 ((H / 4).toNat * (W / 4).toNat) c33 (i64s (idsTo (W / 4).toNat (sz / 4) ((H / 4).toNat * (W / 4).toNat))) 3 1, .row Ad31 ((H / 4).toNat * (W / 4).toNat) c34 (bools (List.replicate ((H / 4).toNat * (W / 4).toNat) false)) 4 1, .blk b16 [.int .i64 W, .int .i64 H, .slice Ad12 ((W * H).toNat) c13] 28, .row Ad12 ((W * H).toNat) c13 (u8s (fitTo xs (W * H).toNat)) 5 1, .blk b5 [.bool up, .bool co, .int .i64 lv0, .int .i64 sh0] 25, .blk b2 [.int .i64 a, .int .i64 b] 22] w_ ∧ Le [(0, .agg #[.int .i64 a, .int .i64 b]), (1, .slice A m c), (2, .agg #[.bool up, .bool co, .int .i64 lv0, .int .i64 sh0]), (3, .pointer (some ⟨b2, 0, none⟩)), (5, .pointer (some ⟨b5, 0, none⟩)), (7, .pointer (some ⟨b16, 0, none⟩)), (8, .int .i64 sz), (9, .int .i64 lv), (10, .pointer (some ⟨b182, 0, none⟩)), (11, .int .i64 0), (12, .int .i64 (k : Int)), (13, .int .i64 ((k : Int) / W)), (14, .int .i64 H), (15, .bool (decide ((((((k : Int) / W) % sz) < (6 : Int)) ∧ (sz ≤ ((k : Int) / W))) ∨ (((sz - 6) ≤ (((k : Int) / W) % sz)) ∧ ((((((k : Int) / W) / sz) * sz) + sz) < H))))), (17, .bool false), (72, .bool (decide (((W * H).toNat : Int) ≠ ((W * H).toNat : Int)))), (77, .bool (decide ((k : Int) < ((W * H).toNat : Int)))), (88, .bool (!up)), (141, .bool (decide (((¬ ((((((k : Int) / W) % sz) < (6 : Int)) ∧ (sz ≤ ((k : Int) / W))) ∨ (((sz - 6) ≤ (((k : Int) / W) % sz)) ∧ ((((((k : Int) / W) / sz) * sz) + sz) < H)))) ∨ (lv = (0 : Int))) ∧ ((gi (passF up co W H (W / 4) (List.replicate ((H / 4).toNat * (W / 4).toNat) sz) (idsTo (W / 4).toNat (sz / 4) ((H / 4).toNat * (W / 4).toNat)) (List.replicate ((H / 4).toNat * (W / 4).toNat) false) lv (bringF sh0 8) (fitTo xs (W * H).toNat)) (k : Int)) ≠ (gi (fitTo xs (W * H).toNat) (k : Int))))))] e_) ?_ ?_
              · -- region 17: its ways meet again
                refine run_drawn [] (fun x => Below ((w201.drew).drew).heap.size ((w201.drew).drew) x) ?_ Tf.mixed (by kernel_rfl) (fun _ _ _ h => h)
                have hs220 := hs207.drew
                have hS221 := Below.refl ((w201.drew).drew).heap.size ((w201.drew).drew)
                refine Drw.a 0 rfl (by kernel_rfl) (Yv.move rfl) ?_
                refine Drw.dec (fun h222 => ?_) (fun h222 => ?_)
                · -- yes
                  refine Drw.a 1 rfl (by kernel_rfl) (Yv.not rfl) ?_
                  refine Drw.a 2 rfl (by kernel_rfl) (Yv.move rfl) ?_
                  refine Drw.a 3 rfl (by kernel_rfl) (Yv.move rfl) ?_ ⟨_, rfl, rfl⟩
                  refine Drw.a 4 rfl (by kernel_rfl) (Yv.eq rfl rfl) ?_ ⟨_, rfl, rfl⟩
                  refine Drw.dec (fun h223 => ?_) (fun h223 => ?_)
                  · -- yes
                    refine Drw.a 5 rfl (by kernel_rfl) (Yv.pick0 rfl rfl) ?_
                    refine Drw.a 6 rfl (by kernel_rfl) (Yv.move rfl) ?_
                    refine Drw.a 7 rfl (by kernel_rfl) (Yv.fld F28_2 rfl) ?_ ⟨_, rfl, rfl⟩
                    refine Drw.l 8 rfl (by kernel_rfl) hS221 (Yv.load A23 rfl (fun _ hq_ => ((hs220.grow hq_).cell 1 rfl 2 rfl))) ?_ ⟨_, rfl, rfl⟩
                    refine Drw.a 9 rfl (by kernel_rfl) (Yv.move rfl) ?_ ⟨_, rfl, rfl⟩
                    refine Drw.a 10 rfl (by kernel_rfl) (Yv.idx L23 rfl rfl ((hs220.rdRow 0 rfl).isSome (i := (k : Int)) (by omega) (by omega)) (by omega) (by omega)) ?_ ⟨_, rfl, rfl⟩
                    refine Drw.l 11 rfl (by kernel_rfl) hS221 (Yv.load A5 rfl (fun _ hq_ => (((hs220.grow hq_).rdRow 0 rfl).u8 (by omega) (by omega)))) ?_ ⟨_, rfl, rfl⟩
                    have g224 := gi_bytes (xs := passF up co W H (W / 4) (List.replicate ((H / 4).toNat * (W / 4).toNat) sz) (idsTo (W / 4).toNat (sz / 4) ((H / 4).toNat * (W / 4).toNat)) (List.replicate ((H / 4).toNat * (W / 4).toNat) false) lv (bringF sh0 8) (fitTo xs (W * H).toNat)) (passF_bytes _ _ _ _ _ _ _ _ _ _ (fitTo_bytes hx _)) (k : Int)
                    refine Drw.a 12 rfl (by kernel_rfl) (Yv.fld F28_2 rfl) ?_ ⟨_, rfl, rfl⟩
                    refine Drw.l 13 rfl (by kernel_rfl) hS221 (Yv.load A23 rfl (fun _ hq_ => ((hs220.grow hq_).cell 5 rfl 2 rfl))) ?_ ⟨_, rfl, rfl⟩
                    refine Drw.a 14 rfl (by kernel_rfl) (Yv.move rfl) ?_ ⟨_, rfl, rfl⟩
                    refine Drw.a 15 rfl (by kernel_rfl) (Yv.idx L23 rfl rfl ((hs220.rdRow 6 rfl).isSome (i := (k : Int)) (by omega) (by omega)) (by omega) (by omega)) ?_ ⟨_, rfl, rfl⟩
                    refine Drw.l 16 rfl (by kernel_rfl) hS221 (Yv.load A5 rfl (fun _ hq_ => (((hs220.grow hq_).rdRow 6 rfl).u8 (by omega) (by omega)))) ?_ ⟨_, rfl, rfl⟩
                    have g225 := gi_bytes (xs := fitTo xs (W * H).toNat) (fitTo_bytes hx _) (k : Int)
                    refine Drw.a 17 rfl (by kernel_rfl) (Yv.ne rfl rfl) ?_ ⟨_, rfl, rfl⟩
                    refine Drw.a 18 rfl (by kernel_rfl) (Yv.pick1 rfl rfl) ?_
                    refine Drw.done ?_ (by kernel_rfl)
                    refine ⟨hs220, Sub.le ⟨rfl, rfl, rfl, rfl, rfl, rfl, rfl, rfl, rfl, rfl, rfl, rfl, rfl, rfl, rfl, rfl, rfl, rfl, lookB rfl (by first | (simp only [h222, h223, not_true_eq_false, not_false_eq_true, or_true, true_or, or_false, false_or, and_true, true_and, and_false, false_and, decide_true, decide_false, or_self, and_self, Bool.decide_eq_true]; done) | simp [h222, h223]), trivial⟩⟩
                  · -- no
                    refine Drw.a 5 rfl (by kernel_rfl) (Yv.pick0 rfl rfl) ?_
                    refine Drw.a 6 rfl (by kernel_rfl) (Yv.move rfl) ?_
                    refine Drw.no 7 rfl (by kernel_rfl) ?_ ⟨_, rfl, rfl⟩
                    refine Drw.no 8 rfl (by kernel_rfl) ?_ ⟨_, rfl, rfl⟩
                    refine Drw.no 9 rfl (by kernel_rfl) ?_ ⟨_, rfl, rfl⟩
                    refine Drw.no 10 rfl (by kernel_rfl) ?_ ⟨_, rfl, rfl⟩
                    refine Drw.no 11 rfl (by kernel_rfl) ?_ ⟨_, rfl, rfl⟩
                    refine Drw.no 12 rfl (by kernel_rfl) ?_ ⟨_, rfl, rfl⟩
                    refine Drw.no 13 rfl (by kernel_rfl) ?_ ⟨_, rfl, rfl⟩
                    refine Drw.no 14 rfl (by kernel_rfl) ?_ ⟨_, rfl, rfl⟩
                    refine Drw.no 15 rfl (by kernel_rfl) ?_ ⟨_, rfl, rfl⟩
                    refine Drw.no 16 rfl (by kernel_rfl) ?_ ⟨_, rfl, rfl⟩
                    refine Drw.no 17 rfl (by kernel_rfl) ?_ ⟨_, rfl, rfl⟩
                    refine Drw.a 18 rfl (by kernel_rfl) (Yv.pick0 rfl rfl) ?_
                    refine Drw.done ?_ (by kernel_rfl)
                    refine ⟨hs220, Sub.le ⟨rfl, rfl, rfl, rfl, rfl, rfl, rfl, rfl, rfl, rfl, rfl, rfl, rfl, rfl, rfl, rfl, rfl, rfl, lookB rfl (by first | (simp only [h222, h223, not_true_eq_false, not_false_eq_true, or_true, true_or, or_false, false_or, and_true, true_and, and_false, false_and, decide_true, decide_false, or_self, and_self, Bool.decide_eq_true]; done) | simp [h222, h223]), trivial⟩⟩
                · -- no
                  refine Drw.a 1 rfl (by kernel_rfl) (Yv.not rfl) ?_
                  refine Drw.a 2 rfl (by kernel_rfl) (Yv.move rfl) ?_
                  refine Drw.no 3 rfl (by kernel_rfl) ?_ ⟨_, rfl, rfl⟩
                  refine Drw.no 4 rfl (by kernel_rfl) ?_ ⟨_, rfl, rfl⟩
                  refine Drw.a 5 rfl (by kernel_rfl) (Yv.pick1 rfl rfl) ?_
                  refine Drw.a 6 rfl (by kernel_rfl) (Yv.move rfl) ?_
                  refine Drw.a 7 rfl (by kernel_rfl) (Yv.fld F28_2 rfl) ?_ ⟨_, rfl, rfl⟩
                  refine Drw.l 8 rfl (by kernel_rfl) hS221 (Yv.load A23 rfl (fun _ hq_ => ((hs220.grow hq_).cell 1 rfl 2 rfl))) ?_ ⟨_, rfl, rfl⟩
                  refine Drw.a 9 rfl (by kernel_rfl) (Yv.move rfl) ?_ ⟨_, rfl, rfl⟩
                  refine Drw.a 10 rfl (by kernel_rfl) (Yv.idx L23 rfl rfl ((hs220.rdRow 0 rfl).isSome (i := (k : Int)) (by omega) (by omega)) (by omega) (by omega)) ?_ ⟨_, rfl, rfl⟩
                  refine Drw.l 11 rfl (by kernel_rfl) hS221 (Yv.load A5 rfl (fun _ hq_ => (((hs220.grow hq_).rdRow 0 rfl).u8 (by omega) (by omega)))) ?_ ⟨_, rfl, rfl⟩
                  have g226 := gi_bytes (xs := passF up co W H (W / 4) (List.replicate ((H / 4).toNat * (W / 4).toNat) sz) (idsTo (W / 4).toNat (sz / 4) ((H / 4).toNat * (W / 4).toNat)) (List.replicate ((H / 4).toNat * (W / 4).toNat) false) lv (bringF sh0 8) (fitTo xs (W * H).toNat)) (passF_bytes _ _ _ _ _ _ _ _ _ _ (fitTo_bytes hx _)) (k : Int)
                  refine Drw.a 12 rfl (by kernel_rfl) (Yv.fld F28_2 rfl) ?_ ⟨_, rfl, rfl⟩
                  refine Drw.l 13 rfl (by kernel_rfl) hS221 (Yv.load A23 rfl (fun _ hq_ => ((hs220.grow hq_).cell 5 rfl 2 rfl))) ?_ ⟨_, rfl, rfl⟩
                  refine Drw.a 14 rfl (by kernel_rfl) (Yv.move rfl) ?_ ⟨_, rfl, rfl⟩
                  refine Drw.a 15 rfl (by kernel_rfl) (Yv.idx L23 rfl rfl ((hs220.rdRow 6 rfl).isSome (i := (k : Int)) (by omega) (by omega)) (by omega) (by omega)) ?_ ⟨_, rfl, rfl⟩
                  refine Drw.l 16 rfl (by kernel_rfl) hS221 (Yv.load A5 rfl (fun _ hq_ => (((hs220.grow hq_).rdRow 6 rfl).u8 (by omega) (by omega)))) ?_ ⟨_, rfl, rfl⟩
                  have g227 := gi_bytes (xs := fitTo xs (W * H).toNat) (fitTo_bytes hx _) (k : Int)
                  refine Drw.a 17 rfl (by kernel_rfl) (Yv.ne rfl rfl) ?_ ⟨_, rfl, rfl⟩
                  refine Drw.a 18 rfl (by kernel_rfl) (Yv.pick1 rfl rfl) ?_
                  refine Drw.done ?_ (by kernel_rfl)
                  refine ⟨hs220, Sub.le ⟨rfl, rfl, rfl, rfl, rfl, rfl, rfl, rfl, rfl, rfl, rfl, rfl, rfl, rfl, rfl, rfl, rfl, rfl, lookB rfl (by first | (simp only [h222, not_true_eq_false, not_false_eq_true, or_true, true_or, or_false, false_or, and_true, true_and, and_false, false_and, decide_true, decide_false, or_self, and_self, Bool.decide_eq_true]; done) | simp [h222]), trivial⟩⟩
              rintro e230 w230 ⟨hs230, he230⟩
              refine k219 _ _ ?_
              refine Run.le he230 ?_
              refine run_ifp rfl (fun h231 => ?_) (fun h231 => ?_)
              · -- yes ((¬ ((((((k : Int) / W) % sz) < (6 : Int)) ∧ (sz ≤ ((k : Int) / W))) ∨ (((sz - 6) ≤ (((k : Int) / W) % sz)) ∧ ((((((k : Int) / W) / sz) * sz) + sz) < H)))) ∨ (lv = (0 : Int))) ∧ ((gi (passF up co W H (W / 4) (List.replicate ((H / 4).toNat * (W / 4).toNat) sz) (idsTo (W / 4).toNat (sz / 4) ((H / 4).toNat * (W / 4).toNat)) (List.replicate ((H / 4).toNat * (W / 4).toNat) false) lv (bringF sh0 8) (fitTo xs (W * H).toNat)) (k : Int)) ≠ (gi (fitTo xs (W * H).toNat) (k : Int)))
                refine run_seq fun K232 k232 => ?_
                refine run_region ?_
                refine Ops.v (Yv.assign rfl) ?_
                refine Ops.nil ?_
                refine k232 _ _ ?_
                refine run_ret ?_
                refine ⟨[.bool false], ⟨_, _, rfl, rfl, rfl⟩, ?_⟩
                have hup : up = false := by simpa using h211
                subst hup
                exact absurd (far_lie (by omega) (by omega) (by omega) h231.1) h231.2
              · -- no
                refine run_skip ?_
                refine k205 _ _ ?_
                refine run_region ?_
                refine Ops.v (Yv.move rfl) ?_
                refine Ops.v (Yv.add rfl rfl (by omega)) ?_
                refine Ops.v (Yv.assign rfl) ?_
                refine Ops.nil ?_
                refine ⟨k + 1, _, ⟨hs230, rfl, by omega⟩, Sub.le ⟨rfl, rfl, rfl, rfl, rfl, rfl, rfl, rfl, rfl, rfl, lookI rfl (by omega), rfl, rfl, trivial⟩, by omega⟩
            · -- no
              refine run_skip ?_
              refine k209 _ _ ?_
              refine run_seq fun K233 k233 => ?_
              refine Run.cut (fun e_ w_ => (w201.drew) = w_ ∧ Le [(0, .agg #[.int .i64 a, .int .i64 b]), (1, .slice A m c), (2, .agg #[.bool up, .bool co, .int .i64 lv0, .int .i64 sh0]), (3, .pointer (some ⟨b2, 0, none⟩)), (5, .pointer (some ⟨b5, 0, none⟩)), (7, .pointer (some ⟨b16, 0, none⟩)), (8, .int .i64 sz), (9, .int .i64 lv), (10, .pointer (some ⟨b182, 0, none⟩)), (11, .int .i64 0), (12, .int .i64 (k : Int)), (13, .int .i64 ((k : Int) % W)), (14, .int .i64 W), (15, .bool (decide ((((((k : Int) % W) % sz) < (6 : Int)) ∧ (sz ≤ ((k : Int) % W))) ∨ (((sz - 6) ≤ (((k : Int) % W) % sz)) ∧ ((((((k : Int) % W) / sz) * sz) + sz) < W))))), (17, .bool false), (72, .bool (decide (((W * H).toNat : Int) ≠ ((W * H).toNat : Int)))), (77, .bool (decide ((k : Int) < ((W * H).toNat : Int)))), (88, .bool (!up))] e_) ?_ ?_
              · -- region 16: its ways meet again
                refine run_region ?_
                refine Ops.v (Yv.move rfl) ?_
                refine Ops.v (Yv.move rfl) ?_
                refine Ops.v (Yv.rem rfl rfl (by omega) (by omega)) ?_
                refine Ops.v (Yv.lt rfl rfl) ?_
                refine Ops.dec (fun h234 => ?_) (fun h234 => ?_)
                · -- yes
                  refine Ops.v (Yv.move rfl) ?_
                  refine Ops.vg ⟨_, rfl, rfl⟩ (Yv.move rfl) ?_
                  refine Ops.vg ⟨_, rfl, rfl⟩ (Yv.move rfl) ?_
                  refine Ops.vg ⟨_, rfl, rfl⟩ (Yv.ge rfl rfl) ?_
                  refine Ops.dec (fun h235 => ?_) (fun h235 => ?_)
                  · -- yes
                    refine Ops.v (Yv.pick1 rfl rfl) ?_
                    refine Ops.v (Yv.move rfl) ?_
                    refine Ops.skip ⟨_, rfl, rfl⟩ ?_
                    refine Ops.skip ⟨_, rfl, rfl⟩ ?_
                    refine Ops.skip ⟨_, rfl, rfl⟩ ?_
                    refine Ops.skip ⟨_, rfl, rfl⟩ ?_
                    refine Ops.skip ⟨_, rfl, rfl⟩ ?_
                    refine Ops.skip ⟨_, rfl, rfl⟩ ?_
                    refine Ops.skip ⟨_, rfl, rfl⟩ ?_
                    refine Ops.skip ⟨_, rfl, rfl⟩ ?_
                    refine Ops.skip ⟨_, rfl, rfl⟩ ?_
                    refine Ops.skip ⟨_, rfl, rfl⟩ ?_
                    refine Ops.skip ⟨_, rfl, rfl⟩ ?_
                    refine Ops.skip ⟨_, rfl, rfl⟩ ?_
                    refine Ops.skip ⟨_, rfl, rfl⟩ ?_
                    refine Ops.skip ⟨_, rfl, rfl⟩ ?_
                    refine Ops.skip ⟨_, rfl, rfl⟩ ?_
                    refine Ops.skip ⟨_, rfl, rfl⟩ ?_
                    refine Ops.skip ⟨_, rfl, rfl⟩ ?_
                    refine Ops.v (Yv.pick1 rfl rfl) ?_
                    refine Ops.v (Yv.assign rfl) ?_
                    refine Ops.nil ?_
                    refine ⟨rfl, Sub.le ⟨rfl, rfl, rfl, rfl, rfl, rfl, rfl, rfl, rfl, rfl, rfl, rfl, rfl, lookB rfl (by first | (simp only [h234, h235, not_true_eq_false, not_false_eq_true, or_true, true_or, or_false, false_or, and_true, true_and, and_false, false_and, decide_true, decide_false, or_self, and_self, Bool.decide_eq_true]; done) | simp [h234, h235]), rfl, rfl, rfl, rfl, trivial⟩⟩
                  · -- no
                    refine Ops.v (Yv.pick1 rfl rfl) ?_
                    refine Ops.v (Yv.move rfl) ?_
                    refine Ops.vg ⟨_, rfl, rfl⟩ (Yv.move rfl) ?_
                    refine Ops.vg ⟨_, rfl, rfl⟩ (Yv.move rfl) ?_
                    refine Ops.vg ⟨_, rfl, rfl⟩ (Yv.rem rfl rfl (by omega) (by omega)) ?_
                    refine Ops.vg ⟨_, rfl, rfl⟩ (Yv.move rfl) ?_
                    refine Ops.vg ⟨_, rfl, rfl⟩ (Yv.sub rfl rfl (by omega)) ?_
                    refine Ops.vg ⟨_, rfl, rfl⟩ (Yv.ge rfl rfl) ?_
                    refine Ops.dec (fun h236 => ?_) (fun h236 => ?_)
                    · -- yes
                      refine Ops.vg ⟨_, rfl, rfl⟩ (Yv.move rfl) ?_
                      refine Ops.vg ⟨_, rfl, rfl⟩ (Yv.move rfl) ?_
                      refine Ops.vg ⟨_, rfl, rfl⟩ (Yv.move rfl) ?_
                      have hdz := div_bd (a := ((k : Int) % W)) (b := sz) (by omega) (by omega)
                      refine Ops.vg ⟨_, rfl, rfl⟩ (Yv.quo rfl rfl (by omega) (by omega) (by omega)) ?_
                      refine Ops.vg ⟨_, rfl, rfl⟩ (Yv.move rfl) ?_
                      have hdm := mul_bd (a := ((k : Int) % W) / sz) (b := sz) (x := 64) (y := 64) (by omega) (by omega) (by omega) (by omega)
                      refine Ops.vg ⟨_, rfl, rfl⟩ (Yv.mul rfl rfl (by omega)) ?_
                      refine Ops.vg ⟨_, rfl, rfl⟩ (Yv.move rfl) ?_
                      refine Ops.vg ⟨_, rfl, rfl⟩ (Yv.add rfl rfl (by omega)) ?_
                      refine Ops.vg ⟨_, rfl, rfl⟩ (Yv.move rfl) ?_
                      refine Ops.vg ⟨_, rfl, rfl⟩ (Yv.lt rfl rfl) ?_
                      refine Ops.vg ⟨_, rfl, rfl⟩ (Yv.pick1 rfl rfl) ?_
                      refine Ops.v (Yv.pick0 rfl rfl) ?_
                      refine Ops.v (Yv.assign rfl) ?_
                      refine Ops.nil ?_
                      refine ⟨rfl, Sub.le ⟨rfl, rfl, rfl, rfl, rfl, rfl, rfl, rfl, rfl, rfl, rfl, rfl, rfl, lookB rfl (by first | (simp only [h234, h235, h236, not_true_eq_false, not_false_eq_true, or_true, true_or, or_false, false_or, and_true, true_and, and_false, false_and, decide_true, decide_false, or_self, and_self, Bool.decide_eq_true]; done) | simp [h234, h235, h236]), rfl, rfl, rfl, rfl, trivial⟩⟩
                    · -- no
                      refine Ops.vg ⟨_, rfl, rfl⟩ (Yv.move rfl) ?_
                      refine Ops.skip ⟨_, rfl, rfl⟩ ?_
                      refine Ops.skip ⟨_, rfl, rfl⟩ ?_
                      refine Ops.skip ⟨_, rfl, rfl⟩ ?_
                      refine Ops.skip ⟨_, rfl, rfl⟩ ?_
                      refine Ops.skip ⟨_, rfl, rfl⟩ ?_
                      refine Ops.skip ⟨_, rfl, rfl⟩ ?_
                      refine Ops.skip ⟨_, rfl, rfl⟩ ?_
                      refine Ops.skip ⟨_, rfl, rfl⟩ ?_
                      refine Ops.skip ⟨_, rfl, rfl⟩ ?_
                      refine Ops.vg ⟨_, rfl, rfl⟩ (Yv.pick0 rfl rfl) ?_
                      refine Ops.v (Yv.pick0 rfl rfl) ?_
                      refine Ops.v (Yv.assign rfl) ?_
                      refine Ops.nil ?_
                      refine ⟨rfl, Sub.le ⟨rfl, rfl, rfl, rfl, rfl, rfl, rfl, rfl, rfl, rfl, rfl, rfl, rfl, lookB rfl (by first | (simp only [h234, h235, h236, not_true_eq_false, not_false_eq_true, or_true, true_or, or_false, false_or, and_true, true_and, and_false, false_and, decide_true, decide_false, or_self, and_self, Bool.decide_eq_true]; done) | simp [h234, h235, h236]), rfl, rfl, rfl, rfl, trivial⟩⟩
                · -- no
                  refine Ops.v (Yv.move rfl) ?_
                  refine Ops.skip ⟨_, rfl, rfl⟩ ?_
                  refine Ops.skip ⟨_, rfl, rfl⟩ ?_
                  refine Ops.skip ⟨_, rfl, rfl⟩ ?_
                  refine Ops.v (Yv.pick0 rfl rfl) ?_
                  refine Ops.v (Yv.move rfl) ?_
                  refine Ops.vg ⟨_, rfl, rfl⟩ (Yv.move rfl) ?_
                  refine Ops.vg ⟨_, rfl, rfl⟩ (Yv.move rfl) ?_
                  refine Ops.vg ⟨_, rfl, rfl⟩ (Yv.rem rfl rfl (by omega) (by omega)) ?_
                  refine Ops.vg ⟨_, rfl, rfl⟩ (Yv.move rfl) ?_
                  refine Ops.vg ⟨_, rfl, rfl⟩ (Yv.sub rfl rfl (by omega)) ?_
                  refine Ops.vg ⟨_, rfl, rfl⟩ (Yv.ge rfl rfl) ?_
                  refine Ops.dec (fun h237 => ?_) (fun h237 => ?_)
                  · -- yes
                    refine Ops.vg ⟨_, rfl, rfl⟩ (Yv.move rfl) ?_
                    refine Ops.vg ⟨_, rfl, rfl⟩ (Yv.move rfl) ?_
                    refine Ops.vg ⟨_, rfl, rfl⟩ (Yv.move rfl) ?_
                    have hdz := div_bd (a := ((k : Int) % W)) (b := sz) (by omega) (by omega)
                    refine Ops.vg ⟨_, rfl, rfl⟩ (Yv.quo rfl rfl (by omega) (by omega) (by omega)) ?_
                    refine Ops.vg ⟨_, rfl, rfl⟩ (Yv.move rfl) ?_
                    have hdm := mul_bd (a := ((k : Int) % W) / sz) (b := sz) (x := 64) (y := 64) (by omega) (by omega) (by omega) (by omega)
                    refine Ops.vg ⟨_, rfl, rfl⟩ (Yv.mul rfl rfl (by omega)) ?_
                    refine Ops.vg ⟨_, rfl, rfl⟩ (Yv.move rfl) ?_
                    refine Ops.vg ⟨_, rfl, rfl⟩ (Yv.add rfl rfl (by omega)) ?_
                    refine Ops.vg ⟨_, rfl, rfl⟩ (Yv.move rfl) ?_
                    refine Ops.vg ⟨_, rfl, rfl⟩ (Yv.lt rfl rfl) ?_
                    refine Ops.vg ⟨_, rfl, rfl⟩ (Yv.pick1 rfl rfl) ?_
                    refine Ops.v (Yv.pick0 rfl rfl) ?_
                    refine Ops.v (Yv.assign rfl) ?_
                    refine Ops.nil ?_
                    refine ⟨rfl, Sub.le ⟨rfl, rfl, rfl, rfl, rfl, rfl, rfl, rfl, rfl, rfl, rfl, rfl, rfl, lookB rfl (by first | (simp only [h234, h237, not_true_eq_false, not_false_eq_true, or_true, true_or, or_false, false_or, and_true, true_and, and_false, false_and, decide_true, decide_false, or_self, and_self, Bool.decide_eq_true]; done) | simp [h234, h237]), rfl, rfl, rfl, rfl, trivial⟩⟩
                  · -- no
                    refine Ops.vg ⟨_, rfl, rfl⟩ (Yv.move rfl) ?_
                    refine Ops.skip ⟨_, rfl, rfl⟩ ?_
                    refine Ops.skip ⟨_, rfl, rfl⟩ ?_
                    refine Ops.skip ⟨_, rfl, rfl⟩ ?_
                    refine Ops.skip ⟨_, rfl, rfl⟩ ?_
                    refine Ops.skip ⟨_, rfl, rfl⟩ ?_
                    refine Ops.skip ⟨_, rfl, rfl⟩ ?_
                    refine Ops.skip ⟨_, rfl, rfl⟩ ?_
                    refine Ops.skip ⟨_, rfl, rfl⟩ ?_
                    refine Ops.skip ⟨_, rfl, rfl⟩ ?_
                    refine Ops.vg ⟨_, rfl, rfl⟩ (Yv.pick0 rfl rfl) ?_
                    refine Ops.v (Yv.pick0 rfl rfl) ?_
                    refine Ops.v (Yv.assign rfl) ?_
                    refine Ops.nil ?_
                    refine ⟨rfl, Sub.le ⟨rfl, rfl, rfl, rfl, rfl, rfl, rfl, rfl, rfl, rfl, rfl, rfl, rfl, lookB rfl (by first | (simp only [h234, h237, not_true_eq_false, not_false_eq_true, or_true, true_or, or_false, false_or, and_true, true_and, and_false, false_and, decide_true, decide_false, or_self, and_self, Bool.decide_eq_true]; done) | simp [h234, h237]), rfl, rfl, rfl, rfl, trivial⟩⟩
              rintro e238 _ ⟨rfl, he238⟩
              refine k233 _ _ ?_
              refine Run.le he238 ?_
              refine run_seq fun K239 k239 => ?_
              refine Run.cut (fun e_ w_ => HS w [.row Ad188 ((W * H).toNat) c189 (u8s (passF up co W H (W / 4) (List.replicate ((H / 4).toNat * (W / 4).toNat) sz) (idsTo (W / 4).toNat (sz / 4) ((H / 4).toNat * (W / 4).toNat)) (List.replicate ((H / 4).toNat * (W / 4).toNat) false) lv (bringF sh0 8) (fitTo xs (W * H).toNat))) 5 1, .blk b182 [.int .i64 W, .int .i64 H, .slice Ad188 ((W * H).toNat) c189] 28, .row Ad29 ((H / 4).toNat * (W / 4).toNat) c32 (u8s (List.replicate ((H / 4).toNat * (W / 4).toNat) sz)) 5 1, .row Ad30 ((H / 4).toNat * (W / 4).toNat) c33 (i64s (idsTo (W / 4).toNat (sz / 4) ((H / 4).toNat * (W / 4).toNat))) 3 1, .row Ad31 ((H / 4).toNat * (W / 4).toNat) c34 (bools (List.replicate ((H / 4).toNat * (W / 4).toNat) false)) 4 1, .blk b16 [.int .i64 W, .int .i64 H, .slice Ad12 ((W * H).toNat) c13] 28, .row Ad12 ((W * H).toNat) c13 (u8s (fitTo xs (W * H).toNat)) 5 1, .blk b5 [.bool up, .bool co, .int .i64 lv0, .int .i64 sh0] 25, .blk b2 [.int .i64 a, .int .i64 b] 22] w_ ∧ Le [(0, .agg #[.int .i64 a, .int .i64 b]), (1, .slice A m c), (2, .agg #[.bool up, .bool co, .int .i64 lv0, .int .i64 sh0]), (3, .pointer (some ⟨b2, 0, none⟩)), (5, .pointer (some ⟨b5, 0, none⟩)), (7, .pointer (some ⟨b16, 0, none⟩)), (8, .int .i64 sz), (9, .int .i64 lv), (10, .pointer (some ⟨b182, 0, none⟩)), (11, .int .i64 0), (12, .int .i64 (k : Int)), (13, .int .i64 ((k : Int) % W)), (14, .int .i64 W), (15, .bool (decide ((((((k : Int) % W) % sz) < (6 : Int)) ∧ (sz ≤ ((k : Int) % W))) ∨ (((sz - 6) ≤ (((k : Int) % W) % sz)) ∧ ((((((k : Int) % W) / sz) * sz) + sz) < W))))), (17, .bool false), (72, .bool (decide (((W * H).toNat : Int) ≠ ((W * H).toNat : Int)))), (77, .bool (decide ((k : Int) < ((W * H).toNat : Int)))), (88, .bool (!up)), (141, .bool (decide (((¬ ((((((k : Int) % W) % sz) < (6 : Int)) ∧ (sz ≤ ((k : Int) % W))) ∨ (((sz - 6) ≤ (((k : Int) % W) % sz)) ∧ ((((((k : Int) % W) / sz) * sz) + sz) < W)))) ∨ (lv = (0 : Int))) ∧ ((gi (passF up co W H (W / 4) (List.replicate ((H / 4).toNat * (W / 4).toNat) sz) (idsTo (W / 4).toNat (sz / 4) ((H / 4).toNat * (W / 4).toNat)) (List.replicate ((H / 4).toNat * (W / 4).toNat) false) lv (bringF sh0 8) (fitTo xs (W * H).toNat)) (k : Int)) ≠ (gi (fitTo xs (W * H).toNat) (k : Int))))))] e_) ?_ ?_
              · -- region 17: its ways meet again
                refine run_drawn [] (fun x => Below ((w201.drew).drew).heap.size ((w201.drew).drew) x) ?_ Tf.mixed (by kernel_rfl) (fun _ _ _ h => h)
                have hs240 := hs207.drew
                have hS241 := Below.refl ((w201.drew).drew).heap.size ((w201.drew).drew)
                refine Drw.a 0 rfl (by kernel_rfl) (Yv.move rfl) ?_
                refine Drw.dec (fun h242 => ?_) (fun h242 => ?_)
                · -- yes
                  refine Drw.a 1 rfl (by kernel_rfl) (Yv.not rfl) ?_
                  refine Drw.a 2 rfl (by kernel_rfl) (Yv.move rfl) ?_
                  refine Drw.a 3 rfl (by kernel_rfl) (Yv.move rfl) ?_ ⟨_, rfl, rfl⟩
                  refine Drw.a 4 rfl (by kernel_rfl) (Yv.eq rfl rfl) ?_ ⟨_, rfl, rfl⟩
                  refine Drw.dec (fun h243 => ?_) (fun h243 => ?_)
                  · -- yes
                    refine Drw.a 5 rfl (by kernel_rfl) (Yv.pick0 rfl rfl) ?_
                    refine Drw.a 6 rfl (by kernel_rfl) (Yv.move rfl) ?_
                    refine Drw.a 7 rfl (by kernel_rfl) (Yv.fld F28_2 rfl) ?_ ⟨_, rfl, rfl⟩
                    refine Drw.l 8 rfl (by kernel_rfl) hS241 (Yv.load A23 rfl (fun _ hq_ => ((hs240.grow hq_).cell 1 rfl 2 rfl))) ?_ ⟨_, rfl, rfl⟩
                    refine Drw.a 9 rfl (by kernel_rfl) (Yv.move rfl) ?_ ⟨_, rfl, rfl⟩
                    refine Drw.a 10 rfl (by kernel_rfl) (Yv.idx L23 rfl rfl ((hs240.rdRow 0 rfl).isSome (i := (k : Int)) (by omega) (by omega)) (by omega) (by omega)) ?_ ⟨_, rfl, rfl⟩
                    refine Drw.l 11 rfl (by kernel_rfl) hS241 (Yv.load A5 rfl (fun _ hq_ => (((hs240.grow hq_).rdRow 0 rfl).u8 (by omega) (by omega)))) ?_ ⟨_, rfl, rfl⟩
                    have g244 := gi_bytes (xs := passF up co W H (W / 4) (List.replicate ((H / 4).toNat * (W / 4).toNat) sz) (idsTo (W / 4).toNat (sz / 4) ((H / 4).toNat * (W / 4).toNat)) (List.replicate ((H / 4).toNat * (W / 4).toNat) false) lv (bringF sh0 8) (fitTo xs (W * H).toNat)) (passF_bytes _ _ _ _ _ _ _ _ _ _ (fitTo_bytes hx _)) (k : Int)
                    refine Drw.a 12 rfl (by kernel_rfl) (Yv.fld F28_2 rfl) ?_ ⟨_, rfl, rfl⟩
                    refine Drw.l 13 rfl (by kernel_rfl) hS241 (Yv.load A23 rfl (fun _ hq_ => ((hs240.grow hq_).cell 5 rfl 2 rfl))) ?_ ⟨_, rfl, rfl⟩
                    refine Drw.a 14 rfl (by kernel_rfl) (Yv.move rfl) ?_ ⟨_, rfl, rfl⟩
                    refine Drw.a 15 rfl (by kernel_rfl) (Yv.idx L23 rfl rfl ((hs240.rdRow 6 rfl).isSome (i := (k : Int)) (by omega) (by omega)) (by omega) (by omega)) ?_ ⟨_, rfl, rfl⟩
                    refine Drw.l 16 rfl (by kernel_rfl) hS241 (Yv.load A5 rfl (fun _ hq_ => (((hs240.grow hq_).rdRow 6 rfl).u8 (by omega) (by omega)))) ?_ ⟨_, rfl, rfl⟩
                    have g245 := gi_bytes (xs := fitTo xs (W * H).toNat) (fitTo_bytes hx _) (k : Int)
                    refine Drw.a 17 rfl (by kernel_rfl) (Yv.ne rfl rfl) ?_ ⟨_, rfl, rfl⟩
                    refine Drw.a 18 rfl (by kernel_rfl) (Yv.pick1 rfl rfl) ?_
                    refine Drw.done ?_ (by kernel_rfl)
                    refine ⟨hs240, Sub.le ⟨rfl, rfl, rfl, rfl, rfl, rfl, rfl, rfl, rfl, rfl, rfl, rfl, rfl, rfl, rfl, rfl, rfl, rfl, lookB rfl (by first | (simp only [h242, h243, not_true_eq_false, not_false_eq_true, or_true, true_or, or_false, false_or, and_true, true_and, and_false, false_and, decide_true, decide_false, or_self, and_self, Bool.decide_eq_true]; done) | simp [h242, h243]), trivial⟩⟩
                  · -- no
                    refine Drw.a 5 rfl (by kernel_rfl) (Yv.pick0 rfl rfl) ?_
                    refine Drw.a 6 rfl (by kernel_rfl) (Yv.move rfl) ?_
                    refine Drw.no 7 rfl (by kernel_rfl) ?_ ⟨_, rfl, rfl⟩
                    refine Drw.no 8 rfl (by kernel_rfl) ?_ ⟨_, rfl, rfl⟩
                    refine Drw.no 9 rfl (by kernel_rfl) ?_ ⟨_, rfl, rfl⟩
                    refine Drw.no 10 rfl (by kernel_rfl) ?_ ⟨_, rfl, rfl⟩
                    refine Drw.no 11 rfl (by kernel_rfl) ?_ ⟨_, rfl, rfl⟩
                    refine Drw.no 12 rfl (by kernel_rfl) ?_ ⟨_, rfl, rfl⟩
                    refine Drw.no 13 rfl (by kernel_rfl) ?_ ⟨_, rfl, rfl⟩
                    refine Drw.no 14 rfl (by kernel_rfl) ?_ ⟨_, rfl, rfl⟩
                    refine Drw.no 15 rfl (by kernel_rfl) ?_ ⟨_, rfl, rfl⟩
                    refine Drw.no 16 rfl (by kernel_rfl) ?_ ⟨_, rfl, rfl⟩
                    refine Drw.no 17 rfl (by kernel_rfl) ?_ ⟨_, rfl, rfl⟩
                    refine Drw.a 18 rfl (by kernel_rfl) (Yv.pick0 rfl rfl) ?_
                    refine Drw.done ?_ (by kernel_rfl)
                    refine ⟨hs240, Sub.le ⟨rfl, rfl, rfl, rfl, rfl, rfl, rfl, rfl, rfl, rfl, rfl, rfl, rfl, rfl, rfl, rfl, rfl, rfl, lookB rfl (by first | (simp only [h242, h243, not_true_eq_false, not_false_eq_true, or_true, true_or, or_false, false_or, and_true, true_and, and_false, false_and, decide_true, decide_false, or_self, and_self, Bool.decide_eq_true]; done) | simp [h242, h243]), trivial⟩⟩
                · -- no
                  refine Drw.a 1 rfl (by kernel_rfl) (Yv.not rfl) ?_
                  refine Drw.a 2 rfl (by kernel_rfl) (Yv.move rfl) ?_
                  refine Drw.no 3 rfl (by kernel_rfl) ?_ ⟨_, rfl, rfl⟩
                  refine Drw.no 4 rfl (by kernel_rfl) ?_ ⟨_, rfl, rfl⟩
                  refine Drw.a 5 rfl (by kernel_rfl) (Yv.pick1 rfl rfl) ?_
                  refine Drw.a 6 rfl (by kernel_rfl) (Yv.move rfl) ?_
                  refine Drw.a 7 rfl (by kernel_rfl) (Yv.fld F28_2 rfl) ?_ ⟨_, rfl, rfl⟩
                  refine Drw.l 8 rfl (by kernel_rfl) hS241 (Yv.load A23 rfl (fun _ hq_ => ((hs240.grow hq_).cell 1 rfl 2 rfl))) ?_ ⟨_, rfl, rfl⟩
                  refine Drw.a 9 rfl (by kernel_rfl) (Yv.move rfl) ?_ ⟨_, rfl, rfl⟩
                  refine Drw.a 10 rfl (by kernel_rfl) (Yv.idx L23 rfl rfl ((hs240.rdRow 0 rfl).isSome (i := (k : Int)) (by omega) (by omega)) (by omega) (by omega)) ?_ ⟨_, rfl, rfl⟩
                  refine Drw.l 11 rfl (by kernel_rfl) hS241 (Yv.load A5 rfl (fun _ hq_ => (((hs240.grow hq_).rdRow 0 rfl).u8 (by omega) (by omega)))) ?_ ⟨_, rfl, rfl⟩
                  have g246 := gi_bytes (xs := passF up co W H (W / 4) (List.replicate ((H / 4).toNat * (W / 4).toNat) sz) (idsTo (W / 4).toNat (sz / 4) ((H / 4).toNat * (W / 4).toNat)) (List.replicate ((H / 4).toNat * (W / 4).toNat) false) lv (bringF sh0 8) (fitTo xs (W * H).toNat)) (passF_bytes _ _ _ _ _ _ _ _ _ _ (fitTo_bytes hx _)) (k : Int)
                  refine Drw.a 12 rfl (by kernel_rfl) (Yv.fld F28_2 rfl) ?_ ⟨_, rfl, rfl⟩
                  refine Drw.l 13 rfl (by kernel_rfl) hS241 (Yv.load A23 rfl (fun _ hq_ => ((hs240.grow hq_).cell 5 rfl 2 rfl))) ?_ ⟨_, rfl, rfl⟩
                  refine Drw.a 14 rfl (by kernel_rfl) (Yv.move rfl) ?_ ⟨_, rfl, rfl⟩
                  refine Drw.a 15 rfl (by kernel_rfl) (Yv.idx L23 rfl rfl ((hs240.rdRow 6 rfl).isSome (i := (k : Int)) (by omega) (by omega)) (by omega) (by omega)) ?_ ⟨_, rfl, rfl⟩
                  refine Drw.l 16 rfl (by kernel_rfl) hS241 (Yv.load A5 rfl (fun _ hq_ => (((hs240.grow hq_).rdRow 6 rfl).u8 (by omega) (by omega)))) ?_ ⟨_, rfl, rfl⟩
                  have g247 := gi_bytes (xs := fitTo xs (W * H).toNat) (fitTo_bytes hx _) (k : Int)
                  refine Drw.a 17 rfl (by kernel_rfl) (Yv.ne rfl rfl) ?_ ⟨_, rfl, rfl⟩
                  refine Drw.a 18 rfl (by kernel_rfl) (Yv.pick1 rfl rfl) ?_
                  refine Drw.done ?_ (by kernel_rfl)
                  refine ⟨hs240, Sub.le ⟨rfl, rfl, rfl, rfl, rfl, rfl, rfl, rfl, rfl, rfl, rfl, rfl, rfl, rfl, rfl, rfl, rfl, rfl, lookB rfl (by first | (simp only [h242, not_true_eq_false, not_false_eq_true, or_true, true_or, or_false, false_or, and_true, true_and, and_false, false_and, decide_true, decide_false, or_self, and_self, Bool.decide_eq_true]; done) | simp [h242]), trivial⟩⟩
              rintro e250 w250 ⟨hs250, he250⟩
              refine k239 _ _ ?_
              refine Run.le he250 ?_
              refine run_ifp rfl (fun h251 => ?_) (fun h251 => ?_)
              · -- yes ((¬ ((((((k : Int) % W) % sz) < (6 : Int)) ∧ (sz ≤ ((k : Int) % W))) ∨ (((sz - 6) ≤ (((k : Int) % W) % sz)) ∧ ((((((k : Int) % W) / sz) * sz) + sz) < W)))) ∨ (lv = (0 : Int))) ∧ ((gi (passF up co W H (W / 4) (List.replicate ((H / 4).toNat * (W / 4).toNat) sz) (idsTo (W / 4).toNat (sz / 4) ((H / 4).toNat * (W / 4).toNat)) (List.replicate ((H / 4).toNat * (W / 4).toNat) false) lv (bringF sh0 8) (fitTo xs (W * H).toNat)) (k : Int)) ≠ (gi (fitTo xs (W * H).toNat) (k : Int)))
                refine run_seq fun K252 k252 => ?_
                refine run_region ?_
                refine Ops.v (Yv.assign rfl) ?_
                refine Ops.nil ?_
                refine k252 _ _ ?_
                refine run_ret ?_
                refine ⟨[.bool false], ⟨_, _, rfl, rfl, rfl⟩, ?_⟩
                have hup : up = true := by simpa using h211
                subst hup
                exact absurd (far_up (by omega) (by omega) (by omega) h251.1) h251.2
              · -- no
                refine run_skip ?_
                refine k205 _ _ ?_
                refine run_region ?_
                refine Ops.v (Yv.move rfl) ?_
                refine Ops.v (Yv.add rfl rfl (by omega)) ?_
                refine Ops.v (Yv.assign rfl) ?_
                refine Ops.nil ?_
                refine ⟨k + 1, _, ⟨hs250, rfl, by omega⟩, Sub.le ⟨rfl, rfl, rfl, rfl, rfl, rfl, rfl, rfl, rfl, rfl, lookI rfl (by omega), rfl, rfl, trivial⟩, by omega⟩
          · -- no
            refine run_exit ?_
            refine k199 _ _ ?_
            refine run_seq fun K253 k253 => ?_
            refine run_region ?_
            refine Ops.v (Yv.assign rfl) ?_
            refine Ops.nil ?_
            refine k253 _ _ ?_
            refine run_ret ?_
            refine ⟨[.bool true], ⟨_, _, rfl, rfl, rfl⟩, ?_⟩
            exact ⟨rfl, hs201.pick [] _ (by decide) rfl⟩
  · -- operation 17 first
    refine ⟨_, _, _, _, _, _, rfl, ?_⟩
    refine Step.alloc (cs := [.int .i64 0, .int .i64 0, .slice none 0 0]) hs27 Z28 rfl (fun b254 w255 hs255 hb255 => ?_) True.intro (by rfl)
    have hS257 := hS28.trans (hb255.mono (Nat.le_trans (Nat.le_refl _) hS28.size))
    refine ⟨fun _ _ => hS257, ?_⟩
    refine Drw.one 4 rfl (by kernel_rfl) (Step.call rfl rfl (cells22_fun (by omega) (by omega) (by omega)) (?_) True.intro (by rfl))
    rintro _ w267 ⟨Ad258, c261, Ad259, c262, Ad260, c263, rfl, hs267⟩
    have hS268 := HS.keepS hS257 (Nat.le_refl _) hs267
    refine ⟨fun _ _ => hS268, ?_⟩
    replace hs267 := hs255.call hs267
    refine Drw.one 12 rfl (by kernel_rfl) (Step.call rfl rfl (bring_fun (by omega)) (?_) True.intro (by rfl))
    rintro _ _ ⟨rfl, rfl⟩
    refine ⟨fun _ h => h, ?_⟩
    have g269 := bringF_bd (i := sh0) (n := 8) (by decide)
    refine Drw.one 13 rfl (by kernel_rfl) (Step.call rfl rfl (pass_good (hs267.rdRow 5 rfl) (fitTo_bytes hx _) (hs267.rdRow 0 rfl) (Bytes.rep (by omega)) (hs267.rdRow 1 rfl) (hs267.rdRow 2 rfl) (good_cells (by omega) (by omega) (by omega) (by omega) (by omega))) (?_) True.intro (by rfl))
    rintro _ w274 ⟨Ad271, c272, rfl, hs274⟩
    have hS275 := HS.keepS hS268 (Nat.le_refl _) hs274
    refine ⟨fun _ _ => hS275, ?_⟩
    replace hs274 := hs267.call hs274
    refine Drw.a 14 rfl (by kernel_rfl) (Yv.move rfl) ?_
    refine Drw.a 15 rfl (by kernel_rfl) (Yv.extract rfl rfl) ?_
    refine Drw.a 16 rfl (by kernel_rfl) (Yv.extract rfl rfl) ?_
    refine Drw.one 18 rfl (by kernel_rfl) (Step.store (vs := [.int .i64 W, .int .i64 H, .slice Ad271 ((W * H).toNat) c272]) 4 hs274 rfl rfl rfl rfl S28 (Nat.le_of_ble_eq_true rfl) rfl (fun w276 hs276 => ?_) True.intro)
    refine ⟨fun h => absurd h (by decide), ?_⟩
    replace hs276 : HS _ [.row _ _ _ _ _ _, .row _ _ _ _ _ _, .row _ _ _ _ _ _, .row _ _ _ _ _ _, .blk _ [_, _, _] _, .blk _ [_, _, _] _, .row _ _ _ _ _ _, .blk _ [_, _, _, _] _, .blk _ [_, _] _] _ := hs276
    refine Drw.a 19 rfl (by kernel_rfl) (Yv.assign rfl) ?_
    refine Drw.done ?_ (by kernel_rfl)
    refine k26 _ _ ?_
    refine run_seq fun K277 k277 => ?_
    refine run_seq fun K278 k278 => ?_
    refine Run.cut (fun e_ w_ => w276 = w_ ∧ Le [(0, .agg #[.int .i64 a, .int .i64 b]), (1, .slice A m c), (2, .agg #[.bool up, .bool co, .int .i64 lv0, .int .i64 sh0]), (3, .pointer (some ⟨b2, 0, none⟩)), (5, .pointer (some ⟨b5, 0, none⟩)), (6, .bool false), (7, .pointer (some ⟨b16, 0, none⟩)), (8, .int .i64 sz), (9, .int .i64 lv), (10, .pointer (some ⟨b254, 0, none⟩)), (11, .int .i64 0), (17, .bool false), (72, .bool (decide (((W * H).toNat : Int) ≠ ((W * H).toNat : Int))))] e_) ?_ ?_
    · -- region 7: its ways meet again
      refine run_region ?_
      refine Ops.v (Yv.move rfl) ?_
      refine Ops.v (Yv.ne rfl rfl) ?_
      refine Ops.dec0 (fun h_ => h_ rfl) ?_
      refine Ops.v (Yv.move rfl) ?_
      refine Ops.vg ⟨_, rfl, rfl⟩ (Yv.fld F28_0 rfl) ?_
      refine Ops.vg ⟨_, rfl, rfl⟩ (Yv.load A3 rfl (now (hs276.cell 4 rfl 0 rfl))) ?_
      refine Ops.vg ⟨_, rfl, rfl⟩ (Yv.fld F28_0 rfl) ?_
      refine Ops.vg ⟨_, rfl, rfl⟩ (Yv.load A3 rfl (now (hs276.cell 5 rfl 0 rfl))) ?_
      refine Ops.vg ⟨_, rfl, rfl⟩ (Yv.ne rfl rfl) ?_
      refine Ops.dec0 (fun h_ => h_ rfl) ?_
      refine Ops.v (Yv.pick0 rfl rfl) ?_
      refine Ops.v (Yv.move rfl) ?_
      refine Ops.vg ⟨_, rfl, rfl⟩ (Yv.fld F28_1 rfl) ?_
      refine Ops.vg ⟨_, rfl, rfl⟩ (Yv.load A3 rfl (now (hs276.cell 4 rfl 1 rfl))) ?_
      refine Ops.vg ⟨_, rfl, rfl⟩ (Yv.fld F28_1 rfl) ?_
      refine Ops.vg ⟨_, rfl, rfl⟩ (Yv.load A3 rfl (now (hs276.cell 5 rfl 1 rfl))) ?_
      refine Ops.vg ⟨_, rfl, rfl⟩ (Yv.ne rfl rfl) ?_
      refine Ops.dec0 (fun h_ => h_ rfl) ?_
      refine Ops.v (Yv.pick0 rfl rfl) ?_
      refine Ops.v (Yv.move rfl) ?_
      refine Ops.vg ⟨_, rfl, rfl⟩ (Yv.fld F28_2 rfl) ?_
      refine Ops.vg ⟨_, rfl, rfl⟩ (Yv.load A23 rfl (now (hs276.cell 4 rfl 2 rfl))) ?_
      refine Ops.vg ⟨_, rfl, rfl⟩ (Yv.len (by rw [L23]; rfl) rfl) ?_
      refine Ops.vg ⟨_, rfl, rfl⟩ (Yv.fld F28_2 rfl) ?_
      refine Ops.vg ⟨_, rfl, rfl⟩ (Yv.load A23 rfl (now (hs276.cell 5 rfl 2 rfl))) ?_
      refine Ops.vg ⟨_, rfl, rfl⟩ (Yv.len (by rw [L23]; rfl) rfl) ?_
      refine Ops.vg ⟨_, rfl, rfl⟩ (Yv.ne rfl rfl) ?_
      refine Ops.v (Yv.pick0 rfl rfl) ?_
      refine Ops.nil ?_
      refine ⟨rfl, Sub.le ⟨rfl, rfl, rfl, rfl, rfl, rfl, rfl, rfl, rfl, rfl, rfl, rfl, rfl, trivial⟩⟩
    rintro e279 _ ⟨rfl, he279⟩
    refine k278 _ _ ?_
    refine Run.le he279 ?_
    refine run_ifp rfl (fun h280 => ?_) (fun h280 => ?_)
    · -- yes ((W * H).toNat : Int) ≠ ((W * H).toNat : Int)
      refine run_seq fun K281 k281 => ?_
      refine run_region ?_
      refine Ops.v (Yv.assign rfl) ?_
      refine Ops.nil ?_
      refine k281 _ _ ?_
      refine run_ret ?_
      refine ⟨[.bool false], ⟨_, _, rfl, rfl, rfl⟩, ?_⟩
      exact absurd rfl h280
    · -- no
      refine run_skip ?_
      refine k277 _ _ ?_
      refine run_seq fun K282 k282 => ?_
      refine run_seq fun K283 k283 => ?_
      refine run_region ?_
      refine Ops.v (Yv.assign rfl) ?_
      refine Ops.nil ?_
      refine k283 _ _ ?_
      refine run_block ?_
      have hWH := mul_bd (a := W) (b := H) (x := 64) (y := 64) (by omega) (by omega) (by omega) (by omega)
      refine Run.sub [(0, _), (1, _), (2, _), (3, _), (5, _), (7, _), (8, _), (9, _), (10, _), (11, _), (12, _), (17, _), (72, _)] ⟨rfl, rfl, rfl, rfl, rfl, rfl, rfl, rfl, rfl, rfl, rfl, rfl, rfl, trivial⟩ ?_
      refine run_loop (σ := Nat) (fun k e_ w_ => HS w [.row Ad271 ((W * H).toNat) c272 (u8s (passF up co W H (W / 4) (List.replicate ((H / 4).toNat * (W / 4).toNat) sz) (idsTo (W / 4).toNat (sz / 4) ((H / 4).toNat * (W / 4).toNat)) (List.replicate ((H / 4).toNat * (W / 4).toNat) false) lv (bringF sh0 8) (fitTo xs (W * H).toNat))) 5 1, .row Ad258 ((H / 4).toNat * (W / 4).toNat) c261 (u8s (List.replicate ((H / 4).toNat * (W / 4).toNat) sz)) 5 1, .row Ad259 ((H / 4).toNat * (W / 4).toNat) c262 (i64s (idsTo (W / 4).toNat (sz / 4) ((H / 4).toNat * (W / 4).toNat))) 3 1, .row Ad260 ((H / 4).toNat * (W / 4).toNat) c263 (bools (List.replicate ((H / 4).toNat * (W / 4).toNat) false)) 4 1, .blk b254 [.int .i64 W, .int .i64 H, .slice Ad271 ((W * H).toNat) c272] 28, .blk b16 [.int .i64 W, .int .i64 H, .slice Ad12 ((W * H).toNat) c13] 28, .row Ad12 ((W * H).toNat) c13 (u8s (fitTo xs (W * H).toNat)) 5 1, .blk b5 [.bool up, .bool co, .int .i64 lv0, .int .i64 sh0] 25, .blk b2 [.int .i64 a, .int .i64 b] 22] w_ ∧ e_ = [(0, .agg #[.int .i64 a, .int .i64 b]), (1, .slice A m c), (2, .agg #[.bool up, .bool co, .int .i64 lv0, .int .i64 sh0]), (3, .pointer (some ⟨b2, 0, none⟩)), (5, .pointer (some ⟨b5, 0, none⟩)), (7, .pointer (some ⟨b16, 0, none⟩)), (8, .int .i64 sz), (9, .int .i64 lv), (10, .pointer (some ⟨b254, 0, none⟩)), (11, .int .i64 0), (12, .int .i64 (k : Int)), (17, .bool false), (72, .bool (decide (((W * H).toNat : Int) ≠ ((W * H).toNat : Int))))] ∧ k ≤ (W * H).toNat)
        (fun k => (W * H).toNat - k) 0 ?_ ?_
      · -- at the start
        refine ⟨hs276, rfl, by omega⟩
      · -- a round
        rintro k _ w284 ⟨hs284, rfl, f1⟩
        refine run_seq fun K285 k285 => ?_
        refine run_seq fun K286 k286 => ?_
        refine run_region ?_
        refine Ops.v (Yv.move rfl) ?_
        refine Ops.v (Yv.fld F28_2 rfl) ?_
        refine Ops.v (Yv.load A23 rfl (now (hs284.cell 5 rfl 2 rfl))) ?_
        refine Ops.v (Yv.len (by rw [L23]; rfl) rfl) ?_
        refine Ops.v (Yv.lt rfl rfl) ?_
        refine Ops.nil ?_
        refine k286 _ _ ?_
        refine run_ifp rfl (fun h287 => ?_) (fun h287 => ?_)
        · -- yes (k : Int) < ((W * H).toNat : Int)
          have hk1 : (k : Int) < W * H := by omega
          have hkm : 0 ≤ (k : Int) % W ∧ (k : Int) % W < W := ⟨Int.emod_nonneg _ (by omega), Int.emod_lt_of_pos _ (by omega)⟩
          have hkd : 0 ≤ (k : Int) / W ∧ (k : Int) / W < H := ⟨Int.ediv_nonneg (by omega) (by omega), Int.ediv_lt_of_lt_mul (by omega) (by rw [Int.mul_comm]; omega)⟩
          refine run_skip ?_
          refine k285 _ _ ?_
          refine run_seq fun K288 k288 => ?_
          refine run_block ?_
          refine run_seq fun K289 k289 => ?_
          refine run_drawn [] (fun x => Below (w284.drew).heap.size (w284.drew) x) ?_ Tf.mixed (by kernel_rfl) (fun _ _ _ h => h)
          have hs290 := hs284.drew
          have hS291 := Below.refl (w284.drew).heap.size (w284.drew)
          refine Drw.a 0 rfl (by kernel_rfl) (Yv.move rfl) ?_
          refine Drw.a 1 rfl (by kernel_rfl) (Yv.fld F28_0 rfl) ?_
          refine Drw.l 2 rfl (by kernel_rfl) hS291 (Yv.load A3 rfl (fun _ hq_ => ((hs290.grow hq_).cell 5 rfl 0 rfl))) ?_
          refine Drw.a 3 rfl (by kernel_rfl) (Yv.rem rfl rfl (by omega) (by omega)) ?_
          refine Drw.a 4 rfl (by kernel_rfl) (Yv.fld F28_0 rfl) ?_
          refine Drw.l 5 rfl (by kernel_rfl) hS291 (Yv.load A3 rfl (fun _ hq_ => ((hs290.grow hq_).cell 5 rfl 0 rfl))) ?_
          refine Drw.a 6 rfl (by kernel_rfl) (Yv.assign rfl) ?_
          refine Drw.a 7 rfl (by kernel_rfl) (Yv.assign rfl) ?_
          refine Drw.done ?_ (by kernel_rfl)
          refine k289 _ _ ?_
          refine run_seq fun K292 k292 => ?_
          refine run_seq fun K293 k293 => ?_
          refine run_region ?_
          refine Ops.v (Yv.fld F25_0 rfl) ?_
          refine Ops.v (Yv.load A4 rfl (now (hs290.cell 7 rfl 0 rfl))) ?_
          refine Ops.v (Yv.not rfl) ?_
          refine Ops.nil ?_
          refine k293 _ _ ?_
          refine run_if rfl (fun h294 => ?_) (fun h294 => ?_)
          · -- yes !up
            refine run_seq fun K295 k295 => ?_
            refine run_region ?_
            refine Ops.v (Yv.move rfl) ?_
            refine Ops.v (Yv.fld F28_0 rfl) ?_
            refine Ops.v (Yv.load A3 rfl (now (hs290.cell 5 rfl 0 rfl))) ?_
            refine Ops.v (Yv.quo rfl rfl (by omega) (by omega) (by omega)) ?_
            refine Ops.v (Yv.assign rfl) ?_
            refine Ops.nil ?_
            refine k295 _ _ ?_
            refine run_region ?_
            refine Ops.v (Yv.fld F28_1 rfl) ?_
            refine Ops.v (Yv.load A3 rfl (now (hs290.cell 5 rfl 1 rfl))) ?_
            refine Ops.v (Yv.assign rfl) ?_
            refine Ops.nil ?_
            refine k292 _ _ ?_
            refine run_seq fun K296 k296 => ?_
            refine Run.cut (fun e_ w_ => (w284.drew) = w_ ∧ Le [(0, .agg #[.int .i64 a, .int .i64 b]), (1, .slice A m c), (2, .agg #[.bool up, .bool co, .int .i64 lv0, .int .i64 sh0]), (3, .pointer (some ⟨b2, 0, none⟩)), (5, .pointer (some ⟨b5, 0, none⟩)), (7, .pointer (some ⟨b16, 0, none⟩)), (8, .int .i64 sz), (9, .int .i64 lv), (10, .pointer (some ⟨b254, 0, none⟩)), (11, .int .i64 0), (12, .int .i64 (k : Int)), (13, .int .i64 ((k : Int) / W)), (14, .int .i64 H), (15, .bool (decide ((((((k : Int) / W) % sz) < (6 : Int)) ∧ (sz ≤ ((k : Int) / W))) ∨ (((sz - 6) ≤ (((k : Int) / W) % sz)) ∧ ((((((k : Int) / W) / sz) * sz) + sz) < H))))), (17, .bool false), (72, .bool (decide (((W * H).toNat : Int) ≠ ((W * H).toNat : Int)))), (77, .bool (decide ((k : Int) < ((W * H).toNat : Int)))), (88, .bool (!up))] e_) ?_ ?_
            · -- region 16: its ways meet again
              refine run_region ?_
              refine Ops.v (Yv.move rfl) ?_
              refine Ops.v (Yv.move rfl) ?_
              refine Ops.v (Yv.rem rfl rfl (by omega) (by omega)) ?_
              refine Ops.v (Yv.lt rfl rfl) ?_
              refine Ops.dec (fun h297 => ?_) (fun h297 => ?_)
              · -- yes
                refine Ops.v (Yv.move rfl) ?_
                refine Ops.vg ⟨_, rfl, rfl⟩ (Yv.move rfl) ?_
                refine Ops.vg ⟨_, rfl, rfl⟩ (Yv.move rfl) ?_
                refine Ops.vg ⟨_, rfl, rfl⟩ (Yv.ge rfl rfl) ?_
                refine Ops.dec (fun h298 => ?_) (fun h298 => ?_)
                · -- yes
                  refine Ops.v (Yv.pick1 rfl rfl) ?_
                  refine Ops.v (Yv.move rfl) ?_
                  refine Ops.skip ⟨_, rfl, rfl⟩ ?_
                  refine Ops.skip ⟨_, rfl, rfl⟩ ?_
                  refine Ops.skip ⟨_, rfl, rfl⟩ ?_
                  refine Ops.skip ⟨_, rfl, rfl⟩ ?_
                  refine Ops.skip ⟨_, rfl, rfl⟩ ?_
                  refine Ops.skip ⟨_, rfl, rfl⟩ ?_
                  refine Ops.skip ⟨_, rfl, rfl⟩ ?_
                  refine Ops.skip ⟨_, rfl, rfl⟩ ?_
                  refine Ops.skip ⟨_, rfl, rfl⟩ ?_
                  refine Ops.skip ⟨_, rfl, rfl⟩ ?_
                  refine Ops.skip ⟨_, rfl, rfl⟩ ?_
                  refine Ops.skip ⟨_, rfl, rfl⟩ ?_
                  refine Ops.skip ⟨_, rfl, rfl⟩ ?_
                  refine Ops.skip ⟨_, rfl, rfl⟩ ?_
                  refine Ops.skip ⟨_, rfl, rfl⟩ ?_
                  refine Ops.skip ⟨_, rfl, rfl⟩ ?_
                  refine Ops.skip ⟨_, rfl, rfl⟩ ?_
                  refine Ops.v (Yv.pick1 rfl rfl) ?_
                  refine Ops.v (Yv.assign rfl) ?_
                  refine Ops.nil ?_
                  refine ⟨rfl, Sub.le ⟨rfl, rfl, rfl, rfl, rfl, rfl, rfl, rfl, rfl, rfl, rfl, rfl, rfl, lookB rfl (by first | (simp only [h297, h298, not_true_eq_false, not_false_eq_true, or_true, true_or, or_false, false_or, and_true, true_and, and_false, false_and, decide_true, decide_false, or_self, and_self, Bool.decide_eq_true]; done) | simp [h297, h298]), rfl, rfl, rfl, rfl, trivial⟩⟩
                · -- no
                  refine Ops.v (Yv.pick1 rfl rfl) ?_
                  refine Ops.v (Yv.move rfl) ?_
                  refine Ops.vg ⟨_, rfl, rfl⟩ (Yv.move rfl) ?_
                  refine Ops.vg ⟨_, rfl, rfl⟩ (Yv.move rfl) ?_
                  refine Ops.vg ⟨_, rfl, rfl⟩ (Yv.rem rfl rfl (by omega) (by omega)) ?_
                  refine Ops.vg ⟨_, rfl, rfl⟩ (Yv.move rfl) ?_
                  refine Ops.vg ⟨_, rfl, rfl⟩ (Yv.sub rfl rfl (by omega)) ?_
                  refine Ops.vg ⟨_, rfl, rfl⟩ (Yv.ge rfl rfl) ?_
                  refine Ops.dec (fun h299 => ?_) (fun h299 => ?_)
                  · -- yes
                    refine Ops.vg ⟨_, rfl, rfl⟩ (Yv.move rfl) ?_
                    refine Ops.vg ⟨_, rfl, rfl⟩ (Yv.move rfl) ?_
                    refine Ops.vg ⟨_, rfl, rfl⟩ (Yv.move rfl) ?_
                    have hdz := div_bd (a := ((k : Int) / W)) (b := sz) (by omega) (by omega)
                    refine Ops.vg ⟨_, rfl, rfl⟩ (Yv.quo rfl rfl (by omega) (by omega) (by omega)) ?_
                    refine Ops.vg ⟨_, rfl, rfl⟩ (Yv.move rfl) ?_
                    have hdm := mul_bd (a := ((k : Int) / W) / sz) (b := sz) (x := 64) (y := 64) (by omega) (by omega) (by omega) (by omega)
                    refine Ops.vg ⟨_, rfl, rfl⟩ (Yv.mul rfl rfl (by omega)) ?_
                    refine Ops.vg ⟨_, rfl, rfl⟩ (Yv.move rfl) ?_
                    refine Ops.vg ⟨_, rfl, rfl⟩ (Yv.add rfl rfl (by omega)) ?_
                    refine Ops.vg ⟨_, rfl, rfl⟩ (Yv.move rfl) ?_
                    refine Ops.vg ⟨_, rfl, rfl⟩ (Yv.lt rfl rfl) ?_
                    refine Ops.vg ⟨_, rfl, rfl⟩ (Yv.pick1 rfl rfl) ?_
                    refine Ops.v (Yv.pick0 rfl rfl) ?_
                    refine Ops.v (Yv.assign rfl) ?_
                    refine Ops.nil ?_
                    refine ⟨rfl, Sub.le ⟨rfl, rfl, rfl, rfl, rfl, rfl, rfl, rfl, rfl, rfl, rfl, rfl, rfl, lookB rfl (by first | (simp only [h297, h298, h299, not_true_eq_false, not_false_eq_true, or_true, true_or, or_false, false_or, and_true, true_and, and_false, false_and, decide_true, decide_false, or_self, and_self, Bool.decide_eq_true]; done) | simp [h297, h298, h299]), rfl, rfl, rfl, rfl, trivial⟩⟩
                  · -- no
                    refine Ops.vg ⟨_, rfl, rfl⟩ (Yv.move rfl) ?_
                    refine Ops.skip ⟨_, rfl, rfl⟩ ?_
                    refine Ops.skip ⟨_, rfl, rfl⟩ ?_
                    refine Ops.skip ⟨_, rfl, rfl⟩ ?_
                    refine Ops.skip ⟨_, rfl, rfl⟩ ?_
                    refine Ops.skip ⟨_, rfl, rfl⟩ ?_
                    refine Ops.skip ⟨_, rfl, rfl⟩ ?_
                    refine Ops.skip ⟨_, rfl, rfl⟩ ?_
                    refine Ops.skip ⟨_, rfl, rfl⟩ ?_
                    refine Ops.skip ⟨_, rfl, rfl⟩ ?_
                    refine Ops.vg ⟨_, rfl, rfl⟩ (Yv.pick0 rfl rfl) ?_
                    refine Ops.v (Yv.pick0 rfl rfl) ?_
                    refine Ops.v (Yv.assign rfl) ?_
                    refine Ops.nil ?_
                    refine ⟨rfl, Sub.le ⟨rfl, rfl, rfl, rfl, rfl, rfl, rfl, rfl, rfl, rfl, rfl, rfl, rfl, lookB rfl (by first | (simp only [h297, h298, h299, not_true_eq_false, not_false_eq_true, or_true, true_or, or_false, false_or, and_true, true_and, and_false, false_and, decide_true, decide_false, or_self, and_self, Bool.decide_eq_true]; done) | simp [h297, h298, h299]), rfl, rfl, rfl, rfl, trivial⟩⟩
              · -- no
                refine Ops.v (Yv.move rfl) ?_
                refine Ops.skip ⟨_, rfl, rfl⟩ ?_
                refine Ops.skip ⟨_, rfl, rfl⟩ ?_
                refine Ops.skip ⟨_, rfl, rfl⟩ ?_
                refine Ops.v (Yv.pick0 rfl rfl) ?_
                refine Ops.v (Yv.move rfl) ?_
                refine Ops.vg ⟨_, rfl, rfl⟩ (Yv.move rfl) ?_
                refine Ops.vg ⟨_, rfl, rfl⟩ (Yv.move rfl) ?_
                refine Ops.vg ⟨_, rfl, rfl⟩ (Yv.rem rfl rfl (by omega) (by omega)) ?_
                refine Ops.vg ⟨_, rfl, rfl⟩ (Yv.move rfl) ?_
                refine Ops.vg ⟨_, rfl, rfl⟩ (Yv.sub rfl rfl (by omega)) ?_
                refine Ops.vg ⟨_, rfl, rfl⟩ (Yv.ge rfl rfl) ?_
                refine Ops.dec (fun h300 => ?_) (fun h300 => ?_)
                · -- yes
                  refine Ops.vg ⟨_, rfl, rfl⟩ (Yv.move rfl) ?_
                  refine Ops.vg ⟨_, rfl, rfl⟩ (Yv.move rfl) ?_
                  refine Ops.vg ⟨_, rfl, rfl⟩ (Yv.move rfl) ?_
                  have hdz := div_bd (a := ((k : Int) / W)) (b := sz) (by omega) (by omega)
                  refine Ops.vg ⟨_, rfl, rfl⟩ (Yv.quo rfl rfl (by omega) (by omega) (by omega)) ?_
                  refine Ops.vg ⟨_, rfl, rfl⟩ (Yv.move rfl) ?_
                  have hdm := mul_bd (a := ((k : Int) / W) / sz) (b := sz) (x := 64) (y := 64) (by omega) (by omega) (by omega) (by omega)
                  refine Ops.vg ⟨_, rfl, rfl⟩ (Yv.mul rfl rfl (by omega)) ?_
                  refine Ops.vg ⟨_, rfl, rfl⟩ (Yv.move rfl) ?_
                  refine Ops.vg ⟨_, rfl, rfl⟩ (Yv.add rfl rfl (by omega)) ?_
                  refine Ops.vg ⟨_, rfl, rfl⟩ (Yv.move rfl) ?_
                  refine Ops.vg ⟨_, rfl, rfl⟩ (Yv.lt rfl rfl) ?_
                  refine Ops.vg ⟨_, rfl, rfl⟩ (Yv.pick1 rfl rfl) ?_
                  refine Ops.v (Yv.pick0 rfl rfl) ?_
                  refine Ops.v (Yv.assign rfl) ?_
                  refine Ops.nil ?_
                  refine ⟨rfl, Sub.le ⟨rfl, rfl, rfl, rfl, rfl, rfl, rfl, rfl, rfl, rfl, rfl, rfl, rfl, lookB rfl (by first | (simp only [h297, h300, not_true_eq_false, not_false_eq_true, or_true, true_or, or_false, false_or, and_true, true_and, and_false, false_and, decide_true, decide_false, or_self, and_self, Bool.decide_eq_true]; done) | simp [h297, h300]), rfl, rfl, rfl, rfl, trivial⟩⟩
                · -- no
                  refine Ops.vg ⟨_, rfl, rfl⟩ (Yv.move rfl) ?_
                  refine Ops.skip ⟨_, rfl, rfl⟩ ?_
                  refine Ops.skip ⟨_, rfl, rfl⟩ ?_
                  refine Ops.skip ⟨_, rfl, rfl⟩ ?_
                  refine Ops.skip ⟨_, rfl, rfl⟩ ?_
                  refine Ops.skip ⟨_, rfl, rfl⟩ ?_
                  refine Ops.skip ⟨_, rfl, rfl⟩ ?_
                  refine Ops.skip ⟨_, rfl, rfl⟩ ?_
                  refine Ops.skip ⟨_, rfl, rfl⟩ ?_
                  refine Ops.skip ⟨_, rfl, rfl⟩ ?_
                  refine Ops.vg ⟨_, rfl, rfl⟩ (Yv.pick0 rfl rfl) ?_
                  refine Ops.v (Yv.pick0 rfl rfl) ?_
                  refine Ops.v (Yv.assign rfl) ?_
                  refine Ops.nil ?_
                  refine ⟨rfl, Sub.le ⟨rfl, rfl, rfl, rfl, rfl, rfl, rfl, rfl, rfl, rfl, rfl, rfl, rfl, lookB rfl (by first | (simp only [h297, h300, not_true_eq_false, not_false_eq_true, or_true, true_or, or_false, false_or, and_true, true_and, and_false, false_and, decide_true, decide_false, or_self, and_self, Bool.decide_eq_true]; done) | simp [h297, h300]), rfl, rfl, rfl, rfl, trivial⟩⟩
            rintro e301 _ ⟨rfl, he301⟩
            refine k296 _ _ ?_
            refine Run.le he301 ?_
            refine run_seq fun K302 k302 => ?_
            refine Run.cut (fun e_ w_ => HS w [.row Ad271 ((W * H).toNat) c272 (u8s (passF up co W H (W / 4) (List.replicate ((H / 4).toNat * (W / 4).toNat) sz) (idsTo (W / 4).toNat (sz / 4) ((H / 4).toNat * (W / 4).toNat)) (List.replicate ((H / 4).toNat * (W / 4).toNat) false) lv (bringF sh0 8) (fitTo xs (W * H).toNat))) 5 1, .row Ad258 ((H / 4).toNat * (W / 4).toNat) c261 (u8s (List.replicate ((H / 4).toNat * (W / 4).toNat) sz)) 5 1, .row Ad259 ((H / 4).toNat * (W / 4).toNat) c262 (i64s (idsTo (W / 4).toNat (sz / 4) ((H / 4).toNat * (W / 4).toNat))) 3 1, .row Ad260 ((H / 4).toNat * (W / 4).toNat) c263 (bools (List.replicate ((H / 4).toNat * (W / 4).toNat) false)) 4 1, .blk b254 [.int .i64 W, .int .i64 H, .slice Ad271 ((W * H).toNat) c272] 28, .blk b16 [.int .i64 W, .int .i64 H, .slice Ad12 ((W * H).toNat) c13] 28, .row Ad12 ((W * H).toNat) c13 (u8s (fitTo xs (W * H).toNat)) 5 1, .blk b5 [.bool up, .bool co, .int .i64 lv0, .int .i64 sh0] 25, .blk b2 [.int .i64 a, .int .i64 b] 22] w_ ∧ Le [(0, .agg #[.int .i64 a, .int .i64 b]), (1, .slice A m c), (2, .agg #[.bool up, .bool co, .int .i64 lv0, .int .i64 sh0]), (3, .pointer (some ⟨b2, 0, none⟩)), (5, .pointer (some ⟨b5, 0, none⟩)), (7, .pointer (some ⟨b16, 0, none⟩)), (8, .int .i64 sz), (9, .int .i64 lv), (10, .pointer (some ⟨b254, 0, none⟩)), (11, .int .i64 0), (12, .int .i64 (k : Int)), (13, .int .i64 ((k : Int) / W)), (14, .int .i64 H), (15, .bool (decide ((((((k : Int) / W) % sz) < (6 : Int)) ∧ (sz ≤ ((k : Int) / W))) ∨ (((sz - 6) ≤ (((k : Int) / W) % sz)) ∧ ((((((k : Int) / W) / sz) * sz) + sz) < H))))), (17, .bool false), (72, .bool (decide (((W * H).toNat : Int) ≠ ((W * H).toNat : Int)))), (77, .bool (decide ((k : Int) < ((W * H).toNat : Int)))), (88, .bool (!up)), (141, .bool (decide (((¬ ((((((k : Int) / W) % sz) < (6 : Int)) ∧ (sz ≤ ((k : Int) / W))) ∨ (((sz - 6) ≤ (((k : Int) / W) % sz)) ∧ ((((((k : Int) / W) / sz) * sz) + sz) < H)))) ∨ (lv = (0 : Int))) ∧ ((gi (passF up co W H (W / 4) (List.replicate ((H / 4).toNat * (W / 4).toNat) sz) (idsTo (W / 4).toNat (sz / 4) ((H / 4).toNat * (W / 4).toNat)) (List.replicate ((H / 4).toNat * (W / 4).toNat) false) lv (bringF sh0 8) (fitTo xs (W * H).toNat)) (k : Int)) ≠ (gi (fitTo xs (W * H).toNat) (k : Int))))))] e_) ?_ ?_
            · -- region 17: its ways meet again
              refine run_drawn [] (fun x => Below ((w284.drew).drew).heap.size ((w284.drew).drew) x) ?_ Tf.mixed (by kernel_rfl) (fun _ _ _ h => h)
              have hs303 := hs290.drew
              have hS304 := Below.refl ((w284.drew).drew).heap.size ((w284.drew).drew)
              refine Drw.a 0 rfl (by kernel_rfl) (Yv.move rfl) ?_
              refine Drw.dec (fun h305 => ?_) (fun h305 => ?_)
              · -- yes
                refine Drw.a 1 rfl (by kernel_rfl) (Yv.not rfl) ?_
                refine Drw.a 2 rfl (by kernel_rfl) (Yv.move rfl) ?_
                refine Drw.a 3 rfl (by kernel_rfl) (Yv.move rfl) ?_ ⟨_, rfl, rfl⟩
                refine Drw.a 4 rfl (by kernel_rfl) (Yv.eq rfl rfl) ?_ ⟨_, rfl, rfl⟩
                refine Drw.dec (fun h306 => ?_) (fun h306 => ?_)
                · -- yes
                  refine Drw.a 5 rfl (by kernel_rfl) (Yv.pick0 rfl rfl) ?_
                  refine Drw.a 6 rfl (by kernel_rfl) (Yv.move rfl) ?_
                  refine Drw.a 7 rfl (by kernel_rfl) (Yv.fld F28_2 rfl) ?_ ⟨_, rfl, rfl⟩
                  refine Drw.l 8 rfl (by kernel_rfl) hS304 (Yv.load A23 rfl (fun _ hq_ => ((hs303.grow hq_).cell 4 rfl 2 rfl))) ?_ ⟨_, rfl, rfl⟩
                  refine Drw.a 9 rfl (by kernel_rfl) (Yv.move rfl) ?_ ⟨_, rfl, rfl⟩
                  refine Drw.a 10 rfl (by kernel_rfl) (Yv.idx L23 rfl rfl ((hs303.rdRow 0 rfl).isSome (i := (k : Int)) (by omega) (by omega)) (by omega) (by omega)) ?_ ⟨_, rfl, rfl⟩
                  refine Drw.l 11 rfl (by kernel_rfl) hS304 (Yv.load A5 rfl (fun _ hq_ => (((hs303.grow hq_).rdRow 0 rfl).u8 (by omega) (by omega)))) ?_ ⟨_, rfl, rfl⟩
                  have g307 := gi_bytes (xs := passF up co W H (W / 4) (List.replicate ((H / 4).toNat * (W / 4).toNat) sz) (idsTo (W / 4).toNat (sz / 4) ((H / 4).toNat * (W / 4).toNat)) (List.replicate ((H / 4).toNat * (W / 4).toNat) false) lv (bringF sh0 8) (fitTo xs (W * H).toNat)) (passF_bytes _ _ _ _ _ _ _ _ _ _ (fitTo_bytes hx _)) (k : Int)
                  refine Drw.a 12 rfl (by kernel_rfl) (Yv.fld F28_2 rfl) ?_ ⟨_, rfl, rfl⟩
                  refine Drw.l 13 rfl (by kernel_rfl) hS304 (Yv.load A23 rfl (fun _ hq_ => ((hs303.grow hq_).cell 5 rfl 2 rfl))) ?_ ⟨_, rfl, rfl⟩
                  refine Drw.a 14 rfl (by kernel_rfl) (Yv.move rfl) ?_ ⟨_, rfl, rfl⟩
                  refine Drw.a 15 rfl (by kernel_rfl) (Yv.idx L23 rfl rfl ((hs303.rdRow 6 rfl).isSome (i := (k : Int)) (by omega) (by omega)) (by omega) (by omega)) ?_ ⟨_, rfl, rfl⟩
                  refine Drw.l 16 rfl (by kernel_rfl) hS304 (Yv.load A5 rfl (fun _ hq_ => (((hs303.grow hq_).rdRow 6 rfl).u8 (by omega) (by omega)))) ?_ ⟨_, rfl, rfl⟩
                  have g308 := gi_bytes (xs := fitTo xs (W * H).toNat) (fitTo_bytes hx _) (k : Int)
                  refine Drw.a 17 rfl (by kernel_rfl) (Yv.ne rfl rfl) ?_ ⟨_, rfl, rfl⟩
                  refine Drw.a 18 rfl (by kernel_rfl) (Yv.pick1 rfl rfl) ?_
                  refine Drw.done ?_ (by kernel_rfl)
                  refine ⟨hs303, Sub.le ⟨rfl, rfl, rfl, rfl, rfl, rfl, rfl, rfl, rfl, rfl, rfl, rfl, rfl, rfl, rfl, rfl, rfl, rfl, lookB rfl (by first | (simp only [h305, h306, not_true_eq_false, not_false_eq_true, or_true, true_or, or_false, false_or, and_true, true_and, and_false, false_and, decide_true, decide_false, or_self, and_self, Bool.decide_eq_true]; done) | simp [h305, h306]), trivial⟩⟩
                · -- no
                  refine Drw.a 5 rfl (by kernel_rfl) (Yv.pick0 rfl rfl) ?_
                  refine Drw.a 6 rfl (by kernel_rfl) (Yv.move rfl) ?_
                  refine Drw.no 7 rfl (by kernel_rfl) ?_ ⟨_, rfl, rfl⟩
                  refine Drw.no 8 rfl (by kernel_rfl) ?_ ⟨_, rfl, rfl⟩
                  refine Drw.no 9 rfl (by kernel_rfl) ?_ ⟨_, rfl, rfl⟩
                  refine Drw.no 10 rfl (by kernel_rfl) ?_ ⟨_, rfl, rfl⟩
                  refine Drw.no 11 rfl (by kernel_rfl) ?_ ⟨_, rfl, rfl⟩
                  refine Drw.no 12 rfl (by kernel_rfl) ?_ ⟨_, rfl, rfl⟩
                  refine Drw.no 13 rfl (by kernel_rfl) ?_ ⟨_, rfl, rfl⟩
                  refine Drw.no 14 rfl (by kernel_rfl) ?_ ⟨_, rfl, rfl⟩
                  refine Drw.no 15 rfl (by kernel_rfl) ?_ ⟨_, rfl, rfl⟩
                  refine Drw.no 16 rfl (by kernel_rfl) ?_ ⟨_, rfl, rfl⟩
                  refine Drw.no 17 rfl (by kernel_rfl) ?_ ⟨_, rfl, rfl⟩
                  refine Drw.a 18 rfl (by kernel_rfl) (Yv.pick0 rfl rfl) ?_
                  refine Drw.done ?_ (by kernel_rfl)
                  refine ⟨hs303, Sub.le ⟨rfl, rfl, rfl, rfl, rfl, rfl, rfl, rfl, rfl, rfl, rfl, rfl, rfl, rfl, rfl, rfl, rfl, rfl, lookB rfl (by first | (simp only [h305, h306, not_true_eq_false, not_false_eq_true, or_true, true_or, or_false, false_or, and_true, true_and, and_false, false_and, decide_true, decide_false, or_self, and_self, Bool.decide_eq_true]; done) | simp [h305, h306]), trivial⟩⟩
              · -- no
                refine Drw.a 1 rfl (by kernel_rfl) (Yv.not rfl) ?_
                refine Drw.a 2 rfl (by kernel_rfl) (Yv.move rfl) ?_
                refine Drw.no 3 rfl (by kernel_rfl) ?_ ⟨_, rfl, rfl⟩
                refine Drw.no 4 rfl (by kernel_rfl) ?_ ⟨_, rfl, rfl⟩
                refine Drw.a 5 rfl (by kernel_rfl) (Yv.pick1 rfl rfl) ?_
                refine Drw.a 6 rfl (by kernel_rfl) (Yv.move rfl) ?_
                refine Drw.a 7 rfl (by kernel_rfl) (Yv.fld F28_2 rfl) ?_ ⟨_, rfl, rfl⟩
                refine Drw.l 8 rfl (by kernel_rfl) hS304 (Yv.load A23 rfl (fun _ hq_ => ((hs303.grow hq_).cell 4 rfl 2 rfl))) ?_ ⟨_, rfl, rfl⟩
                refine Drw.a 9 rfl (by kernel_rfl) (Yv.move rfl) ?_ ⟨_, rfl, rfl⟩
                refine Drw.a 10 rfl (by kernel_rfl) (Yv.idx L23 rfl rfl ((hs303.rdRow 0 rfl).isSome (i := (k : Int)) (by omega) (by omega)) (by omega) (by omega)) ?_ ⟨_, rfl, rfl⟩
                refine Drw.l 11 rfl (by kernel_rfl) hS304 (Yv.load A5 rfl (fun _ hq_ => (((hs303.grow hq_).rdRow 0 rfl).u8 (by omega) (by omega)))) ?_ ⟨_, rfl, rfl⟩
                have g309 := gi_bytes (xs := passF up co W H (W / 4) (List.replicate ((H / 4).toNat * (W / 4).toNat) sz) (idsTo (W / 4).toNat (sz / 4) ((H / 4).toNat * (W / 4).toNat)) (List.replicate ((H / 4).toNat * (W / 4).toNat) false) lv (bringF sh0 8) (fitTo xs (W * H).toNat)) (passF_bytes _ _ _ _ _ _ _ _ _ _ (fitTo_bytes hx _)) (k : Int)
                refine Drw.a 12 rfl (by kernel_rfl) (Yv.fld F28_2 rfl) ?_ ⟨_, rfl, rfl⟩
                refine Drw.l 13 rfl (by kernel_rfl) hS304 (Yv.load A23 rfl (fun _ hq_ => ((hs303.grow hq_).cell 5 rfl 2 rfl))) ?_ ⟨_, rfl, rfl⟩
                refine Drw.a 14 rfl (by kernel_rfl) (Yv.move rfl) ?_ ⟨_, rfl, rfl⟩
                refine Drw.a 15 rfl (by kernel_rfl) (Yv.idx L23 rfl rfl ((hs303.rdRow 6 rfl).isSome (i := (k : Int)) (by omega) (by omega)) (by omega) (by omega)) ?_ ⟨_, rfl, rfl⟩
                refine Drw.l 16 rfl (by kernel_rfl) hS304 (Yv.load A5 rfl (fun _ hq_ => (((hs303.grow hq_).rdRow 6 rfl).u8 (by omega) (by omega)))) ?_ ⟨_, rfl, rfl⟩
                have g310 := gi_bytes (xs := fitTo xs (W * H).toNat) (fitTo_bytes hx _) (k : Int)
                refine Drw.a 17 rfl (by kernel_rfl) (Yv.ne rfl rfl) ?_ ⟨_, rfl, rfl⟩
                refine Drw.a 18 rfl (by kernel_rfl) (Yv.pick1 rfl rfl) ?_
                refine Drw.done ?_ (by kernel_rfl)
                refine ⟨hs303, Sub.le ⟨rfl, rfl, rfl, rfl, rfl, rfl, rfl, rfl, rfl, rfl, rfl, rfl, rfl, rfl, rfl, rfl, rfl, rfl, lookB rfl (by first | (simp only [h305, not_true_eq_false, not_false_eq_true, or_true, true_or, or_false, false_or, and_true, true_and, and_false, false_and, decide_true, decide_false, or_self, and_self, Bool.decide_eq_true]; done) | simp [h305]), trivial⟩⟩
            rintro e313 w313 ⟨hs313, he313⟩
            refine k302 _ _ ?_
            refine Run.le he313 ?_
            refine run_ifp rfl (fun h314 => ?_) (fun h314 => ?_)
            · -- yes ((¬ ((((((k : Int) / W) % sz) < (6 : Int)) ∧ (sz ≤ ((k : Int) / W))) ∨ (((sz - 6) ≤ (((k : Int) / W) % sz)) ∧ ((((((k : Int) / W) / sz) * sz) + sz) < H)))) ∨ (lv = (0 : Int))) ∧ ((gi (passF up co W H (W / 4) (List.replicate ((H / 4).toNat * (W / 4).toNat) sz) (idsTo (W / 4).toNat (sz / 4) ((H / 4).toNat * (W / 4).toNat)) (List.replicate ((H / 4).toNat * (W / 4).toNat) false) lv (bringF sh0 8) (fitTo xs (W * H).toNat)) (k : Int)) ≠ (gi (fitTo xs (W * H).toNat) (k : Int)))
              refine run_seq fun K315 k315 => ?_
              refine run_region ?_
              refine Ops.v (Yv.assign rfl) ?_
              refine Ops.nil ?_
              refine k315 _ _ ?_
              refine run_ret ?_
              refine ⟨[.bool false], ⟨_, _, rfl, rfl, rfl⟩, ?_⟩
              have hup : up = false := by simpa using h294
              subst hup
              exact absurd (far_lie (by omega) (by omega) (by omega) h314.1) h314.2
            · -- no
              refine run_skip ?_
              refine k288 _ _ ?_
              refine run_region ?_
              refine Ops.v (Yv.move rfl) ?_
              refine Ops.v (Yv.add rfl rfl (by omega)) ?_
              refine Ops.v (Yv.assign rfl) ?_
              refine Ops.nil ?_
              refine ⟨k + 1, _, ⟨hs313, rfl, by omega⟩, Sub.le ⟨rfl, rfl, rfl, rfl, rfl, rfl, rfl, rfl, rfl, rfl, lookI rfl (by omega), rfl, rfl, trivial⟩, by omega⟩
          · -- no
            refine run_skip ?_
            refine k292 _ _ ?_
            refine run_seq fun K316 k316 => ?_
            refine Run.cut (fun e_ w_ => (w284.drew) = w_ ∧ Le [(0, .agg #[.int .i64 a, .int .i64 b]), (1, .slice A m c), (2, .agg #[.bool up, .bool co, .int .i64 lv0, .int .i64 sh0]), (3, .pointer (some ⟨b2, 0, none⟩)), (5, .pointer (some ⟨b5, 0, none⟩)), (7, .pointer (some ⟨b16, 0, none⟩)), (8, .int .i64 sz), (9, .int .i64 lv), (10, .pointer (some ⟨b254, 0, none⟩)), (11, .int .i64 0), (12, .int .i64 (k : Int)), (13, .int .i64 ((k : Int) % W)), (14, .int .i64 W), (15, .bool (decide ((((((k : Int) % W) % sz) < (6 : Int)) ∧ (sz ≤ ((k : Int) % W))) ∨ (((sz - 6) ≤ (((k : Int) % W) % sz)) ∧ ((((((k : Int) % W) / sz) * sz) + sz) < W))))), (17, .bool false), (72, .bool (decide (((W * H).toNat : Int) ≠ ((W * H).toNat : Int)))), (77, .bool (decide ((k : Int) < ((W * H).toNat : Int)))), (88, .bool (!up))] e_) ?_ ?_
            · -- region 16: its ways meet again
              refine run_region ?_
              refine Ops.v (Yv.move rfl) ?_
              refine Ops.v (Yv.move rfl) ?_
              refine Ops.v (Yv.rem rfl rfl (by omega) (by omega)) ?_
              refine Ops.v (Yv.lt rfl rfl) ?_
              refine Ops.dec (fun h317 => ?_) (fun h317 => ?_)
              · -- yes
                refine Ops.v (Yv.move rfl) ?_
                refine Ops.vg ⟨_, rfl, rfl⟩ (Yv.move rfl) ?_
                refine Ops.vg ⟨_, rfl, rfl⟩ (Yv.move rfl) ?_
                refine Ops.vg ⟨_, rfl, rfl⟩ (Yv.ge rfl rfl) ?_
                refine Ops.dec (fun h318 => ?_) (fun h318 => ?_)
                · -- yes
                  refine Ops.v (Yv.pick1 rfl rfl) ?_
                  refine Ops.v (Yv.move rfl) ?_
                  refine Ops.skip ⟨_, rfl, rfl⟩ ?_
                  refine Ops.skip ⟨_, rfl, rfl⟩ ?_
                  refine Ops.skip ⟨_, rfl, rfl⟩ ?_
                  refine Ops.skip ⟨_, rfl, rfl⟩ ?_
                  refine Ops.skip ⟨_, rfl, rfl⟩ ?_
                  refine Ops.skip ⟨_, rfl, rfl⟩ ?_
                  refine Ops.skip ⟨_, rfl, rfl⟩ ?_
                  refine Ops.skip ⟨_, rfl, rfl⟩ ?_
                  refine Ops.skip ⟨_, rfl, rfl⟩ ?_
                  refine Ops.skip ⟨_, rfl, rfl⟩ ?_
                  refine Ops.skip ⟨_, rfl, rfl⟩ ?_
                  refine Ops.skip ⟨_, rfl, rfl⟩ ?_
                  refine Ops.skip ⟨_, rfl, rfl⟩ ?_
                  refine Ops.skip ⟨_, rfl, rfl⟩ ?_
                  refine Ops.skip ⟨_, rfl, rfl⟩ ?_
                  refine Ops.skip ⟨_, rfl, rfl⟩ ?_
                  refine Ops.skip ⟨_, rfl, rfl⟩ ?_
                  refine Ops.v (Yv.pick1 rfl rfl) ?_
                  refine Ops.v (Yv.assign rfl) ?_
                  refine Ops.nil ?_
                  refine ⟨rfl, Sub.le ⟨rfl, rfl, rfl, rfl, rfl, rfl, rfl, rfl, rfl, rfl, rfl, rfl, rfl, lookB rfl (by first | (simp only [h317, h318, not_true_eq_false, not_false_eq_true, or_true, true_or, or_false, false_or, and_true, true_and, and_false, false_and, decide_true, decide_false, or_self, and_self, Bool.decide_eq_true]; done) | simp [h317, h318]), rfl, rfl, rfl, rfl, trivial⟩⟩
                · -- no
                  refine Ops.v (Yv.pick1 rfl rfl) ?_
                  refine Ops.v (Yv.move rfl) ?_
                  refine Ops.vg ⟨_, rfl, rfl⟩ (Yv.move rfl) ?_
                  refine Ops.vg ⟨_, rfl, rfl⟩ (Yv.move rfl) ?_
                  refine Ops.vg ⟨_, rfl, rfl⟩ (Yv.rem rfl rfl (by omega) (by omega)) ?_
                  refine Ops.vg ⟨_, rfl, rfl⟩ (Yv.move rfl) ?_
                  refine Ops.vg ⟨_, rfl, rfl⟩ (Yv.sub rfl rfl (by omega)) ?_
                  refine Ops.vg ⟨_, rfl, rfl⟩ (Yv.ge rfl rfl) ?_
                  refine Ops.dec (fun h319 => ?_) (fun h319 => ?_)
                  · -- yes
                    refine Ops.vg ⟨_, rfl, rfl⟩ (Yv.move rfl) ?_
                    refine Ops.vg ⟨_, rfl, rfl⟩ (Yv.move rfl) ?_
                    refine Ops.vg ⟨_, rfl, rfl⟩ (Yv.move rfl) ?_
                    have hdz := div_bd (a := ((k : Int) % W)) (b := sz) (by omega) (by omega)
                    refine Ops.vg ⟨_, rfl, rfl⟩ (Yv.quo rfl rfl (by omega) (by omega) (by omega)) ?_
                    refine Ops.vg ⟨_, rfl, rfl⟩ (Yv.move rfl) ?_
                    have hdm := mul_bd (a := ((k : Int) % W) / sz) (b := sz) (x := 64) (y := 64) (by omega) (by omega) (by omega) (by omega)
                    refine Ops.vg ⟨_, rfl, rfl⟩ (Yv.mul rfl rfl (by omega)) ?_
                    refine Ops.vg ⟨_, rfl, rfl⟩ (Yv.move rfl) ?_
                    refine Ops.vg ⟨_, rfl, rfl⟩ (Yv.add rfl rfl (by omega)) ?_
                    refine Ops.vg ⟨_, rfl, rfl⟩ (Yv.move rfl) ?_
                    refine Ops.vg ⟨_, rfl, rfl⟩ (Yv.lt rfl rfl) ?_
                    refine Ops.vg ⟨_, rfl, rfl⟩ (Yv.pick1 rfl rfl) ?_
                    refine Ops.v (Yv.pick0 rfl rfl) ?_
                    refine Ops.v (Yv.assign rfl) ?_
                    refine Ops.nil ?_
                    refine ⟨rfl, Sub.le ⟨rfl, rfl, rfl, rfl, rfl, rfl, rfl, rfl, rfl, rfl, rfl, rfl, rfl, lookB rfl (by first | (simp only [h317, h318, h319, not_true_eq_false, not_false_eq_true, or_true, true_or, or_false, false_or, and_true, true_and, and_false, false_and, decide_true, decide_false, or_self, and_self, Bool.decide_eq_true]; done) | simp [h317, h318, h319]), rfl, rfl, rfl, rfl, trivial⟩⟩
                  · -- no
                    refine Ops.vg ⟨_, rfl, rfl⟩ (Yv.move rfl) ?_
                    refine Ops.skip ⟨_, rfl, rfl⟩ ?_
                    refine Ops.skip ⟨_, rfl, rfl⟩ ?_
                    refine Ops.skip ⟨_, rfl, rfl⟩ ?_
                    refine Ops.skip ⟨_, rfl, rfl⟩ ?_
                    refine Ops.skip ⟨_, rfl, rfl⟩ ?_
                    refine Ops.skip ⟨_, rfl, rfl⟩ ?_
                    refine Ops.skip ⟨_, rfl, rfl⟩ ?_
                    refine Ops.skip ⟨_, rfl, rfl⟩ ?_
                    refine Ops.skip ⟨_, rfl, rfl⟩ ?_
                    refine Ops.vg ⟨_, rfl, rfl⟩ (Yv.pick0 rfl rfl) ?_
                    refine Ops.v (Yv.pick0 rfl rfl) ?_
                    refine Ops.v (Yv.assign rfl) ?_
                    refine Ops.nil ?_
                    refine ⟨rfl, Sub.le ⟨rfl, rfl, rfl, rfl, rfl, rfl, rfl, rfl, rfl, rfl, rfl, rfl, rfl, lookB rfl (by first | (simp only [h317, h318, h319, not_true_eq_false, not_false_eq_true, or_true, true_or, or_false, false_or, and_true, true_and, and_false, false_and, decide_true, decide_false, or_self, and_self, Bool.decide_eq_true]; done) | simp [h317, h318, h319]), rfl, rfl, rfl, rfl, trivial⟩⟩
              · -- no
                refine Ops.v (Yv.move rfl) ?_
                refine Ops.skip ⟨_, rfl, rfl⟩ ?_
                refine Ops.skip ⟨_, rfl, rfl⟩ ?_
                refine Ops.skip ⟨_, rfl, rfl⟩ ?_
                refine Ops.v (Yv.pick0 rfl rfl) ?_
                refine Ops.v (Yv.move rfl) ?_
                refine Ops.vg ⟨_, rfl, rfl⟩ (Yv.move rfl) ?_
                refine Ops.vg ⟨_, rfl, rfl⟩ (Yv.move rfl) ?_
                refine Ops.vg ⟨_, rfl, rfl⟩ (Yv.rem rfl rfl (by omega) (by omega)) ?_
                refine Ops.vg ⟨_, rfl, rfl⟩ (Yv.move rfl) ?_
                refine Ops.vg ⟨_, rfl, rfl⟩ (Yv.sub rfl rfl (by omega)) ?_
                refine Ops.vg ⟨_, rfl, rfl⟩ (Yv.ge rfl rfl) ?_
                refine Ops.dec (fun h320 => ?_) (fun h320 => ?_)
                · -- yes
                  refine Ops.vg ⟨_, rfl, rfl⟩ (Yv.move rfl) ?_
                  refine Ops.vg ⟨_, rfl, rfl⟩ (Yv.move rfl) ?_
                  refine Ops.vg ⟨_, rfl, rfl⟩ (Yv.move rfl) ?_
                  have hdz := div_bd (a := ((k : Int) % W)) (b := sz) (by omega) (by omega)
                  refine Ops.vg ⟨_, rfl, rfl⟩ (Yv.quo rfl rfl (by omega) (by omega) (by omega)) ?_
                  refine Ops.vg ⟨_, rfl, rfl⟩ (Yv.move rfl) ?_
                  have hdm := mul_bd (a := ((k : Int) % W) / sz) (b := sz) (x := 64) (y := 64) (by omega) (by omega) (by omega) (by omega)
                  refine Ops.vg ⟨_, rfl, rfl⟩ (Yv.mul rfl rfl (by omega)) ?_
                  refine Ops.vg ⟨_, rfl, rfl⟩ (Yv.move rfl) ?_
                  refine Ops.vg ⟨_, rfl, rfl⟩ (Yv.add rfl rfl (by omega)) ?_
                  refine Ops.vg ⟨_, rfl, rfl⟩ (Yv.move rfl) ?_
                  refine Ops.vg ⟨_, rfl, rfl⟩ (Yv.lt rfl rfl) ?_
                  refine Ops.vg ⟨_, rfl, rfl⟩ (Yv.pick1 rfl rfl) ?_
                  refine Ops.v (Yv.pick0 rfl rfl) ?_
                  refine Ops.v (Yv.assign rfl) ?_
                  refine Ops.nil ?_
                  refine ⟨rfl, Sub.le ⟨rfl, rfl, rfl, rfl, rfl, rfl, rfl, rfl, rfl, rfl, rfl, rfl, rfl, lookB rfl (by first | (simp only [h317, h320, not_true_eq_false, not_false_eq_true, or_true, true_or, or_false, false_or, and_true, true_and, and_false, false_and, decide_true, decide_false, or_self, and_self, Bool.decide_eq_true]; done) | simp [h317, h320]), rfl, rfl, rfl, rfl, trivial⟩⟩
                · -- no
                  refine Ops.vg ⟨_, rfl, rfl⟩ (Yv.move rfl) ?_
                  refine Ops.skip ⟨_, rfl, rfl⟩ ?_
                  refine Ops.skip ⟨_, rfl, rfl⟩ ?_
                  refine Ops.skip ⟨_, rfl, rfl⟩ ?_
                  refine Ops.skip ⟨_, rfl, rfl⟩ ?_
                  refine Ops.skip ⟨_, rfl, rfl⟩ ?_
                  refine Ops.skip ⟨_, rfl, rfl⟩ ?_
                  refine Ops.skip ⟨_, rfl, rfl⟩ ?_
                  refine Ops.skip ⟨_, rfl, rfl⟩ ?_
                  refine Ops.skip ⟨_, rfl, rfl⟩ ?_
                  refine Ops.vg ⟨_, rfl, rfl⟩ (Yv.pick0 rfl rfl) ?_
                  refine Ops.v (Yv.pick0 rfl rfl) ?_
                  refine Ops.v (Yv.assign rfl) ?_
                  refine Ops.nil ?_
                  refine ⟨rfl, Sub.le ⟨rfl, rfl, rfl, rfl, rfl, rfl, rfl, rfl, rfl, rfl, rfl, rfl, rfl, lookB rfl (by first | (simp only [h317, h320, not_true_eq_false, not_false_eq_true, or_true, true_or, or_false, false_or, and_true, true_and, and_false, false_and, decide_true, decide_false, or_self, and_self, Bool.decide_eq_true]; done) | simp [h317, h320]), rfl, rfl, rfl, rfl, trivial⟩⟩
            rintro e321 _ ⟨rfl, he321⟩
            refine k316 _ _ ?_
            refine Run.le he321 ?_
            refine run_seq fun K322 k322 => ?_
            refine Run.cut (fun e_ w_ => HS w [.row Ad271 ((W * H).toNat) c272 (u8s (passF up co W H (W / 4) (List.replicate ((H / 4).toNat * (W / 4).toNat) sz) (idsTo (W / 4).toNat (sz / 4) ((H / 4).toNat * (W / 4).toNat)) (List.replicate ((H / 4).toNat * (W / 4).toNat) false) lv (bringF sh0 8) (fitTo xs (W * H).toNat))) 5 1, .row Ad258 ((H / 4).toNat * (W / 4).toNat) c261 (u8s (List.replicate ((H / 4).toNat * (W / 4).toNat) sz)) 5 1, .row Ad259 ((H / 4).toNat * (W / 4).toNat) c262 (i64s (idsTo (W / 4).toNat (sz / 4) ((H / 4).toNat * (W / 4).toNat))) 3 1, .row Ad260 ((H / 4).toNat * (W / 4).toNat) c263 (bools (List.replicate ((H / 4).toNat * (W / 4).toNat) false)) 4 1, .blk b254 [.int .i64 W, .int .i64 H, .slice Ad271 ((W * H).toNat) c272] 28, .blk b16 [.int .i64 W, .int .i64 H, .slice Ad12 ((W * H).toNat) c13] 28, .row Ad12 ((W * H).toNat) c13 (u8s (fitTo xs (W * H).toNat)) 5 1, .blk b5 [.bool up, .bool co, .int .i64 lv0, .int .i64 sh0] 25, .blk b2 [.int .i64 a, .int .i64 b] 22] w_ ∧ Le [(0, .agg #[.int .i64 a, .int .i64 b]), (1, .slice A m c), (2, .agg #[.bool up, .bool co, .int .i64 lv0, .int .i64 sh0]), (3, .pointer (some ⟨b2, 0, none⟩)), (5, .pointer (some ⟨b5, 0, none⟩)), (7, .pointer (some ⟨b16, 0, none⟩)), (8, .int .i64 sz), (9, .int .i64 lv), (10, .pointer (some ⟨b254, 0, none⟩)), (11, .int .i64 0), (12, .int .i64 (k : Int)), (13, .int .i64 ((k : Int) % W)), (14, .int .i64 W), (15, .bool (decide ((((((k : Int) % W) % sz) < (6 : Int)) ∧ (sz ≤ ((k : Int) % W))) ∨ (((sz - 6) ≤ (((k : Int) % W) % sz)) ∧ ((((((k : Int) % W) / sz) * sz) + sz) < W))))), (17, .bool false), (72, .bool (decide (((W * H).toNat : Int) ≠ ((W * H).toNat : Int)))), (77, .bool (decide ((k : Int) < ((W * H).toNat : Int)))), (88, .bool (!up)), (141, .bool (decide (((¬ ((((((k : Int) % W) % sz) < (6 : Int)) ∧ (sz ≤ ((k : Int) % W))) ∨ (((sz - 6) ≤ (((k : Int) % W) % sz)) ∧ ((((((k : Int) % W) / sz) * sz) + sz) < W)))) ∨ (lv = (0 : Int))) ∧ ((gi (passF up co W H (W / 4) (List.replicate ((H / 4).toNat * (W / 4).toNat) sz) (idsTo (W / 4).toNat (sz / 4) ((H / 4).toNat * (W / 4).toNat)) (List.replicate ((H / 4).toNat * (W / 4).toNat) false) lv (bringF sh0 8) (fitTo xs (W * H).toNat)) (k : Int)) ≠ (gi (fitTo xs (W * H).toNat) (k : Int))))))] e_) ?_ ?_
            · -- region 17: its ways meet again
              refine run_drawn [] (fun x => Below ((w284.drew).drew).heap.size ((w284.drew).drew) x) ?_ Tf.mixed (by kernel_rfl) (fun _ _ _ h => h)
              have hs323 := hs290.drew
              have hS324 := Below.refl ((w284.drew).drew).heap.size ((w284.drew).drew)
              refine Drw.a 0 rfl (by kernel_rfl) (Yv.move rfl) ?_
              refine Drw.dec (fun h325 => ?_) (fun h325 => ?_)
              · -- yes
                refine Drw.a 1 rfl (by kernel_rfl) (Yv.not rfl) ?_
                refine Drw.a 2 rfl (by kernel_rfl) (Yv.move rfl) ?_
                refine Drw.a 3 rfl (by kernel_rfl) (Yv.move rfl) ?_ ⟨_, rfl, rfl⟩
                refine Drw.a 4 rfl (by kernel_rfl) (Yv.eq rfl rfl) ?_ ⟨_, rfl, rfl⟩
                refine Drw.dec (fun h326 => ?_) (fun h326 => ?_)
                · -- yes
                  refine Drw.a 5 rfl (by kernel_rfl) (Yv.pick0 rfl rfl) ?_
                  refine Drw.a 6 rfl (by kernel_rfl) (Yv.move rfl) ?_
                  refine Drw.a 7 rfl (by kernel_rfl) (Yv.fld F28_2 rfl) ?_ ⟨_, rfl, rfl⟩
                  refine Drw.l 8 rfl (by kernel_rfl) hS324 (Yv.load A23 rfl (fun _ hq_ => ((hs323.grow hq_).cell 4 rfl 2 rfl))) ?_ ⟨_, rfl, rfl⟩
                  refine Drw.a 9 rfl (by kernel_rfl) (Yv.move rfl) ?_ ⟨_, rfl, rfl⟩
                  refine Drw.a 10 rfl (by kernel_rfl) (Yv.idx L23 rfl rfl ((hs323.rdRow 0 rfl).isSome (i := (k : Int)) (by omega) (by omega)) (by omega) (by omega)) ?_ ⟨_, rfl, rfl⟩
                  refine Drw.l 11 rfl (by kernel_rfl) hS324 (Yv.load A5 rfl (fun _ hq_ => (((hs323.grow hq_).rdRow 0 rfl).u8 (by omega) (by omega)))) ?_ ⟨_, rfl, rfl⟩
                  have g327 := gi_bytes (xs := passF up co W H (W / 4) (List.replicate ((H / 4).toNat * (W / 4).toNat) sz) (idsTo (W / 4).toNat (sz / 4) ((H / 4).toNat * (W / 4).toNat)) (List.replicate ((H / 4).toNat * (W / 4).toNat) false) lv (bringF sh0 8) (fitTo xs (W * H).toNat)) (passF_bytes _ _ _ _ _ _ _ _ _ _ (fitTo_bytes hx _)) (k : Int)
                  refine Drw.a 12 rfl (by kernel_rfl) (Yv.fld F28_2 rfl) ?_ ⟨_, rfl, rfl⟩
                  refine Drw.l 13 rfl (by kernel_rfl) hS324 (Yv.load A23 rfl (fun _ hq_ => ((hs323.grow hq_).cell 5 rfl 2 rfl))) ?_ ⟨_, rfl, rfl⟩
                  refine Drw.a 14 rfl (by kernel_rfl) (Yv.move rfl) ?_ ⟨_, rfl, rfl⟩
                  refine Drw.a 15 rfl (by kernel_rfl) (Yv.idx L23 rfl rfl ((hs323.rdRow 6 rfl).isSome (i := (k : Int)) (by omega) (by omega)) (by omega) (by omega)) ?_ ⟨_, rfl, rfl⟩
                  refine Drw.l 16 rfl (by kernel_rfl) hS324 (Yv.load A5 rfl (fun _ hq_ => (((hs323.grow hq_).rdRow 6 rfl).u8 (by omega) (by omega)))) ?_ ⟨_, rfl, rfl⟩
                  have g328 := gi_bytes (xs := fitTo xs (W * H).toNat) (fitTo_bytes hx _) (k : Int)
                  refine Drw.a 17 rfl (by kernel_rfl) (Yv.ne rfl rfl) ?_ ⟨_, rfl, rfl⟩
                  refine Drw.a 18 rfl (by kernel_rfl) (Yv.pick1 rfl rfl) ?_
                  refine Drw.done ?_ (by kernel_rfl)
                  refine ⟨hs323, Sub.le ⟨rfl, rfl, rfl, rfl, rfl, rfl, rfl, rfl, rfl, rfl, rfl, rfl, rfl, rfl, rfl, rfl, rfl, rfl, lookB rfl (by first | (simp only [h325, h326, not_true_eq_false, not_false_eq_true, or_true, true_or, or_false, false_or, and_true, true_and, and_false, false_and, decide_true, decide_false, or_self, and_self, Bool.decide_eq_true]; done) | simp [h325, h326]), trivial⟩⟩
                · -- no
                  refine Drw.a 5 rfl (by kernel_rfl) (Yv.pick0 rfl rfl) ?_
                  refine Drw.a 6 rfl (by kernel_rfl) (Yv.move rfl) ?_
                  refine Drw.no 7 rfl (by kernel_rfl) ?_ ⟨_, rfl, rfl⟩
                  refine Drw.no 8 rfl (by kernel_rfl) ?_ ⟨_, rfl, rfl⟩
                  refine Drw.no 9 rfl (by kernel_rfl) ?_ ⟨_, rfl, rfl⟩
                  refine Drw.no 10 rfl (by kernel_rfl) ?_ ⟨_, rfl, rfl⟩
                  refine Drw.no 11 rfl (by kernel_rfl) ?_ ⟨_, rfl, rfl⟩
                  refine Drw.no 12 rfl (by kernel_rfl) ?_ ⟨_, rfl, rfl⟩
                  refine Drw.no 13 rfl (by kernel_rfl) ?_ ⟨_, rfl, rfl⟩
                  refine Drw.no 14 rfl (by kernel_rfl) ?_ ⟨_, rfl, rfl⟩
                  refine Drw.no 15 rfl (by kernel_rfl) ?_ ⟨_, rfl, rfl⟩
                  refine Drw.no 16 rfl (by kernel_rfl) ?_ ⟨_, rfl, rfl⟩
                  refine Drw.no 17 rfl (by kernel_rfl) ?_ ⟨_, rfl, rfl⟩
                  refine Drw.a 18 rfl (by kernel_rfl) (Yv.pick0 rfl rfl) ?_
                  refine Drw.done ?_ (by kernel_rfl)
                  refine ⟨hs323, Sub.le ⟨rfl, rfl, rfl, rfl, rfl, rfl, rfl, rfl, rfl, rfl, rfl, rfl, rfl, rfl, rfl, rfl, rfl, rfl, lookB rfl (by first | (simp only [h325, h326, not_true_eq_false, not_false_eq_true, or_true, true_or, or_false, false_or, and_true, true_and, and_false, false_and, decide_true, decide_false, or_self, and_self, Bool.decide_eq_true]; done) | simp [h325, h326]), trivial⟩⟩
              · -- no
                refine Drw.a 1 rfl (by kernel_rfl) (Yv.not rfl) ?_
                refine Drw.a 2 rfl (by kernel_rfl) (Yv.move rfl) ?_
                refine Drw.no 3 rfl (by kernel_rfl) ?_ ⟨_, rfl, rfl⟩
                refine Drw.no 4 rfl (by kernel_rfl) ?_ ⟨_, rfl, rfl⟩
                refine Drw.a 5 rfl (by kernel_rfl) (Yv.pick1 rfl rfl) ?_
                refine Drw.a 6 rfl (by kernel_rfl) (Yv.move rfl) ?_
                refine Drw.a 7 rfl (by kernel_rfl) (Yv.fld F28_2 rfl) ?_ ⟨_, rfl, rfl⟩
                refine Drw.l 8 rfl (by kernel_rfl) hS324 (Yv.load A23 rfl (fun _ hq_ => ((hs323.grow hq_).cell 4 rfl 2 rfl))) ?_ ⟨_, rfl, rfl⟩
                refine Drw.a 9 rfl (by kernel_rfl) (Yv.move rfl) ?_ ⟨_, rfl, rfl⟩
                refine Drw.a 10 rfl (by kernel_rfl) (Yv.idx L23 rfl rfl ((hs323.rdRow 0 rfl).isSome (i := (k : Int)) (by omega) (by omega)) (by omega) (by omega)) ?_ ⟨_, rfl, rfl⟩
                refine Drw.l 11 rfl (by kernel_rfl) hS324 (Yv.load A5 rfl (fun _ hq_ => (((hs323.grow hq_).rdRow 0 rfl).u8 (by omega) (by omega)))) ?_ ⟨_, rfl, rfl⟩
                have g329 := gi_bytes (xs := passF up co W H (W / 4) (List.replicate ((H / 4).toNat * (W / 4).toNat) sz) (idsTo (W / 4).toNat (sz / 4) ((H / 4).toNat * (W / 4).toNat)) (List.replicate ((H / 4).toNat * (W / 4).toNat) false) lv (bringF sh0 8) (fitTo xs (W * H).toNat)) (passF_bytes _ _ _ _ _ _ _ _ _ _ (fitTo_bytes hx _)) (k : Int)
                refine Drw.a 12 rfl (by kernel_rfl) (Yv.fld F28_2 rfl) ?_ ⟨_, rfl, rfl⟩
                refine Drw.l 13 rfl (by kernel_rfl) hS324 (Yv.load A23 rfl (fun _ hq_ => ((hs323.grow hq_).cell 5 rfl 2 rfl))) ?_ ⟨_, rfl, rfl⟩
                refine Drw.a 14 rfl (by kernel_rfl) (Yv.move rfl) ?_ ⟨_, rfl, rfl⟩
                refine Drw.a 15 rfl (by kernel_rfl) (Yv.idx L23 rfl rfl ((hs323.rdRow 6 rfl).isSome (i := (k : Int)) (by omega) (by omega)) (by omega) (by omega)) ?_ ⟨_, rfl, rfl⟩
                refine Drw.l 16 rfl (by kernel_rfl) hS324 (Yv.load A5 rfl (fun _ hq_ => (((hs323.grow hq_).rdRow 6 rfl).u8 (by omega) (by omega)))) ?_ ⟨_, rfl, rfl⟩
                have g330 := gi_bytes (xs := fitTo xs (W * H).toNat) (fitTo_bytes hx _) (k : Int)
                refine Drw.a 17 rfl (by kernel_rfl) (Yv.ne rfl rfl) ?_ ⟨_, rfl, rfl⟩
                refine Drw.a 18 rfl (by kernel_rfl) (Yv.pick1 rfl rfl) ?_
                refine Drw.done ?_ (by kernel_rfl)
                refine ⟨hs323, Sub.le ⟨rfl, rfl, rfl, rfl, rfl, rfl, rfl, rfl, rfl, rfl, rfl, rfl, rfl, rfl, rfl, rfl, rfl, rfl, lookB rfl (by first | (simp only [h325, not_true_eq_false, not_false_eq_true, or_true, true_or, or_false, false_or, and_true, true_and, and_false, false_and, decide_true, decide_false, or_self, and_self, Bool.decide_eq_true]; done) | simp [h325]), trivial⟩⟩
            rintro e333 w333 ⟨hs333, he333⟩
            refine k322 _ _ ?_
            refine Run.le he333 ?_
            refine run_ifp rfl (fun h334 => ?_) (fun h334 => ?_)
            · -- yes ((¬ ((((((k : Int) % W) % sz) < (6 : Int)) ∧ (sz ≤ ((k : Int) % W))) ∨ (((sz - 6) ≤ (((k : Int) % W) % sz)) ∧ ((((((k : Int) % W) / sz) * sz) + sz) < W)))) ∨ (lv = (0 : Int))) ∧ ((gi (passF up co W H (W / 4) (List.replicate ((H / 4).toNat * (W / 4).toNat) sz) (idsTo (W / 4).toNat (sz / 4) ((H / 4).toNat * (W / 4).toNat)) (List.replicate ((H / 4).toNat * (W / 4).toNat) false) lv (bringF sh0 8) (fitTo xs (W * H).toNat)) (k : Int)) ≠ (gi (fitTo xs (W * H).toNat) (k : Int)))
              refine run_seq fun K335 k335 => ?_
              refine run_region ?_
              refine Ops.v (Yv.assign rfl) ?_
              refine Ops.nil ?_
              refine k335 _ _ ?_
              refine run_ret ?_
              refine ⟨[.bool false], ⟨_, _, rfl, rfl, rfl⟩, ?_⟩
              have hup : up = true := by simpa using h294
              subst hup
              exact absurd (far_up (by omega) (by omega) (by omega) h334.1) h334.2
            · -- no
              refine run_skip ?_
              refine k288 _ _ ?_
              refine run_region ?_
              refine Ops.v (Yv.move rfl) ?_
              refine Ops.v (Yv.add rfl rfl (by omega)) ?_
              refine Ops.v (Yv.assign rfl) ?_
              refine Ops.nil ?_
              refine ⟨k + 1, _, ⟨hs333, rfl, by omega⟩, Sub.le ⟨rfl, rfl, rfl, rfl, rfl, rfl, rfl, rfl, rfl, rfl, lookI rfl (by omega), rfl, rfl, trivial⟩, by omega⟩
        · -- no
          refine run_exit ?_
          refine k282 _ _ ?_
          refine run_seq fun K336 k336 => ?_
          refine run_region ?_
          refine Ops.v (Yv.assign rfl) ?_
          refine Ops.nil ?_
          refine k336 _ _ ?_
          refine run_ret ?_
          refine ⟨[.bool true], ⟨_, _, rfl, rfl, rfl⟩, ?_⟩
          exact ⟨rfl, hs284.pick [] _ (by decide) rfl⟩

end Go.Proofs.Zed
