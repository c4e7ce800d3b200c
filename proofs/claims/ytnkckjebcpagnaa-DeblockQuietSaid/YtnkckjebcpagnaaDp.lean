/- The walk of the pass over a plane's edges (chapter 22), for both ways. -/
import Derived.Test.YtnkckjebcpagnaaDb
set_option linter.unusedVariables false
set_option linter.unusedSimpArgs false
namespace Go.Proofs.Zed
open Go Go.RowKit Tf
attribute [local irreducible] Try.prog

theorem pass_up {w : World} {W H : Int} {A : Option Addr} {m c : Nat} {xs : List Int} (hr : Rd w A m 1 (u8s xs)) (hx : Bytes xs) {mW mH : Int} {At Ai Aq : Option Addr} {nt ni nq ct ci cq : Nat} {tx ids : List Int} {qs : List Bool} (ht : Rd w At nt 1 (u8s tx)) (htx : Bytes tx) (hi : Rd w Ai ni 1 (i64s ids)) (hq : Rd w Aq nq 1 (bools qs)) {co : Bool} {lv sh : Int} : Fun Try.prog 17 [.agg #[.int .i64 W, .int .i64 H, .slice A m c], .agg #[.int .i64 mW, .int .i64 mH, .slice At nt ct, .slice Ai ni ci, .slice Aq nq cq], .bool true, .bool co, .int .i64 lv, .int .i64 sh] w fun v w' => ∃ A' m' c', v = .tuple #[.agg #[.int .i64 (if passBad W H m mW mH tx nt ni nq lv sh then 0 else W), .int .i64 (if passBad W H m mW mH tx nt ni nq lv sh then 0 else H), .slice A' m' c'], .int .i64 (if passBad W H m mW mH tx nt ni nq lv sh then 2 else 0)] ∧ HS w [.row A' m' c' (u8s (if passBad W H m mW mH tx nt ni nq lv sh then [] else passF true co W H mW tx ids qs lv sh xs)) 5 1] w' := by
  refine fun_run (m := 212) (rs := [.cell 12 28, .tmp 13]) Try.func17 rfl rfl rfl rfl rfl ?_
  have hs0 := HS.start w
  have hbig := hr.big
  have hlen : xs.length = m := by have := hr.len; rw [u8s_length] at this; omega
  have hlt : tx.length = nt := by have := ht.len; rw [u8s_length] at this; omega
  have hlq : qs.length = nq := by have := hq.len; rw [bools_length] at this; omega
  have hli : ids.length = ni := by have := hi.len; rw [i64s_length] at this; omega
  refine run_seq fun K1 k1 => ?_
  refine run_region ?_
  refine Ops.s (Step.box (cs := [.int .i64 W, .int .i64 H, .slice A m c]) hs0 rfl rfl (fun b2 w3 hs3 hb3 => ?_) True.intro (by rfl))
  refine Ops.s (Step.box (cs := [.int .i64 mW, .int .i64 mH, .slice At nt ct, .slice Ai ni ci, .slice Aq nq cq]) hs3 rfl rfl (fun b5 w6 hs6 hb6 => ?_) True.intro (by rfl))
  refine Ops.s (Step.alloc (cs := [.int .i64 0, .int .i64 0, .slice none 0 0]) hs6 Z28 rfl (fun b8 w9 hs9 hb9 => ?_) True.intro (by rfl))
  refine Ops.v (Yv.assign rfl) ?_
  refine Ops.nil ?_
  refine k1 _ _ ?_
  refine run_seq fun K11 k11 => ?_
  refine run_seq fun K12 k12 => ?_
  refine Run.cut (fun e_ w_ => HS w [.blk b8 [.int .i64 0, .int .i64 0, .slice none 0 0] 28, .blk b5 [.int .i64 mW, .int .i64 mH, .slice At nt ct, .slice Ai ni ci, .slice Aq nq cq] 37, .blk b2 [.int .i64 W, .int .i64 H, .slice A m c] 28] w_ ∧ Le [(0, .agg #[.int .i64 W, .int .i64 H, .slice A m c]), (1, .agg #[.int .i64 mW, .int .i64 mH, .slice At nt ct, .slice Ai ni ci, .slice Aq nq cq]), (2, .bool true), (3, .bool co), (4, .int .i64 lv), (5, .int .i64 sh), (6, .pointer (some ⟨b2, 0, none⟩)), (7, .pointer (some ⟨b5, 0, none⟩)), (12, .pointer (some ⟨b8, 0, none⟩)), (13, .int .i64 0), (44, .bool (decide (((¬ (mayP W H m mW mH tx nt ni nq)) ∨ (¬ ((0 : Int) ≤ lv ∧ lv ≤ 63))) ∨ (¬ ((0 : Int) ≤ sh ∧ sh ≤ 7)))))] e_) ?_ ?_
  · -- region 1: its ways meet again
    refine run_region ?_
    refine Ops.v (Yv.loadn (cs := [.int .i64 W, .int .i64 H, .slice A m c]) A28 S28 rfl (now (hs9.cells 2 rfl 0 3))) ?_
    refine Ops.v (Yv.loadn (cs := [.int .i64 mW, .int .i64 mH, .slice At nt ct, .slice Ai ni ci, .slice Aq nq cq]) A37 S37 rfl (now (hs9.cells 1 rfl 0 5))) ?_
    refine Ops.s (Step.call rfl rfl (may_fun (hs9.rd ht) htx) (?_) True.intro (by rfl))
    rintro _ w13 ⟨rfl, hs13⟩
    replace hs13 := hs9.call hs13
    refine Ops.dec (fun h14 => ?_) (fun h14 => ?_)
    · -- yes
      refine Ops.v (Yv.not rfl) ?_
      refine Ops.v (Yv.move rfl) ?_
      refine Ops.vg ⟨_, rfl, rfl⟩ (Yv.move rfl) ?_
      refine Ops.s (Step.call rfl rfl (within_fun) (?_) ⟨_, rfl, rfl⟩ (by rfl))
      rintro _ _ ⟨rfl, rfl⟩
      refine Ops.dec (fun h16 => ?_) (fun h16 => ?_)
      · -- yes
        refine Ops.vg ⟨_, rfl, rfl⟩ (Yv.not rfl) ?_
        refine Ops.v (Yv.pick0 rfl rfl) ?_
        refine Ops.v (Yv.move rfl) ?_
        refine Ops.vg ⟨_, rfl, rfl⟩ (Yv.move rfl) ?_
        refine Ops.s (Step.call rfl rfl (within_fun) (?_) ⟨_, rfl, rfl⟩ (by rfl))
        rintro _ _ ⟨rfl, rfl⟩
        refine Ops.vg ⟨_, rfl, rfl⟩ (Yv.notp rfl) ?_
        refine Ops.v (Yv.pick0 rfl rfl) ?_
        refine Ops.nil ?_
        refine ⟨hs13, Sub.le ⟨rfl, rfl, rfl, rfl, rfl, rfl, rfl, rfl, rfl, rfl, lookB rfl (by first | (simp only [h14, h16, ne_eq, not_true_eq_false, not_false_eq_true, or_true, true_or, or_false, false_or, and_true, true_and, and_false, false_and, decide_true, decide_false, or_self, and_self, Bool.decide_eq_true]; done) | simp [h14, h16]), trivial⟩⟩
      · -- no
        refine Ops.vg ⟨_, rfl, rfl⟩ (Yv.not rfl) ?_
        refine Ops.v (Yv.pick0 rfl rfl) ?_
        refine Ops.v (Yv.move rfl) ?_
        refine Ops.skip ⟨_, rfl, rfl⟩ ?_
        refine Ops.skip ⟨_, rfl, rfl⟩ ?_
        refine Ops.skip ⟨_, rfl, rfl⟩ ?_
        refine Ops.v (Yv.pick1 rfl rfl) ?_
        refine Ops.nil ?_
        refine ⟨hs13, Sub.le ⟨rfl, rfl, rfl, rfl, rfl, rfl, rfl, rfl, rfl, rfl, lookB rfl (by first | (simp only [h14, h16, ne_eq, not_true_eq_false, not_false_eq_true, or_true, true_or, or_false, false_or, and_true, true_and, and_false, false_and, decide_true, decide_false, or_self, and_self, Bool.decide_eq_true]; done) | simp [h14, h16]), trivial⟩⟩
    · -- no
      refine Ops.v (Yv.not rfl) ?_
      refine Ops.v (Yv.move rfl) ?_
      refine Ops.skip ⟨_, rfl, rfl⟩ ?_
      refine Ops.skip ⟨_, rfl, rfl⟩ ?_
      refine Ops.skip ⟨_, rfl, rfl⟩ ?_
      refine Ops.v (Yv.pick1 rfl rfl) ?_
      refine Ops.v (Yv.move rfl) ?_
      refine Ops.skip ⟨_, rfl, rfl⟩ ?_
      refine Ops.skip ⟨_, rfl, rfl⟩ ?_
      refine Ops.skip ⟨_, rfl, rfl⟩ ?_
      refine Ops.v (Yv.pick1 rfl rfl) ?_
      refine Ops.nil ?_
      refine ⟨hs13, Sub.le ⟨rfl, rfl, rfl, rfl, rfl, rfl, rfl, rfl, rfl, rfl, lookB rfl (by first | (simp only [h14, ne_eq, not_true_eq_false, not_false_eq_true, or_true, true_or, or_false, false_or, and_true, true_and, and_false, false_and, decide_true, decide_false, or_self, and_self, Bool.decide_eq_true]; done) | simp [h14]), trivial⟩⟩
  rintro e18 w18 ⟨hs18, he18⟩
  refine k12 _ _ ?_
  refine Run.le he18 ?_
  refine run_ifp rfl (fun h19 => ?_) (fun h19 => ?_)
  · -- yes ((¬ (mayP W H m mW mH tx nt ni nq)) ∨ (¬ ((0 : Int) ≤ lv ∧ lv ≤ 63))) ∨ (¬ ((0 : Int) ≤ sh ∧ sh ≤ 7))
    refine run_seq fun K20 k20 => ?_
    refine run_region ?_
    refine Ops.v (Yv.buildS (cs := #[.int .i64 0, .int .i64 0, .slice none 0 0]) T28 rfl rfl) ?_
    refine Ops.s (Step.store (vs := [.int .i64 0, .int .i64 0, .slice none 0 0]) 0 hs18 rfl rfl rfl rfl S28 (Nat.le_of_ble_eq_true rfl) rfl (fun w21 hs21 => ?_) True.intro)
    replace hs21 : HS _ [.blk _ [_, _, _] _, .blk _ [_, _, _, _, _] _, .blk _ [_, _, _] _] _ := hs21
    refine Ops.v (Yv.assign rfl) ?_
    refine Ops.nil ?_
    refine k20 _ _ ?_
    refine run_ret ?_
    refine ⟨[.agg #[.int .i64 0, .int .i64 0, .slice none 0 0], .int .i64 2], ⟨_, _, _, rfl, rfl, run_loadn (cs := [.int .i64 0, .int .i64 0, .slice none 0 0]) A28 S28 (hs21.cells 0 rfl 0 3), ⟨_, _, rfl, rfl, rfl⟩⟩, ?_⟩
    refine ⟨none, 0, 0, pass_tup (if_pos h19).symm (if_pos h19).symm (if_pos h19).symm, ?_⟩
    exact ((hs21.pick [] [] (by decide) rfl).nilRow 5 1).to (by rw [if_pos h19]; rfl)
  · -- no
    have hfa : 1 ≤ W ∧ W ≤ 512 ∧ 1 ≤ H ∧ H ≤ 512 ∧ (m : Int) = W * H ∧ W = 4 * mW ∧ H = 4 * mH ∧ (nt : Int) = mW * mH ∧ (ni : Int) = mW * mH ∧ (nq : Int) = mW * mH ∧ (∀ x ∈ tx, x = 4 ∨ x = 8 ∨ x = 16 ∨ x = 32 ∨ x = 64) ∧ (0 ≤ lv ∧ lv ≤ 63) ∧ (0 ≤ sh ∧ sh ≤ 7) := pass_ok h19
    have hWH := mul_bd (a := W) (b := H) (x := 512) (y := 512) (by omega) (by omega) (by omega) (by omega)
    have hMM := mul_bd (a := mW) (b := mH) (x := 512) (y := 512) (by omega) (by omega) (by omega) (by omega)
    refine run_skip ?_
    refine k11 _ _ ?_
    refine run_seq fun K22 k22 => ?_
    refine run_region ?_
    refine Ops.v (Yv.fld F28_2 rfl) ?_
    refine Ops.v (Yv.load A23 rfl (now (hs18.cell 2 rfl 2 rfl))) ?_
    refine Ops.s (Step.call rfl rfl (clone_fun (hs18.rd hr) (by omega)) (?_) True.intro (by rfl))
    rintro _ w26 ⟨Ad23, c24, rfl, hs26⟩
    replace hs26 := hs18.call hs26
    refine Ops.v (Yv.fld F28_2 rfl) ?_
    refine Ops.s (Step.store (vs := [.slice Ad23 m c24]) 3 hs26 rfl rfl rfl rfl S23 (Nat.le_of_ble_eq_true rfl) rfl (fun w27 hs27 => ?_) True.intro)
    replace hs27 : HS _ [.row _ _ _ _ _ _, .blk _ [_, _, _] _, .blk _ [_, _, _, _, _] _, .blk _ [_, _, _] _] _ := hs27
    refine Ops.nil ?_
    refine k22 _ _ ?_
    refine run_seq fun K28 k28 => ?_
    refine run_seq fun K29 k29 => ?_
    refine run_region ?_
    refine Ops.v (Yv.move rfl) ?_
    refine Ops.v (Yv.eq rfl rfl) ?_
    refine Ops.nil ?_
    refine k29 _ _ ?_
    refine run_ifp rfl (fun h30 => ?_) (fun h30 => ?_)
    · -- yes lv = (0 : Int)
      refine run_seq fun K31 k31 => ?_
      refine run_region ?_
      refine Ops.v (Yv.loadn (cs := [.int .i64 W, .int .i64 H, .slice Ad23 m c24]) A28 S28 rfl (now (hs27.cells 3 rfl 0 3))) ?_
      refine Ops.s (Step.store (vs := [.int .i64 W, .int .i64 H, .slice Ad23 m c24]) 1 hs27 rfl rfl rfl rfl S28 (Nat.le_of_ble_eq_true rfl) rfl (fun w32 hs32 => ?_) True.intro)
      replace hs32 : HS _ [.row _ _ _ _ _ _, .blk _ [_, _, _] _, .blk _ [_, _, _, _, _] _, .blk _ [_, _, _] _] _ := hs32
      refine Ops.v (Yv.assign rfl) ?_
      refine Ops.nil ?_
      refine k31 _ _ ?_
      refine run_ret ?_
      refine ⟨[.agg #[.int .i64 W, .int .i64 H, .slice Ad23 m c24], .int .i64 0], ⟨_, _, _, rfl, rfl, run_loadn (cs := [.int .i64 W, .int .i64 H, .slice Ad23 m c24]) A28 S28 (hs32.cells 1 rfl 0 3), ⟨_, _, rfl, rfl, rfl⟩⟩, ?_⟩
      refine ⟨_, _, _, pass_tup (if_neg h19).symm (if_neg h19).symm (if_neg h19).symm, ?_⟩
      have hz := hs32.pick [0] [.row Ad23 m c24 (u8s xs) 5 1] (by decide) rfl
      exact hz.to (by rw [if_neg h19, passF, if_pos h30])
    · -- no
      refine run_skip ?_
      refine k28 _ _ ?_
      refine run_seq fun K33 k33 => ?_
      refine run_region ?_
      refine Ops.v (Yv.move rfl) ?_
      refine Ops.v (Yv.move rfl) ?_
      refine Ops.s (Step.call rfl rfl (bounds_fun (by omega) (by omega)) (?_) True.intro (by rfl))
      rintro _ w34 ⟨rfl, hs34⟩
      replace hs34 := hs27.call hs34
      refine Ops.s (Step.alloc (cs := [.int .i64 0, .int .i64 0, .int .i64 0]) hs34 Z111 rfl (fun b35 w36 hs36 hb36 => ?_) True.intro (by rfl))
      refine Ops.s (Step.store (vs := [.int .i64 (limitF lv sh), .int .i64 (edgeF lv sh), .int .i64 (thrF lv)]) 0 hs36 rfl rfl rfl rfl S111 (Nat.le_of_ble_eq_true rfl) rfl (fun w38 hs38 => ?_) True.intro)
      replace hs38 : HS _ [.blk _ [_, _, _] _, .row _ _ _ _ _ _, .blk _ [_, _, _] _, .blk _ [_, _, _, _, _] _, .blk _ [_, _, _] _] _ := hs38
      refine Ops.nil ?_
      refine k33 _ _ ?_
      refine run_seq fun K39 k39 => ?_
      refine run_drawn [] (fun x => Below (w38.drew).heap.size (w38.drew) x) ?_ Tf.mixed (by kernel_rfl) (fun _ _ _ h => h)
      have hs40 := hs38.drew
      have hS41 := Below.refl (w38.drew).heap.size (w38.drew)
      refine Drw.a 0 rfl (by kernel_rfl) (Yv.fld F28_0 rfl) ?_
      refine Drw.l 1 rfl (by kernel_rfl) hS41 (Yv.load A3 rfl (fun _ hq_ => ((hs40.grow hq_).cell 4 rfl 0 rfl))) ?_
      refine Drw.a 2 rfl (by kernel_rfl) (Yv.fld F28_0 rfl) ?_
      refine Drw.l 3 rfl (by kernel_rfl) hS41 (Yv.load A3 rfl (fun _ hq_ => ((hs40.grow hq_).cell 4 rfl 0 rfl))) ?_
      refine Drw.a 4 rfl (by kernel_rfl) (Yv.assign rfl) ?_
      refine Drw.a 5 rfl (by kernel_rfl) (Yv.assign rfl) ?_
      refine Drw.a 6 rfl (by kernel_rfl) (Yv.assign rfl) ?_
      refine Drw.a 7 rfl (by kernel_rfl) (Yv.assign rfl) ?_
      refine Drw.done ?_ (by kernel_rfl)
      refine k39 _ _ ?_
      refine run_seq fun K42 k42 => ?_
      refine run_seq fun K43 k43 => ?_
      refine run_region ?_
      refine Ops.v (Yv.move rfl) ?_
      refine Ops.v (Yv.not rfl) ?_
      refine Ops.nil ?_
      refine k43 _ _ ?_
      refine run_if0 rfl ?_
      refine run_skip ?_
      refine k42 _ _ ?_
      refine run_seq fun K44 k44 => ?_
      refine run_seq fun K45 k45 => ?_
      refine run_region ?_
      refine Ops.v (Yv.fld F37_2 rfl) ?_
      refine Ops.v (Yv.load A23 rfl (now (hs40.cell 3 rfl 2 rfl))) ?_
      refine Ops.v (Yv.len (by rw [L23]; rfl) rfl) ?_
      refine Ops.v (Yv.move rfl) ?_
      refine Ops.nil ?_
      refine k45 _ _ ?_
      refine run_block ?_
      refine Run.sub [(0, _), (1, _), (2, _), (3, _), (4, _), (5, _), (6, _), (7, _), (12, _), (13, _), (14, _), (15, _), (16, _), (17, _), (18, _), (44, _), (51, _), (61, _), (69, _), (70, _), (71, _)] ⟨rfl, rfl, rfl, rfl, rfl, rfl, rfl, rfl, rfl, rfl, rfl, rfl, rfl, rfl, rfl, rfl, rfl, rfl, rfl, rfl, rfl, trivial⟩ ?_
      refine run_loop (σ := Nat) (fun k e_ w_ => HS w [.blk b35 [.int .i64 (limitF lv sh), .int .i64 (edgeF lv sh), .int .i64 (thrF lv)] 111, .row Ad23 m c24 (u8s (passTo true co W H mW tx ids qs (limitF lv sh) (edgeF lv sh) (thrF lv) xs k)) 5 1, .blk b8 [.int .i64 0, .int .i64 0, .slice none 0 0] 28, .blk b5 [.int .i64 mW, .int .i64 mH, .slice At nt ct, .slice Ai ni ci, .slice Aq nq cq] 37, .blk b2 [.int .i64 W, .int .i64 H, .slice Ad23 m c24] 28] w_ ∧ e_ = [(0, .agg #[.int .i64 W, .int .i64 H, .slice A m c]), (1, .agg #[.int .i64 mW, .int .i64 mH, .slice At nt ct, .slice Ai ni ci, .slice Aq nq cq]), (2, .bool true), (3, .bool co), (4, .int .i64 lv), (5, .int .i64 sh), (6, .pointer (some ⟨b2, 0, none⟩)), (7, .pointer (some ⟨b5, 0, none⟩)), (12, .pointer (some ⟨b8, 0, none⟩)), (13, .int .i64 0), (14, .pointer (some ⟨b35, 0, none⟩)), (15, .int .i64 1), (16, .int .i64 W), (17, .int .i64 1), (18, .int .i64 W), (44, .bool (decide (((¬ (mayP W H m mW mH tx nt ni nq)) ∨ (¬ ((0 : Int) ≤ lv ∧ lv ≤ 63))) ∨ (¬ ((0 : Int) ≤ sh ∧ sh ≤ 7))))), (51, .bool (decide (lv = (0 : Int)))), (61, .bool false), (69, .slice At nt ct), (70, .int .i64 (nt : Int)), (71, .int .i64 (k : Int))] ∧ k ≤ nt)
        (fun k => nt - k) 0 ?_ ?_
      · -- at the start
        refine ⟨hs40, rfl, by omega⟩
      · -- a round
        rintro k _ w46 ⟨hs46, rfl, f1⟩
        have htk : 0 ≤ (k : Int) ∧ (k : Int) ≤ mW * mH := by omega
        refine run_seq fun K47 k47 => ?_
        refine run_region ?_
        refine Ops.v (Yv.lt rfl rfl) ?_
        refine Ops.nil ?_
        refine k47 _ _ ?_
        refine run_seq fun K48 k48 => ?_
        refine run_ifp rfl (fun h49 => ?_) (fun h49 => ?_)
        · -- yes (k : Int) < (nt : Int)
          have hk1 : (k : Int) < mW * mH := by omega
          have hcx : 0 ≤ (k : Int) % mW ∧ (k : Int) % mW < mW := ⟨Int.emod_nonneg _ (by omega), Int.emod_lt_of_pos _ (by omega)⟩
          have hcy : 0 ≤ (k : Int) / mW ∧ (k : Int) / mW < mH := ⟨Int.ediv_nonneg (by omega) (by omega), Int.ediv_lt_of_lt_mul (by omega) (by rw [Int.mul_comm]; exact hk1)⟩
          have hkd : mW * ((k : Int) / mW) + (k : Int) % mW = k := Int.mul_ediv_add_emod _ _
          refine run_skip ?_
          refine k48 _ _ ?_
          refine run_seq fun K50 k50 => ?_
          refine run_block ?_
          refine run_seq fun K51 k51 => ?_
          refine run_region ?_
          refine Ops.v (Yv.move rfl) ?_
          refine Ops.v (Yv.idx L23 rfl rfl ((hs46.rd ht).isSome (i := (k : Int)) (by omega) (by omega)) (by omega) (by omega)) ?_
          refine Ops.v (Yv.load A5 rfl (now ((hs46.rd ht).u8 (by omega) (by omega)))) ?_
          have g52 := gi_bytes (xs := tx) htx (k : Int)
          refine Ops.v (Yv.assign rfl) ?_
          refine Ops.v (Yv.assign rfl) ?_
          have g52 := gi_bytes (xs := tx) htx (k : Int)
          refine Ops.nil ?_
          refine k51 _ _ ?_
          refine run_seq fun K53 k53 => ?_
          refine run_drawn [] (fun x => Below (w46.drew).heap.size (w46.drew) x) ?_ Tf.mixed (by kernel_rfl) (fun _ _ _ h => h)
          have hs54 := hs46.drew
          have hS55 := Below.refl (w46.drew).heap.size (w46.drew)
          refine Drw.a 0 rfl (by kernel_rfl) (Yv.move rfl) ?_
          refine Drw.a 1 rfl (by kernel_rfl) (Yv.fld F37_0 rfl) ?_
          refine Drw.l 2 rfl (by kernel_rfl) hS55 (Yv.load A3 rfl (fun _ hq_ => ((hs54.grow hq_).cell 3 rfl 0 rfl))) ?_
          refine Drw.a 3 rfl (by kernel_rfl) (Yv.rem rfl rfl (by omega) (by omega)) ?_
          refine Drw.a 4 rfl (by kernel_rfl) (Yv.mul rfl rfl (by omega)) ?_
          refine Drw.a 5 rfl (by kernel_rfl) (Yv.move rfl) ?_
          refine Drw.a 6 rfl (by kernel_rfl) (Yv.fld F37_0 rfl) ?_
          refine Drw.l 7 rfl (by kernel_rfl) hS55 (Yv.load A3 rfl (fun _ hq_ => ((hs54.grow hq_).cell 3 rfl 0 rfl))) ?_
          refine Drw.a 8 rfl (by kernel_rfl) (Yv.quo rfl rfl (by omega) (by omega) (by omega)) ?_
          refine Drw.a 9 rfl (by kernel_rfl) (Yv.mul rfl rfl (by omega)) ?_
          refine Drw.a 10 rfl (by kernel_rfl) (Yv.assign rfl) ?_
          refine Drw.a 11 rfl (by kernel_rfl) (Yv.assign rfl) ?_
          refine Drw.done ?_ (by kernel_rfl)
          refine k53 _ _ ?_
          refine run_seq fun K56 k56 => ?_
          refine run_region ?_
          refine Ops.v (Yv.move rfl) ?_
          refine Ops.v (Yv.assign rfl) ?_
          refine Ops.nil ?_
          refine k56 _ _ ?_
          refine run_seq fun K57 k57 => ?_
          refine run_seq fun K58 k58 => ?_
          refine run_region ?_
          refine Ops.v (Yv.move rfl) ?_
          refine Ops.v (Yv.not rfl) ?_
          refine Ops.nil ?_
          refine k58 _ _ ?_
          refine run_if0 rfl ?_
          refine run_skip ?_
          refine k57 _ _ ?_
          refine run_seq fun K59 k59 => ?_
          refine run_seq fun K60 k60 => ?_
          refine Run.cut (fun e_ w_ => HS w [.blk b35 [.int .i64 (limitF lv sh), .int .i64 (edgeF lv sh), .int .i64 (thrF lv)] 111, .row Ad23 m c24 (u8s (passTo true co W H mW tx ids qs (limitF lv sh) (edgeF lv sh) (thrF lv) xs k)) 5 1, .blk b8 [.int .i64 0, .int .i64 0, .slice none 0 0] 28, .blk b5 [.int .i64 mW, .int .i64 mH, .slice At nt ct, .slice Ai ni ci, .slice Aq nq cq] 37, .blk b2 [.int .i64 W, .int .i64 H, .slice Ad23 m c24] 28] w_ ∧ Le [(0, .agg #[.int .i64 W, .int .i64 H, .slice A m c]), (1, .agg #[.int .i64 mW, .int .i64 mH, .slice At nt ct, .slice Ai ni ci, .slice Aq nq cq]), (2, .bool true), (3, .bool co), (4, .int .i64 lv), (5, .int .i64 sh), (6, .pointer (some ⟨b2, 0, none⟩)), (7, .pointer (some ⟨b5, 0, none⟩)), (12, .pointer (some ⟨b8, 0, none⟩)), (13, .int .i64 0), (14, .pointer (some ⟨b35, 0, none⟩)), (15, .int .i64 1), (16, .int .i64 W), (17, .int .i64 1), (18, .int .i64 W), (19, .int .i64 (k : Int)), (20, .int .u8 (gi tx (k : Int))), (21, .int .i64 ((4 : Int) * ((k : Int) % mW))), (22, .int .i64 ((4 : Int) * ((k : Int) / mW))), (23, .int .i64 ((4 : Int) * ((k : Int) % mW))), (44, .bool (decide (((¬ (mayP W H m mW mH tx nt ni nq)) ∨ (¬ ((0 : Int) ≤ lv ∧ lv ≤ 63))) ∨ (¬ ((0 : Int) ≤ sh ∧ sh ≤ 7))))), (51, .bool (decide (lv = (0 : Int)))), (61, .bool false), (69, .slice At nt ct), (70, .int .i64 (nt : Int)), (71, .int .i64 (k : Int)), (72, .bool (decide ((k : Int) < (nt : Int)))), (88, .bool false), (129, .bool (decide (((((4 : Int) * ((k : Int) % mW)) = (0 : Int)) ∨ ((((4 : Int) * ((k : Int) % mW)) % (gi tx (k : Int))) ≠ (0 : Int))) ∨ ((((gi ids (k : Int)) = (gi ids ((k : Int) - 1))) ∧ ((gb qs (k : Int)) = true)) ∧ ((gb qs ((k : Int) - 1)) = true)))))] e_) ?_ ?_
          · -- region 17: its ways meet again
            refine run_drawn [] (fun x => Below ((w46.drew).drew).heap.size ((w46.drew).drew) x) ?_ Tf.mixed (by kernel_rfl) (fun _ _ _ h => h)
            have hs61 := hs54.drew
            have hS62 := Below.refl ((w46.drew).drew).heap.size ((w46.drew).drew)
            refine Drw.a 0 rfl (by kernel_rfl) (Yv.move rfl) ?_
            refine Drw.a 1 rfl (by kernel_rfl) (Yv.eq rfl rfl) ?_
            refine Drw.dec (fun h63 => ?_) (fun h63 => ?_)
            · -- yes
              refine Drw.a 2 rfl (by kernel_rfl) (Yv.move rfl) ?_
              refine Drw.no 3 rfl (by kernel_rfl) ?_ ⟨_, rfl, rfl⟩
              refine Drw.no 4 rfl (by kernel_rfl) ?_ ⟨_, rfl, rfl⟩
              refine Drw.no 5 rfl (by kernel_rfl) ?_ ⟨_, rfl, rfl⟩
              refine Drw.no 6 rfl (by kernel_rfl) ?_ ⟨_, rfl, rfl⟩
              refine Drw.no 7 rfl (by kernel_rfl) ?_ ⟨_, rfl, rfl⟩
              refine Drw.a 8 rfl (by kernel_rfl) (Yv.pick1 rfl rfl) ?_
              refine Drw.a 9 rfl (by kernel_rfl) (Yv.move rfl) ?_
              refine Drw.no 10 rfl (by kernel_rfl) ?_ ⟨_, rfl, rfl⟩
              refine Drw.no 11 rfl (by kernel_rfl) ?_ ⟨_, rfl, rfl⟩
              refine Drw.no 12 rfl (by kernel_rfl) ?_ ⟨_, rfl, rfl⟩
              refine Drw.no 13 rfl (by kernel_rfl) ?_ ⟨_, rfl, rfl⟩
              refine Drw.no 14 rfl (by kernel_rfl) ?_ ⟨_, rfl, rfl⟩
              refine Drw.no 15 rfl (by kernel_rfl) ?_ ⟨_, rfl, rfl⟩
              refine Drw.no 16 rfl (by kernel_rfl) ?_ ⟨_, rfl, rfl⟩
              refine Drw.no 17 rfl (by kernel_rfl) ?_ ⟨_, rfl, rfl⟩
              refine Drw.no 18 rfl (by kernel_rfl) ?_ ⟨_, rfl, rfl⟩
              refine Drw.no 19 rfl (by kernel_rfl) ?_ ⟨_, rfl, rfl⟩
              refine Drw.no 20 rfl (by kernel_rfl) ?_ ⟨_, rfl, rfl⟩
              refine Drw.no 21 rfl (by kernel_rfl) ?_ ⟨_, rfl, rfl⟩
              refine Drw.no 22 rfl (by kernel_rfl) ?_ ⟨_, rfl, rfl⟩
              refine Drw.no 23 rfl (by kernel_rfl) ?_ ⟨_, rfl, rfl⟩
              refine Drw.no 24 rfl (by kernel_rfl) ?_ ⟨_, rfl, rfl⟩
              refine Drw.no 25 rfl (by kernel_rfl) ?_ ⟨_, rfl, rfl⟩
              refine Drw.no 26 rfl (by kernel_rfl) ?_ ⟨_, rfl, rfl⟩
              refine Drw.no 27 rfl (by kernel_rfl) ?_ ⟨_, rfl, rfl⟩
              refine Drw.no 28 rfl (by kernel_rfl) ?_ ⟨_, rfl, rfl⟩
              refine Drw.no 29 rfl (by kernel_rfl) ?_ ⟨_, rfl, rfl⟩
              refine Drw.no 30 rfl (by kernel_rfl) ?_ ⟨_, rfl, rfl⟩
              refine Drw.no 31 rfl (by kernel_rfl) ?_ ⟨_, rfl, rfl⟩
              refine Drw.no 32 rfl (by kernel_rfl) ?_ ⟨_, rfl, rfl⟩
              refine Drw.no 33 rfl (by kernel_rfl) ?_ ⟨_, rfl, rfl⟩
              refine Drw.no 34 rfl (by kernel_rfl) ?_ ⟨_, rfl, rfl⟩
              refine Drw.no 35 rfl (by kernel_rfl) ?_ ⟨_, rfl, rfl⟩
              refine Drw.no 36 rfl (by kernel_rfl) ?_ ⟨_, rfl, rfl⟩
              refine Drw.no 37 rfl (by kernel_rfl) ?_ ⟨_, rfl, rfl⟩
              refine Drw.no 38 rfl (by kernel_rfl) ?_ ⟨_, rfl, rfl⟩
              refine Drw.a 39 rfl (by kernel_rfl) (Yv.pick1 rfl rfl) ?_
              refine Drw.done ?_ (by kernel_rfl)
              refine ⟨hs61, Sub.le ⟨rfl, rfl, rfl, rfl, rfl, rfl, rfl, rfl, rfl, rfl, rfl, rfl, rfl, rfl, rfl, rfl, rfl, rfl, rfl, rfl, rfl, rfl, rfl, rfl, rfl, rfl, rfl, rfl, lookB rfl (by first | (simp only [h63, ne_eq, not_true_eq_false, not_false_eq_true, or_true, true_or, or_false, false_or, and_true, true_and, and_false, false_and, decide_true, decide_false, or_self, and_self, Bool.decide_eq_true]; done) | simp [h63]), trivial⟩⟩
            · -- no
              refine Drw.a 2 rfl (by kernel_rfl) (Yv.move rfl) ?_
              refine Drw.a 3 rfl (by kernel_rfl) (Yv.move rfl) ?_ ⟨_, rfl, rfl⟩
              refine Drw.a 4 rfl (by kernel_rfl) (Yv.move rfl) ?_ ⟨_, rfl, rfl⟩
              have g52 := gi_bytes (xs := tx) htx (k : Int)
              have hsz := hfa.2.2.2.2.2.2.2.2.2.2.1 _ (gi_mem (xs := tx) (i := (k : Int)) (by omega) (by omega))
              refine Drw.a 5 rfl (by kernel_rfl) (Yv.toInt U3 V5 rfl (by omega)) ?_ ⟨_, rfl, rfl⟩
              have hsz := hfa.2.2.2.2.2.2.2.2.2.2.1 _ (gi_mem (xs := tx) (i := (k : Int)) (by omega) (by omega))
              refine Drw.a 6 rfl (by kernel_rfl) (Yv.rem rfl rfl (by omega) (by omega)) ?_ ⟨_, rfl, rfl⟩
              refine Drw.a 7 rfl (by kernel_rfl) (Yv.ne rfl rfl) ?_ ⟨_, rfl, rfl⟩
              refine Drw.dec (fun h64 => ?_) (fun h64 => ?_)
              · -- yes
                refine Drw.a 8 rfl (by kernel_rfl) (Yv.pick0 rfl rfl) ?_
                refine Drw.a 9 rfl (by kernel_rfl) (Yv.move rfl) ?_
                refine Drw.no 10 rfl (by kernel_rfl) ?_ ⟨_, rfl, rfl⟩
                refine Drw.no 11 rfl (by kernel_rfl) ?_ ⟨_, rfl, rfl⟩
                refine Drw.no 12 rfl (by kernel_rfl) ?_ ⟨_, rfl, rfl⟩
                refine Drw.no 13 rfl (by kernel_rfl) ?_ ⟨_, rfl, rfl⟩
                refine Drw.no 14 rfl (by kernel_rfl) ?_ ⟨_, rfl, rfl⟩
                refine Drw.no 15 rfl (by kernel_rfl) ?_ ⟨_, rfl, rfl⟩
                refine Drw.no 16 rfl (by kernel_rfl) ?_ ⟨_, rfl, rfl⟩
                refine Drw.no 17 rfl (by kernel_rfl) ?_ ⟨_, rfl, rfl⟩
                refine Drw.no 18 rfl (by kernel_rfl) ?_ ⟨_, rfl, rfl⟩
                refine Drw.no 19 rfl (by kernel_rfl) ?_ ⟨_, rfl, rfl⟩
                refine Drw.no 20 rfl (by kernel_rfl) ?_ ⟨_, rfl, rfl⟩
                refine Drw.no 21 rfl (by kernel_rfl) ?_ ⟨_, rfl, rfl⟩
                refine Drw.no 22 rfl (by kernel_rfl) ?_ ⟨_, rfl, rfl⟩
                refine Drw.no 23 rfl (by kernel_rfl) ?_ ⟨_, rfl, rfl⟩
                refine Drw.no 24 rfl (by kernel_rfl) ?_ ⟨_, rfl, rfl⟩
                refine Drw.no 25 rfl (by kernel_rfl) ?_ ⟨_, rfl, rfl⟩
                refine Drw.no 26 rfl (by kernel_rfl) ?_ ⟨_, rfl, rfl⟩
                refine Drw.no 27 rfl (by kernel_rfl) ?_ ⟨_, rfl, rfl⟩
                refine Drw.no 28 rfl (by kernel_rfl) ?_ ⟨_, rfl, rfl⟩
                refine Drw.no 29 rfl (by kernel_rfl) ?_ ⟨_, rfl, rfl⟩
                refine Drw.no 30 rfl (by kernel_rfl) ?_ ⟨_, rfl, rfl⟩
                refine Drw.no 31 rfl (by kernel_rfl) ?_ ⟨_, rfl, rfl⟩
                refine Drw.no 32 rfl (by kernel_rfl) ?_ ⟨_, rfl, rfl⟩
                refine Drw.no 33 rfl (by kernel_rfl) ?_ ⟨_, rfl, rfl⟩
                refine Drw.no 34 rfl (by kernel_rfl) ?_ ⟨_, rfl, rfl⟩
                refine Drw.no 35 rfl (by kernel_rfl) ?_ ⟨_, rfl, rfl⟩
                refine Drw.no 36 rfl (by kernel_rfl) ?_ ⟨_, rfl, rfl⟩
                refine Drw.no 37 rfl (by kernel_rfl) ?_ ⟨_, rfl, rfl⟩
                refine Drw.no 38 rfl (by kernel_rfl) ?_ ⟨_, rfl, rfl⟩
                refine Drw.a 39 rfl (by kernel_rfl) (Yv.pick1 rfl rfl) ?_
                refine Drw.done ?_ (by kernel_rfl)
                refine ⟨hs61, Sub.le ⟨rfl, rfl, rfl, rfl, rfl, rfl, rfl, rfl, rfl, rfl, rfl, rfl, rfl, rfl, rfl, rfl, rfl, rfl, rfl, rfl, rfl, rfl, rfl, rfl, rfl, rfl, rfl, rfl, lookB rfl (by first | (simp only [h63, h64, ne_eq, not_true_eq_false, not_false_eq_true, or_true, true_or, or_false, false_or, and_true, true_and, and_false, false_and, decide_true, decide_false, or_self, and_self, Bool.decide_eq_true]; done) | simp [h63, h64]), trivial⟩⟩
              · -- no
                refine Drw.a 8 rfl (by kernel_rfl) (Yv.pick0 rfl rfl) ?_
                refine Drw.a 9 rfl (by kernel_rfl) (Yv.move rfl) ?_
                refine Drw.a 10 rfl (by kernel_rfl) (Yv.fld F37_3 rfl) ?_ ⟨_, rfl, rfl⟩
                refine Drw.l 11 rfl (by kernel_rfl) hS62 (Yv.load A34 rfl (fun _ hq_ => ((hs61.grow hq_).cell 3 rfl 3 rfl))) ?_ ⟨_, rfl, rfl⟩
                refine Drw.a 12 rfl (by kernel_rfl) (Yv.move rfl) ?_ ⟨_, rfl, rfl⟩
                refine Drw.a 13 rfl (by kernel_rfl) (Yv.idx L34 rfl rfl ((hs61.rd hi).isSome (i := (k : Int)) (by omega) (by omega)) (by omega) (by omega)) ?_ ⟨_, rfl, rfl⟩
                refine Drw.l 14 rfl (by kernel_rfl) hS62 (Yv.load A3 rfl (fun _ hq_ => (((hs61.grow hq_).rd hi).i64 (by omega) (by omega)))) ?_ ⟨_, rfl, rfl⟩
                refine Drw.a 15 rfl (by kernel_rfl) (Yv.fld F37_3 rfl) ?_ ⟨_, rfl, rfl⟩
                refine Drw.l 16 rfl (by kernel_rfl) hS62 (Yv.load A34 rfl (fun _ hq_ => ((hs61.grow hq_).cell 3 rfl 3 rfl))) ?_ ⟨_, rfl, rfl⟩
                refine Drw.a 17 rfl (by kernel_rfl) (Yv.move rfl) ?_ ⟨_, rfl, rfl⟩
                refine Drw.a 18 rfl (by kernel_rfl) (Yv.move rfl) ?_ ⟨_, rfl, rfl⟩
                have hbk : 1 ≤ (k : Int) := by have := mod_le (a := (k : Int)) (b := mW) (by omega) (by omega); omega
                refine Drw.a 19 rfl (by kernel_rfl) (Yv.sub rfl rfl (by omega)) ?_ ⟨_, rfl, rfl⟩
                have hbk : 1 ≤ (k : Int) := by have := mod_le (a := (k : Int)) (b := mW) (by omega) (by omega); omega
                refine Drw.a 20 rfl (by kernel_rfl) (Yv.idx L34 rfl rfl ((hs61.rd hi).isSome (i := (k : Int) - 1) (by omega) (by omega)) (by omega) (by omega)) ?_ ⟨_, rfl, rfl⟩
                refine Drw.l 21 rfl (by kernel_rfl) hS62 (Yv.load A3 rfl (fun _ hq_ => (((hs61.grow hq_).rd hi).i64 (by omega) (by omega)))) ?_ ⟨_, rfl, rfl⟩
                refine Drw.a 22 rfl (by kernel_rfl) (Yv.eq rfl rfl) ?_ ⟨_, rfl, rfl⟩
                refine Drw.dec (fun h65 => ?_) (fun h65 => ?_)
                · -- yes
                  refine Drw.a 23 rfl (by kernel_rfl) (Yv.move rfl) ?_ ⟨_, rfl, rfl⟩
                  refine Drw.a 24 rfl (by kernel_rfl) (Yv.fld F37_4 rfl) ?_ ⟨_, rfl, rfl⟩
                  refine Drw.l 25 rfl (by kernel_rfl) hS62 (Yv.load A35 rfl (fun _ hq_ => ((hs61.grow hq_).cell 3 rfl 4 rfl))) ?_ ⟨_, rfl, rfl⟩
                  refine Drw.a 26 rfl (by kernel_rfl) (Yv.move rfl) ?_ ⟨_, rfl, rfl⟩
                  refine Drw.a 27 rfl (by kernel_rfl) (Yv.idx L35 rfl rfl ((hs61.rd hq).isSome (i := (k : Int)) (by omega) (by omega)) (by omega) (by omega)) ?_ ⟨_, rfl, rfl⟩
                  refine Drw.l 28 rfl (by kernel_rfl) hS62 (Yv.load A4 rfl (fun _ hq_ => (((hs61.grow hq_).rd hq).bool (by omega) (by omega)))) ?_ ⟨_, rfl, rfl⟩
                  refine Drw.boo (fun h66 => ?_) (fun h66 => ?_)
                  · -- yes
                    refine Drw.a 29 rfl (by kernel_rfl) (Yv.pick1 rfl rfl) ?_ ⟨_, rfl, rfl⟩
                    refine Drw.a 30 rfl (by kernel_rfl) (Yv.move rfl) ?_ ⟨_, rfl, rfl⟩
                    refine Drw.a 31 rfl (by kernel_rfl) (Yv.fld F37_4 rfl) ?_ ⟨_, rfl, rfl⟩
                    refine Drw.l 32 rfl (by kernel_rfl) hS62 (Yv.load A35 rfl (fun _ hq_ => ((hs61.grow hq_).cell 3 rfl 4 rfl))) ?_ ⟨_, rfl, rfl⟩
                    refine Drw.a 33 rfl (by kernel_rfl) (Yv.move rfl) ?_ ⟨_, rfl, rfl⟩
                    refine Drw.a 34 rfl (by kernel_rfl) (Yv.move rfl) ?_ ⟨_, rfl, rfl⟩
                    refine Drw.a 35 rfl (by kernel_rfl) (Yv.sub rfl rfl (by omega)) ?_ ⟨_, rfl, rfl⟩
                    have hbk : 1 ≤ (k : Int) := by have := mod_le (a := (k : Int)) (b := mW) (by omega) (by omega); omega
                    refine Drw.a 36 rfl (by kernel_rfl) (Yv.idx L35 rfl rfl ((hs61.rd hq).isSome (i := (k : Int) - 1) (by omega) (by omega)) (by omega) (by omega)) ?_ ⟨_, rfl, rfl⟩
                    refine Drw.l 37 rfl (by kernel_rfl) hS62 (Yv.load A4 rfl (fun _ hq_ => (((hs61.grow hq_).rd hq).bool (by omega) (by omega)))) ?_ ⟨_, rfl, rfl⟩
                    refine Drw.a 38 rfl (by kernel_rfl) (Yv.pick1 rfl rfl) ?_ ⟨_, rfl, rfl⟩
                    refine Drw.a 39 rfl (by kernel_rfl) (Yv.pick0 rfl rfl) ?_
                    refine Drw.done ?_ (by kernel_rfl)
                    refine ⟨hs61, Sub.le ⟨rfl, rfl, rfl, rfl, rfl, rfl, rfl, rfl, rfl, rfl, rfl, rfl, rfl, rfl, rfl, rfl, rfl, rfl, rfl, rfl, rfl, rfl, rfl, rfl, rfl, rfl, rfl, rfl, lookB rfl (by first | (simp only [h63, h64, h65, h66, ne_eq, not_true_eq_false, not_false_eq_true, or_true, true_or, or_false, false_or, and_true, true_and, and_false, false_and, decide_true, decide_false, or_self, and_self, Bool.decide_eq_true]; done) | simp [h63, h64, h65, h66]), trivial⟩⟩
                  · -- no
                    refine Drw.a 29 rfl (by kernel_rfl) (Yv.pick1 rfl rfl) ?_ ⟨_, rfl, rfl⟩
                    refine Drw.a 30 rfl (by kernel_rfl) (Yv.move rfl) ?_ ⟨_, rfl, rfl⟩
                    refine Drw.no 31 rfl (by kernel_rfl) ?_ ⟨_, rfl, rfl⟩
                    refine Drw.no 32 rfl (by kernel_rfl) ?_ ⟨_, rfl, rfl⟩
                    refine Drw.no 33 rfl (by kernel_rfl) ?_ ⟨_, rfl, rfl⟩
                    refine Drw.no 34 rfl (by kernel_rfl) ?_ ⟨_, rfl, rfl⟩
                    refine Drw.no 35 rfl (by kernel_rfl) ?_ ⟨_, rfl, rfl⟩
                    refine Drw.no 36 rfl (by kernel_rfl) ?_ ⟨_, rfl, rfl⟩
                    refine Drw.no 37 rfl (by kernel_rfl) ?_ ⟨_, rfl, rfl⟩
                    refine Drw.a 38 rfl (by kernel_rfl) (Yv.pick0 rfl rfl) ?_ ⟨_, rfl, rfl⟩
                    refine Drw.a 39 rfl (by kernel_rfl) (Yv.pick0 rfl rfl) ?_
                    refine Drw.done ?_ (by kernel_rfl)
                    refine ⟨hs61, Sub.le ⟨rfl, rfl, rfl, rfl, rfl, rfl, rfl, rfl, rfl, rfl, rfl, rfl, rfl, rfl, rfl, rfl, rfl, rfl, rfl, rfl, rfl, rfl, rfl, rfl, rfl, rfl, rfl, rfl, lookB rfl (by first | (simp only [h63, h64, h65, h66, ne_eq, not_true_eq_false, not_false_eq_true, or_true, true_or, or_false, false_or, and_true, true_and, and_false, false_and, decide_true, decide_false, or_self, and_self, Bool.decide_eq_true]; done) | simp [h63, h64, h65, h66]), trivial⟩⟩
                · -- no
                  refine Drw.a 23 rfl (by kernel_rfl) (Yv.move rfl) ?_ ⟨_, rfl, rfl⟩
                  refine Drw.no 24 rfl (by kernel_rfl) ?_ ⟨_, rfl, rfl⟩
                  refine Drw.no 25 rfl (by kernel_rfl) ?_ ⟨_, rfl, rfl⟩
                  refine Drw.no 26 rfl (by kernel_rfl) ?_ ⟨_, rfl, rfl⟩
                  refine Drw.no 27 rfl (by kernel_rfl) ?_ ⟨_, rfl, rfl⟩
                  refine Drw.no 28 rfl (by kernel_rfl) ?_ ⟨_, rfl, rfl⟩
                  refine Drw.a 29 rfl (by kernel_rfl) (Yv.pick0 rfl rfl) ?_ ⟨_, rfl, rfl⟩
                  refine Drw.a 30 rfl (by kernel_rfl) (Yv.move rfl) ?_ ⟨_, rfl, rfl⟩
                  refine Drw.no 31 rfl (by kernel_rfl) ?_ ⟨_, rfl, rfl⟩
                  refine Drw.no 32 rfl (by kernel_rfl) ?_ ⟨_, rfl, rfl⟩
                  refine Drw.no 33 rfl (by kernel_rfl) ?_ ⟨_, rfl, rfl⟩
                  refine Drw.no 34 rfl (by kernel_rfl) ?_ ⟨_, rfl, rfl⟩
                  refine Drw.no 35 rfl (by kernel_rfl) ?_ ⟨_, rfl, rfl⟩
                  refine Drw.no 36 rfl (by kernel_rfl) ?_ ⟨_, rfl, rfl⟩
                  refine Drw.no 37 rfl (by kernel_rfl) ?_ ⟨_, rfl, rfl⟩
                  refine Drw.a 38 rfl (by kernel_rfl) (Yv.pick0 rfl rfl) ?_ ⟨_, rfl, rfl⟩
                  refine Drw.a 39 rfl (by kernel_rfl) (Yv.pick0 rfl rfl) ?_
                  refine Drw.done ?_ (by kernel_rfl)
                  refine ⟨hs61, Sub.le ⟨rfl, rfl, rfl, rfl, rfl, rfl, rfl, rfl, rfl, rfl, rfl, rfl, rfl, rfl, rfl, rfl, rfl, rfl, rfl, rfl, rfl, rfl, rfl, rfl, rfl, rfl, rfl, rfl, lookB rfl (by first | (simp only [h63, h64, h65, ne_eq, not_true_eq_false, not_false_eq_true, or_true, true_or, or_false, false_or, and_true, true_and, and_false, false_and, decide_true, decide_false, or_self, and_self, Bool.decide_eq_true]; done) | simp [h63, h64, h65]), trivial⟩⟩
          rintro e67 w67 ⟨hs67, he67⟩
          refine k60 _ _ ?_
          refine Run.le he67 ?_
          refine run_ifp rfl (fun h68 => ?_) (fun h68 => ?_)
          · -- yes ((((4 : Int) * ((k : Int) % mW)) = (0 : Int)) ∨ ((((4 : Int) * ((k : Int) % mW)) % (gi tx (k : Int))) ≠ (0 : Int))) ∨ ((((gi ids (k : Int)) = (gi ids ((k : Int) - 1))) ∧ ((gb qs (k : Int)) = true)) ∧ ((gb qs ((k : Int) - 1)) = true))
            refine run_exit ?_
            refine k50 _ _ ?_
            refine run_region ?_
            refine Ops.v (Yv.add rfl rfl (by omega)) ?_
            refine Ops.v (Yv.move rfl) ?_
            refine Ops.nil ?_
            refine ⟨k + 1, _, ⟨(hs67.to (by rw [passTo_skip (up := true) h68])), rfl, by omega⟩, Sub.le ⟨rfl, rfl, rfl, rfl, rfl, rfl, rfl, rfl, rfl, rfl, rfl, rfl, rfl, rfl, rfl, rfl, rfl, rfl, rfl, rfl, lookI rfl (by omega), trivial⟩, by omega⟩
          · -- no
            have hat : ¬ (4 * ((k : Int) % mW) = 0) := fun e => h68 (Or.inl (Or.inl e))
            have hbk : 1 ≤ (k : Int) := by have := mod_le (a := (k : Int)) (b := mW) (by omega) (by omega); omega
            refine run_skip ?_
            refine k59 _ _ ?_
            refine run_seq fun K69 k69 => ?_
            refine run_region ?_
            refine Ops.v (Yv.move rfl) ?_
            have g52 := gi_bytes (xs := tx) htx (k : Int)
            refine Ops.v (Yv.toInt U3 V5 rfl (by omega)) ?_
            refine Ops.v (Yv.fld F37_2 rfl) ?_
            refine Ops.v (Yv.load A23 rfl (now (hs67.cell 3 rfl 2 rfl))) ?_
            refine Ops.v (Yv.move rfl) ?_
            refine Ops.v (Yv.move rfl) ?_
            refine Ops.v (Yv.sub rfl rfl (by omega)) ?_
            refine Ops.v (Yv.idx L23 rfl rfl ((hs67.rd ht).isSome (i := (k : Int) - 1) (by omega) (by omega)) (by omega) (by omega)) ?_
            refine Ops.v (Yv.load A5 rfl (now ((hs67.rd ht).u8 (by omega) (by omega)))) ?_
            have g70 := gi_bytes (xs := tx) htx ((k : Int) - 1)
            refine Ops.v (Yv.toInt U3 V5 rfl (by omega)) ?_
            refine Ops.v (Yv.move rfl) ?_
            refine Ops.v (Yv.move rfl) ?_
            refine Ops.v (Yv.move rfl) ?_
            refine Ops.v (Yv.sub rfl rfl (by omega)) ?_
            refine Ops.v (Yv.min4 rfl rfl rfl rfl) ?_
            refine Ops.v (Yv.move rfl) ?_
            refine Ops.s (Step.call rfl rfl (reach_fun) (?_) True.intro (by rfl))
            rintro _ _ ⟨rfl, rfl⟩
            refine Ops.v (Yv.assign rfl) ?_
            refine Ops.nil ?_
            refine k69 _ _ ?_
            refine run_seq fun K72 k72 => ?_
            refine run_region ?_
            refine Ops.v (Yv.move rfl) ?_
            refine Ops.nil ?_
            refine k72 _ _ ?_
            refine run_block ?_
            have hn0 := tapsF_cases (min (min (min (gi tx (k : Int)) (gi tx ((k : Int) - 1))) (4 * ((k : Int) % mW))) (W - (4 * ((k : Int) % mW)))) co
            obtain ⟨n, hn⟩ : ∃ x_ : Int, x_ = tapsF (min (min (min (gi tx (k : Int)) (gi tx ((k : Int) - 1))) ((4 : Int) * ((k : Int) % mW))) (W - ((4 : Int) * ((k : Int) % mW)))) co := ⟨_, rfl⟩
            rw [← hn] at hn0
            refine Run.sub [(0, _), (1, _), (2, _), (3, _), (4, _), (5, _), (6, _), (7, _), (12, _), (13, _), (14, _), (15, _), (16, _), (17, _), (18, _), (19, _), (20, _), (21, _), (22, _), (23, _), (24, _), (44, _), (51, _), (61, _), (69, _), (70, _), (71, _), (72, _), (88, _), (129, _), (147, _)] ⟨rfl, rfl, rfl, rfl, rfl, rfl, rfl, rfl, rfl, rfl, rfl, rfl, rfl, rfl, rfl, rfl, rfl, rfl, rfl, rfl, lookI rfl hn.symm, rfl, rfl, rfl, rfl, rfl, rfl, rfl, rfl, rfl, rfl, trivial⟩ ?_
            refine run_loop (σ := Nat) (fun kk e_ w_ => HS w [.blk b35 [.int .i64 (limitF lv sh), .int .i64 (edgeF lv sh), .int .i64 (thrF lv)] 111, .row Ad23 m c24 (u8s (cellStep (passTo true co W H mW tx ids qs (limitF lv sh) (edgeF lv sh) (thrF lv) xs k) (4 * ((k : Int) / mW) * W + 4 * ((k : Int) % mW)) W 1 n (limitF lv sh) (edgeF lv sh) (thrF lv) kk)) 5 1, .blk b8 [.int .i64 0, .int .i64 0, .slice none 0 0] 28, .blk b5 [.int .i64 mW, .int .i64 mH, .slice At nt ct, .slice Ai ni ci, .slice Aq nq cq] 37, .blk b2 [.int .i64 W, .int .i64 H, .slice Ad23 m c24] 28] w_ ∧ e_ = [(0, .agg #[.int .i64 W, .int .i64 H, .slice A m c]), (1, .agg #[.int .i64 mW, .int .i64 mH, .slice At nt ct, .slice Ai ni ci, .slice Aq nq cq]), (2, .bool true), (3, .bool co), (4, .int .i64 lv), (5, .int .i64 sh), (6, .pointer (some ⟨b2, 0, none⟩)), (7, .pointer (some ⟨b5, 0, none⟩)), (12, .pointer (some ⟨b8, 0, none⟩)), (13, .int .i64 0), (14, .pointer (some ⟨b35, 0, none⟩)), (15, .int .i64 1), (16, .int .i64 W), (17, .int .i64 1), (18, .int .i64 W), (19, .int .i64 (k : Int)), (20, .int .u8 (gi tx (k : Int))), (21, .int .i64 ((4 : Int) * ((k : Int) % mW))), (22, .int .i64 ((4 : Int) * ((k : Int) / mW))), (23, .int .i64 ((4 : Int) * ((k : Int) % mW))), (24, .int .i64 n), (44, .bool (decide (((¬ (mayP W H m mW mH tx nt ni nq)) ∨ (¬ ((0 : Int) ≤ lv ∧ lv ≤ 63))) ∨ (¬ ((0 : Int) ≤ sh ∧ sh ≤ 7))))), (51, .bool (decide (lv = (0 : Int)))), (61, .bool false), (69, .slice At nt ct), (70, .int .i64 (nt : Int)), (71, .int .i64 (k : Int)), (72, .bool (decide ((k : Int) < (nt : Int)))), (88, .bool false), (129, .bool (decide (((((4 : Int) * ((k : Int) % mW)) = (0 : Int)) ∨ ((((4 : Int) * ((k : Int) % mW)) % (gi tx (k : Int))) ≠ (0 : Int))) ∨ ((((gi ids (k : Int)) = (gi ids ((k : Int) - 1))) ∧ ((gb qs (k : Int)) = true)) ∧ ((gb qs ((k : Int) - 1)) = true))))), (147, .int .i64 (kk : Int))] ∧ kk ≤ 4)
              (fun kk => 4 - kk) 0 ?_ ?_
            · -- at the start
              refine ⟨hs67, rfl, by omega⟩
            · -- a round
              rintro kk _ w73 ⟨hs73, rfl, f3⟩
              refine run_seq fun K74 k74 => ?_
              refine run_region ?_
              refine Ops.v (Yv.lt rfl rfl) ?_
              refine Ops.nil ?_
              refine k74 _ _ ?_
              refine run_seq fun K75 k75 => ?_
              refine run_ifp rfl (fun h76 => ?_) (fun h76 => ?_)
              · -- yes (kk : Int) < (4 : Int)
                have hb1 := mul_bd (a := 4 * ((k : Int) / mW)) (b := W) (x := 512) (y := 512) (by omega) (by omega) (by omega) (by omega)
                have hb2 := mul_bd (a := (kk : Int)) (b := W) (x := 4) (y := 512) (by omega) (by omega) (by omega) (by omega)
                refine run_skip ?_
                refine k75 _ _ ?_
                refine run_seq fun K77 k77 => ?_
                refine run_block ?_
                refine run_seq fun K78 k78 => ?_
                refine run_region ?_
                refine Ops.v (Yv.move rfl) ?_
                refine Ops.v (Yv.assign rfl) ?_
                refine Ops.nil ?_
                refine k78 _ _ ?_
                refine run_seq fun K79 k79 => ?_
                refine run_region ?_
                refine Ops.v (Yv.move rfl) ?_
                refine Ops.v (Yv.fld F28_0 rfl) ?_
                refine Ops.v (Yv.load A3 rfl (now (hs73.cell 4 rfl 0 rfl))) ?_
                refine Ops.v (Yv.mul rfl rfl (by omega)) ?_
                refine Ops.v (Yv.move rfl) ?_
                refine Ops.v (Yv.add rfl rfl (by omega)) ?_
                refine Ops.v (Yv.move rfl) ?_
                refine Ops.v (Yv.move rfl) ?_
                refine Ops.v (Yv.mul rfl rfl (by omega)) ?_
                refine Ops.v (Yv.add rfl rfl (by omega)) ?_
                refine Ops.v (Yv.move rfl) ?_
                refine Ops.v (Yv.quo rfl rfl (by omega) (by omega) (by omega)) ?_
                refine Ops.v (Yv.move rfl) ?_
                refine Ops.v (Yv.mul rfl rfl (by omega)) ?_
                refine Ops.v (Yv.sub rfl rfl (by omega)) ?_
                refine Ops.v (Yv.assign rfl) ?_
                refine Ops.nil ?_
                refine k79 _ _ ?_
                refine run_seq fun K80 k80 => ?_
                refine run_region ?_
                refine Ops.v (Yv.move rfl) ?_
                refine Ops.s (Step.make hs73 L23 Z5 rfl rfl (by omega) (by omega) (by omega) (fun b82 w81 hs81 hb81 => ?_) True.intro (by rfl))
                rw [u8s_rep] at hs81
                refine Ops.v (Yv.move rfl) ?_
                refine Ops.v (Yv.quo rfl rfl (by omega) (by omega) (by omega)) ?_
                refine Ops.v (Yv.buildS (cs := #[.slice (some ⟨b82, 0, none⟩) n.toNat n.toNat, .int .i64 (n / 2)]) T115 rfl rfl) ?_
                refine Ops.s (Step.alloc (cs := [.slice none 0 0, .int .i64 0]) hs81 Z115 rfl (fun b84 w85 hs85 hb85 => ?_) True.intro (by rfl))
                refine Ops.s (Step.store (vs := [.slice (some ⟨b82, 0, none⟩) n.toNat n.toNat, .int .i64 (n / 2)]) 0 hs85 rfl rfl rfl rfl S115 (Nat.le_of_ble_eq_true rfl) rfl (fun w87 hs87 => ?_) True.intro)
                replace hs87 : HS _ [.blk _ [_, _] _, .row _ _ _ _ _ _, .blk _ [_, _, _] _, .row _ _ _ _ _ _, .blk _ [_, _, _] _, .blk _ [_, _, _, _, _] _, .blk _ [_, _, _] _] _ := hs87
                refine Ops.nil ?_
                refine k80 _ _ ?_
                refine run_seq fun K88 k88 => ?_
                refine run_seq fun K89 k89 => ?_
                refine run_region ?_
                refine Ops.v (Yv.fld F115_0 rfl) ?_
                refine Ops.v (Yv.load A23 rfl (now (hs87.cell 0 rfl 0 rfl))) ?_
                refine Ops.v (Yv.len (by rw [L23]; rfl) rfl) ?_
                refine Ops.v (Yv.move rfl) ?_
                refine Ops.nil ?_
                refine k89 _ _ ?_
                refine run_block ?_
                have hin : ∀ j : Int, 0 ≤ j → j < n → 0 ≤ ((4 * ((k : Int) / mW) * W + 4 * ((k : Int) % mW)) + (kk : Int) * W) - n / 2 * 1 + j * 1 ∧ ((4 * ((k : Int) / mW) * W + 4 * ((k : Int) % mW)) + (kk : Int) * W) - n / 2 * 1 + j * 1 < W * H := by
                  intro j hj0 hj1
                  have hp := place_in (W := W) (H := H) (r := 4 * ((k : Int) / mW) + (kk : Int)) (c := 4 * ((k : Int) % mW) - n / 2 + j) (by omega) (by omega) (by omega) (by omega)
                  have he : ((4 * ((k : Int) / mW) * W + 4 * ((k : Int) % mW)) + (kk : Int) * W) - n / 2 * 1 + j * 1 = (4 * ((k : Int) / mW) + (kk : Int)) * W + (4 * ((k : Int) % mW) - n / 2 + j) := by rw [Int.add_mul]; omega
                  rw [he]; exact hp
                obtain ⟨fi, hfi⟩ : ∃ x_ : Int, x_ = (((((4 : Int) * ((k : Int) / mW)) * W) + ((4 : Int) * ((k : Int) % mW))) + ((kk : Int) * W)) - ((n / 2) * 1) := ⟨_, rfl⟩
                rw [← hfi] at hin
                refine Run.sub [(0, _), (1, _), (2, _), (3, _), (4, _), (5, _), (6, _), (7, _), (12, _), (13, _), (14, _), (15, _), (16, _), (17, _), (18, _), (19, _), (20, _), (21, _), (22, _), (23, _), (24, _), (25, _), (26, _), (27, _), (44, _), (51, _), (61, _), (69, _), (70, _), (71, _), (72, _), (88, _), (129, _), (147, _), (148, _), (172, _), (173, _)] ⟨rfl, rfl, rfl, rfl, rfl, rfl, rfl, rfl, rfl, rfl, rfl, rfl, rfl, rfl, rfl, rfl, rfl, rfl, rfl, rfl, rfl, rfl, lookI rfl hfi.symm, rfl, rfl, rfl, rfl, rfl, rfl, rfl, rfl, rfl, rfl, rfl, rfl, rfl, rfl, trivial⟩ ?_
                refine run_loop (σ := Nat) (fun j e_ w_ => HS w [.blk b84 [.slice (some ⟨b82, 0, none⟩) n.toNat n.toNat, .int .i64 (n / 2)] 115, .row (some ⟨b82, 0, none⟩) n.toNat n.toNat (u8s (gathTo (cellStep (passTo true co W H mW tx ids qs (limitF lv sh) (edgeF lv sh) (thrF lv) xs k) (4 * ((k : Int) / mW) * W + 4 * ((k : Int) % mW)) W 1 n (limitF lv sh) (edgeF lv sh) (thrF lv) kk) fi 1 n.toNat j)) 5 1, .blk b35 [.int .i64 (limitF lv sh), .int .i64 (edgeF lv sh), .int .i64 (thrF lv)] 111, .row Ad23 m c24 (u8s (cellStep (passTo true co W H mW tx ids qs (limitF lv sh) (edgeF lv sh) (thrF lv) xs k) (4 * ((k : Int) / mW) * W + 4 * ((k : Int) % mW)) W 1 n (limitF lv sh) (edgeF lv sh) (thrF lv) kk)) 5 1, .blk b8 [.int .i64 0, .int .i64 0, .slice none 0 0] 28, .blk b5 [.int .i64 mW, .int .i64 mH, .slice At nt ct, .slice Ai ni ci, .slice Aq nq cq] 37, .blk b2 [.int .i64 W, .int .i64 H, .slice Ad23 m c24] 28] w_ ∧ e_ = [(0, .agg #[.int .i64 W, .int .i64 H, .slice A m c]), (1, .agg #[.int .i64 mW, .int .i64 mH, .slice At nt ct, .slice Ai ni ci, .slice Aq nq cq]), (2, .bool true), (3, .bool co), (4, .int .i64 lv), (5, .int .i64 sh), (6, .pointer (some ⟨b2, 0, none⟩)), (7, .pointer (some ⟨b5, 0, none⟩)), (12, .pointer (some ⟨b8, 0, none⟩)), (13, .int .i64 0), (14, .pointer (some ⟨b35, 0, none⟩)), (15, .int .i64 1), (16, .int .i64 W), (17, .int .i64 1), (18, .int .i64 W), (19, .int .i64 (k : Int)), (20, .int .u8 (gi tx (k : Int))), (21, .int .i64 ((4 : Int) * ((k : Int) % mW))), (22, .int .i64 ((4 : Int) * ((k : Int) / mW))), (23, .int .i64 ((4 : Int) * ((k : Int) % mW))), (24, .int .i64 n), (25, .int .i64 (kk : Int)), (26, .int .i64 fi), (27, .pointer (some ⟨b84, 0, none⟩)), (44, .bool (decide (((¬ (mayP W H m mW mH tx nt ni nq)) ∨ (¬ ((0 : Int) ≤ lv ∧ lv ≤ 63))) ∨ (¬ ((0 : Int) ≤ sh ∧ sh ≤ 7))))), (51, .bool (decide (lv = (0 : Int)))), (61, .bool false), (69, .slice At nt ct), (70, .int .i64 (nt : Int)), (71, .int .i64 (k : Int)), (72, .bool (decide ((k : Int) < (nt : Int)))), (88, .bool false), (129, .bool (decide (((((4 : Int) * ((k : Int) % mW)) = (0 : Int)) ∨ ((((4 : Int) * ((k : Int) % mW)) % (gi tx (k : Int))) ≠ (0 : Int))) ∨ ((((gi ids (k : Int)) = (gi ids ((k : Int) - 1))) ∧ ((gb qs (k : Int)) = true)) ∧ ((gb qs ((k : Int) - 1)) = true))))), (147, .int .i64 (kk : Int)), (148, .bool (decide ((kk : Int) < (4 : Int)))), (172, .int .i64 (n.toNat : Int)), (173, .int .i64 (j : Int))] ∧ j ≤ n.toNat)
                  (fun j => n.toNat - j) 0 ?_ ?_
                · -- at the start
                  refine ⟨hs87, rfl, by omega⟩
                · -- a round
                  rintro j _ w90 ⟨hs90, rfl, f5⟩
                  have hlp := passTo_length true co W H mW tx ids qs (limitF lv sh) (edgeF lv sh) (thrF lv) xs k
                  have hlc := cellStep_length (passTo true co W H mW tx ids qs (limitF lv sh) (edgeF lv sh) (thrF lv) xs k) (4 * ((k : Int) / mW) * W + 4 * ((k : Int) % mW)) W 1 n (limitF lv sh) (edgeF lv sh) (thrF lv) kk
                  have hlg := gathTo_length (cellStep (passTo true co W H mW tx ids qs (limitF lv sh) (edgeF lv sh) (thrF lv) xs k) (4 * ((k : Int) / mW) * W + 4 * ((k : Int) % mW)) W 1 n (limitF lv sh) (edgeF lv sh) (thrF lv) kk) fi 1 n.toNat j
                  refine run_seq fun K91 k91 => ?_
                  refine run_region ?_
                  refine Ops.v (Yv.lt rfl rfl) ?_
                  refine Ops.nil ?_
                  refine k91 _ _ ?_
                  refine run_seq fun K92 k92 => ?_
                  refine run_ifp rfl (fun h93 => ?_) (fun h93 => ?_)
                  · -- yes (j : Int) < (n.toNat : Int)
                    refine run_skip ?_
                    refine k92 _ _ ?_
                    refine run_seq fun K94 k94 => ?_
                    refine run_block ?_
                    refine run_seq fun K95 k95 => ?_
                    refine run_region ?_
                    refine Ops.v (Yv.move rfl) ?_
                    refine Ops.v (Yv.assign rfl) ?_
                    refine Ops.nil ?_
                    refine k95 _ _ ?_
                    refine run_drawn [13] (fun x => Below (w90.drew).heap.size (w90.drew) x) ?_ Tf.mixed (by kernel_rfl) (fun _ _ _ h => h)
                    have hs96 := hs90.drew
                    have hS97 := Below.refl (w90.drew).heap.size (w90.drew)
                    refine Drw.a 0 rfl (by kernel_rfl) (Yv.fld F115_0 rfl) ?_
                    refine Drw.l 1 rfl (by kernel_rfl) hS97 (Yv.load A23 rfl (fun _ hq_ => ((hs96.grow hq_).cell 0 rfl 0 rfl))) ?_
                    refine Drw.a 2 rfl (by kernel_rfl) (Yv.move rfl) ?_
                    refine Drw.a 3 rfl (by kernel_rfl) (Yv.fld F28_2 rfl) ?_
                    refine Drw.l 4 rfl (by kernel_rfl) hS97 (Yv.load A23 rfl (fun _ hq_ => ((hs96.grow hq_).cell 6 rfl 2 rfl))) ?_
                    refine Drw.a 5 rfl (by kernel_rfl) (Yv.move rfl) ?_
                    refine Drw.a 6 rfl (by kernel_rfl) (Yv.move rfl) ?_
                    refine Drw.a 7 rfl (by kernel_rfl) (Yv.move rfl) ?_
                    refine Drw.a 8 rfl (by kernel_rfl) (Yv.mul rfl rfl (by omega)) ?_
                    have hin2 := hin (j : Int) (by omega) (by omega)
                    refine Drw.a 9 rfl (by kernel_rfl) (Yv.add rfl rfl (by omega)) ?_
                    refine Drw.a 10 rfl (by kernel_rfl) (Yv.idx L23 rfl rfl ((hs96.rdRow 3 rfl).isSome (i := fi + ((j : Int) * 1)) (by omega) (by omega)) (by omega) (by omega)) ?_
                    refine Drw.l 11 rfl (by kernel_rfl) hS97 (Yv.load A5 rfl (fun _ hq_ => (((hs96.grow hq_).rdRow 3 rfl).u8 (by omega) (by omega)))) ?_
                    have g98 := gi_bytes (xs := cellStep (passTo true co W H mW tx ids qs (limitF lv sh) (edgeF lv sh) (thrF lv) xs k) (4 * ((k : Int) / mW) * W + 4 * ((k : Int) % mW)) W 1 n (limitF lv sh) (edgeF lv sh) (thrF lv) kk) (cellStep_bytes (passTo_bytes true co W H mW tx ids qs (limitF lv sh) (edgeF lv sh) (thrF lv) hx k) _ _ _ _ _ _ _ kk) (fi + ((j : Int) * 1))
                    refine Drw.a 12 rfl (by kernel_rfl) (Yv.idx L23 rfl rfl ((hs96.rdRow 1 rfl).isSome (i := (j : Int)) (by omega) (by omega)) (by omega) (by omega)) ?_
                    refine Drw.one 13 rfl (by kernel_rfl) (Step.storeRow (vs := [.int .u8 (gi (cellStep (passTo true co W H mW tx ids qs (limitF lv sh) (edgeF lv sh) (thrF lv) xs k) (4 * ((k : Int) / mW) * W + 4 * ((k : Int) % mW)) W 1 n (limitF lv sh) (edgeF lv sh) (thrF lv) kk) (fi + ((j : Int) * 1)))]) 1 hs96 rfl rfl rfl rfl S5 (by have hl_ := (hs96.rdRow 1 rfl).len; show ((j : Int)).toNat * 1 + 1 ≤ _; omega) (Nat.succ_pos _) rfl (fun w99 hs99 => ?_) True.intro)
                    refine ⟨fun h => absurd h (by decide), ?_⟩
                    have hs99_ := u8s_put (xs := gathTo (cellStep (passTo true co W H mW tx ids qs (limitF lv sh) (edgeF lv sh) (thrF lv) xs k) (4 * ((k : Int) / mW) * W + 4 * ((k : Int) % mW)) W 1 n (limitF lv sh) (edgeF lv sh) (thrF lv) kk) fi 1 n.toNat j) (i := ((j : Int)).toNat * 1) (v := gi (cellStep (passTo true co W H mW tx ids qs (limitF lv sh) (edgeF lv sh) (thrF lv) xs k) (4 * ((k : Int) / mW) * W + 4 * ((k : Int) % mW)) W 1 n (limitF lv sh) (edgeF lv sh) (thrF lv) kk) (fi + ((j : Int) * 1))) (by have hl_ := (hs96.rdRow 1 rfl).len; rw [u8s_length] at hl_; omega)
                    simp only [Nat.mul_one] at hs99_
                    replace hs99 : HS w [.blk b84 [.slice (some ⟨b82, 0, none⟩) n.toNat n.toNat, .int .i64 (n / 2)] 115, .row (some ⟨b82, 0, none⟩) n.toNat n.toNat (u8s ((gathTo (cellStep (passTo true co W H mW tx ids qs (limitF lv sh) (edgeF lv sh) (thrF lv) xs k) (4 * ((k : Int) / mW) * W + 4 * ((k : Int) % mW)) W 1 n (limitF lv sh) (edgeF lv sh) (thrF lv) kk) fi 1 n.toNat j).set (((j : Int)).toNat) (gi (cellStep (passTo true co W H mW tx ids qs (limitF lv sh) (edgeF lv sh) (thrF lv) xs k) (4 * ((k : Int) / mW) * W + 4 * ((k : Int) % mW)) W 1 n (limitF lv sh) (edgeF lv sh) (thrF lv) kk) (fi + ((j : Int) * 1))))) 5 1, .blk b35 [.int .i64 (limitF lv sh), .int .i64 (edgeF lv sh), .int .i64 (thrF lv)] 111, .row Ad23 m c24 (u8s (cellStep (passTo true co W H mW tx ids qs (limitF lv sh) (edgeF lv sh) (thrF lv) xs k) (4 * ((k : Int) / mW) * W + 4 * ((k : Int) % mW)) W 1 n (limitF lv sh) (edgeF lv sh) (thrF lv) kk)) 5 1, .blk b8 [.int .i64 0, .int .i64 0, .slice none 0 0] 28, .blk b5 [.int .i64 mW, .int .i64 mH, .slice At nt ct, .slice Ai ni ci, .slice Aq nq cq] 37, .blk b2 [.int .i64 W, .int .i64 H, .slice Ad23 m c24] 28] w99 := by simpa only [List.set, Nat.mul_one, hs99_] using hs99
                    refine Drw.done ?_ (by kernel_rfl)
                    refine k94 _ _ ?_
                    refine run_region ?_
                    refine Ops.v (Yv.add rfl rfl (by omega)) ?_
                    refine Ops.v (Yv.move rfl) ?_
                    refine Ops.nil ?_
                    refine ⟨j + 1, _, ⟨hs99, rfl, by omega⟩, Sub.le ⟨rfl, rfl, rfl, rfl, rfl, rfl, rfl, rfl, rfl, rfl, rfl, rfl, rfl, rfl, rfl, rfl, rfl, rfl, rfl, rfl, rfl, rfl, rfl, rfl, rfl, rfl, rfl, rfl, rfl, rfl, rfl, rfl, rfl, rfl, rfl, rfl, lookI rfl (by omega), trivial⟩, by omega⟩
                  · -- no
                    refine run_exit ?_
                    have hj : j = n.toNat := by omega
                    refine k88 _ _ ?_
                    refine run_seq fun K100 k100 => ?_
                    refine run_region ?_
                    refine Ops.v (Yv.loadn (cs := [.slice (some ⟨b82, 0, none⟩) n.toNat n.toNat, .int .i64 (n / 2)]) A115 S115 rfl (now (hs90.cells 0 rfl 0 2))) ?_
                    refine Ops.v (Yv.loadn (cs := [.int .i64 (limitF lv sh), .int .i64 (edgeF lv sh), .int .i64 (thrF lv)]) A111 S111 rfl (now (hs90.cells 2 rfl 0 3))) ?_
                    refine Ops.s (Step.call rfl rfl (filter_fun2 (hs90.rdRow 1 rfl) (gathTo_bytes (cellStep_bytes (passTo_bytes true co W H mW tx ids qs (limitF lv sh) (edgeF lv sh) (thrF lv) hx k) _ _ _ _ _ _ _ kk) _ _ _ _) (by omega) (by omega)) (?_) True.intro (by rfl))
                    rintro _ w104 ⟨Ad101, c102, rfl, hs104⟩
                    replace hs104 := hs90.call hs104
                    refine Ops.v (Yv.len (by rw [L23]; rfl) rfl) ?_
                    refine Ops.v (Yv.move rfl) ?_
                    refine Ops.nil ?_
                    refine k100 _ _ ?_
                    refine run_block ?_
                    refine Run.sub [(0, _), (1, _), (2, _), (3, _), (4, _), (5, _), (6, _), (7, _), (12, _), (13, _), (14, _), (15, _), (16, _), (17, _), (18, _), (19, _), (20, _), (21, _), (22, _), (23, _), (24, _), (25, _), (26, _), (27, _), (44, _), (51, _), (61, _), (69, _), (70, _), (71, _), (72, _), (88, _), (129, _), (147, _), (148, _), (172, _), (173, _), (174, _), (192, _), (193, _), (194, _)] ⟨rfl, rfl, rfl, rfl, rfl, rfl, rfl, rfl, rfl, rfl, rfl, rfl, rfl, rfl, rfl, rfl, rfl, rfl, rfl, rfl, rfl, rfl, rfl, rfl, rfl, rfl, rfl, rfl, rfl, rfl, rfl, rfl, rfl, rfl, rfl, rfl, rfl, rfl, rfl, rfl, rfl, trivial⟩ ?_
                    refine run_loop (σ := Nat) (fun q e_ w_ => HS w [.row Ad101 n.toNat c102 (u8s (filterF (gathTo (cellStep (passTo true co W H mW tx ids qs (limitF lv sh) (edgeF lv sh) (thrF lv) xs k) (4 * ((k : Int) / mW) * W + 4 * ((k : Int) % mW)) W 1 n (limitF lv sh) (edgeF lv sh) (thrF lv) kk) fi 1 n.toNat n.toNat) (n / 2) (limitF lv sh) (edgeF lv sh) (thrF lv))) 5 1, .blk b84 [.slice (some ⟨b82, 0, none⟩) n.toNat n.toNat, .int .i64 (n / 2)] 115, .row (some ⟨b82, 0, none⟩) n.toNat n.toNat (u8s (gathTo (cellStep (passTo true co W H mW tx ids qs (limitF lv sh) (edgeF lv sh) (thrF lv) xs k) (4 * ((k : Int) / mW) * W + 4 * ((k : Int) % mW)) W 1 n (limitF lv sh) (edgeF lv sh) (thrF lv) kk) fi 1 n.toNat n.toNat)) 5 1, .blk b35 [.int .i64 (limitF lv sh), .int .i64 (edgeF lv sh), .int .i64 (thrF lv)] 111, .row Ad23 m c24 (u8s (scatTo (filterF (gathTo (cellStep (passTo true co W H mW tx ids qs (limitF lv sh) (edgeF lv sh) (thrF lv) xs k) (4 * ((k : Int) / mW) * W + 4 * ((k : Int) % mW)) W 1 n (limitF lv sh) (edgeF lv sh) (thrF lv) kk) fi 1 n.toNat n.toNat) (n / 2) (limitF lv sh) (edgeF lv sh) (thrF lv)) (cellStep (passTo true co W H mW tx ids qs (limitF lv sh) (edgeF lv sh) (thrF lv) xs k) (4 * ((k : Int) / mW) * W + 4 * ((k : Int) % mW)) W 1 n (limitF lv sh) (edgeF lv sh) (thrF lv) kk) fi 1 q)) 5 1, .blk b8 [.int .i64 0, .int .i64 0, .slice none 0 0] 28, .blk b5 [.int .i64 mW, .int .i64 mH, .slice At nt ct, .slice Ai ni ci, .slice Aq nq cq] 37, .blk b2 [.int .i64 W, .int .i64 H, .slice Ad23 m c24] 28] w_ ∧ e_ = [(0, .agg #[.int .i64 W, .int .i64 H, .slice A m c]), (1, .agg #[.int .i64 mW, .int .i64 mH, .slice At nt ct, .slice Ai ni ci, .slice Aq nq cq]), (2, .bool true), (3, .bool co), (4, .int .i64 lv), (5, .int .i64 sh), (6, .pointer (some ⟨b2, 0, none⟩)), (7, .pointer (some ⟨b5, 0, none⟩)), (12, .pointer (some ⟨b8, 0, none⟩)), (13, .int .i64 0), (14, .pointer (some ⟨b35, 0, none⟩)), (15, .int .i64 1), (16, .int .i64 W), (17, .int .i64 1), (18, .int .i64 W), (19, .int .i64 (k : Int)), (20, .int .u8 (gi tx (k : Int))), (21, .int .i64 ((4 : Int) * ((k : Int) % mW))), (22, .int .i64 ((4 : Int) * ((k : Int) / mW))), (23, .int .i64 ((4 : Int) * ((k : Int) % mW))), (24, .int .i64 n), (25, .int .i64 (kk : Int)), (26, .int .i64 fi), (27, .pointer (some ⟨b84, 0, none⟩)), (44, .bool (decide (((¬ (mayP W H m mW mH tx nt ni nq)) ∨ (¬ ((0 : Int) ≤ lv ∧ lv ≤ 63))) ∨ (¬ ((0 : Int) ≤ sh ∧ sh ≤ 7))))), (51, .bool (decide (lv = (0 : Int)))), (61, .bool false), (69, .slice At nt ct), (70, .int .i64 (nt : Int)), (71, .int .i64 (k : Int)), (72, .bool (decide ((k : Int) < (nt : Int)))), (88, .bool false), (129, .bool (decide (((((4 : Int) * ((k : Int) % mW)) = (0 : Int)) ∨ ((((4 : Int) * ((k : Int) % mW)) % (gi tx (k : Int))) ≠ (0 : Int))) ∨ ((((gi ids (k : Int)) = (gi ids ((k : Int) - 1))) ∧ ((gb qs (k : Int)) = true)) ∧ ((gb qs ((k : Int) - 1)) = true))))), (147, .int .i64 (kk : Int)), (148, .bool (decide ((kk : Int) < (4 : Int)))), (172, .int .i64 (n.toNat : Int)), (173, .int .i64 (j : Int)), (174, .bool (decide ((j : Int) < (n.toNat : Int)))), (192, .slice Ad101 n.toNat c102), (193, .int .i64 (n.toNat : Int)), (194, .int .i64 (q : Int))] ∧ q ≤ n.toNat)
                      (fun q => n.toNat - q) 0 ?_ ?_
                    · -- at the start
                      refine ⟨(hs104.to (by rw [hj]; rfl)), rfl, by omega⟩
                    · -- a round
                      rintro q _ w105 ⟨hs105, rfl, f6⟩
                      have hlp := passTo_length true co W H mW tx ids qs (limitF lv sh) (edgeF lv sh) (thrF lv) xs k
                      have hlc := cellStep_length (passTo true co W H mW tx ids qs (limitF lv sh) (edgeF lv sh) (thrF lv) xs k) (4 * ((k : Int) / mW) * W + 4 * ((k : Int) % mW)) W 1 n (limitF lv sh) (edgeF lv sh) (thrF lv) kk
                      have hls := scatTo_length (filterF (gathTo (cellStep (passTo true co W H mW tx ids qs (limitF lv sh) (edgeF lv sh) (thrF lv) xs k) (4 * ((k : Int) / mW) * W + 4 * ((k : Int) % mW)) W 1 n (limitF lv sh) (edgeF lv sh) (thrF lv) kk) fi 1 n.toNat n.toNat) (n / 2) (limitF lv sh) (edgeF lv sh) (thrF lv)) (cellStep (passTo true co W H mW tx ids qs (limitF lv sh) (edgeF lv sh) (thrF lv) xs k) (4 * ((k : Int) / mW) * W + 4 * ((k : Int) % mW)) W 1 n (limitF lv sh) (edgeF lv sh) (thrF lv) kk) fi 1 q
                      refine run_seq fun K106 k106 => ?_
                      refine run_region ?_
                      refine Ops.v (Yv.lt rfl rfl) ?_
                      refine Ops.nil ?_
                      refine k106 _ _ ?_
                      refine run_seq fun K107 k107 => ?_
                      refine run_ifp rfl (fun h108 => ?_) (fun h108 => ?_)
                      · -- yes (q : Int) < (n.toNat : Int)
                        refine run_skip ?_
                        refine k107 _ _ ?_
                        refine run_seq fun K109 k109 => ?_
                        refine run_block ?_
                        refine run_seq fun K110 k110 => ?_
                        refine run_region ?_
                        refine Ops.v (Yv.move rfl) ?_
                        refine Ops.v (Yv.idx L23 rfl rfl ((hs105.rdRow 0 rfl).isSome (i := (q : Int)) (by omega) (by omega)) (by omega) (by omega)) ?_
                        refine Ops.v (Yv.load A5 rfl (now ((hs105.rdRow 0 rfl).u8 (by omega) (by omega)))) ?_
                        have g111 := gi_bytes (xs := filterF (gathTo (cellStep (passTo true co W H mW tx ids qs (limitF lv sh) (edgeF lv sh) (thrF lv) xs k) (4 * ((k : Int) / mW) * W + 4 * ((k : Int) % mW)) W 1 n (limitF lv sh) (edgeF lv sh) (thrF lv) kk) fi 1 n.toNat n.toNat) (n / 2) (limitF lv sh) (edgeF lv sh) (thrF lv)) (filterF_bytes (gathTo_bytes (cellStep_bytes (passTo_bytes true co W H mW tx ids qs (limitF lv sh) (edgeF lv sh) (thrF lv) hx k) _ _ _ _ _ _ _ kk) _ _ _ _) _ _ _ _) (q : Int)
                        refine Ops.v (Yv.assign rfl) ?_
                        refine Ops.v (Yv.assign rfl) ?_
                        have g111 := gi_bytes (xs := filterF (gathTo (cellStep (passTo true co W H mW tx ids qs (limitF lv sh) (edgeF lv sh) (thrF lv) xs k) (4 * ((k : Int) / mW) * W + 4 * ((k : Int) % mW)) W 1 n (limitF lv sh) (edgeF lv sh) (thrF lv) kk) fi 1 n.toNat n.toNat) (n / 2) (limitF lv sh) (edgeF lv sh) (thrF lv)) (filterF_bytes (gathTo_bytes (cellStep_bytes (passTo_bytes true co W H mW tx ids qs (limitF lv sh) (edgeF lv sh) (thrF lv) hx k) _ _ _ _ _ _ _ kk) _ _ _ _) _ _ _ _) (q : Int)
                        refine Ops.nil ?_
                        refine k110 _ _ ?_
                        refine run_region ?_
                        refine Ops.v (Yv.fld F28_2 rfl) ?_
                        refine Ops.v (Yv.load A23 rfl (now (hs105.cell 7 rfl 2 rfl))) ?_
                        refine Ops.v (Yv.move rfl) ?_
                        refine Ops.v (Yv.move rfl) ?_
                        refine Ops.v (Yv.move rfl) ?_
                        refine Ops.v (Yv.mul rfl rfl (by omega)) ?_
                        have hin3 := hin (q : Int) (by omega) (by omega)
                        refine Ops.v (Yv.add rfl rfl (by omega)) ?_
                        refine Ops.v (Yv.move rfl) ?_
                        have g111 := gi_bytes (xs := filterF (gathTo (cellStep (passTo true co W H mW tx ids qs (limitF lv sh) (edgeF lv sh) (thrF lv) xs k) (4 * ((k : Int) / mW) * W + 4 * ((k : Int) % mW)) W 1 n (limitF lv sh) (edgeF lv sh) (thrF lv) kk) fi 1 n.toNat n.toNat) (n / 2) (limitF lv sh) (edgeF lv sh) (thrF lv)) (filterF_bytes (gathTo_bytes (cellStep_bytes (passTo_bytes true co W H mW tx ids qs (limitF lv sh) (edgeF lv sh) (thrF lv) hx k) _ _ _ _ _ _ _ kk) _ _ _ _) _ _ _ _) (q : Int)
                        refine Ops.v (Yv.idx L23 rfl rfl ((hs105.rdRow 4 rfl).isSome (i := fi + ((q : Int) * 1)) (by omega) (by omega)) (by omega) (by omega)) ?_
                        refine Ops.s (Step.storeRow (vs := [.int .u8 (gi (filterF (gathTo (cellStep (passTo true co W H mW tx ids qs (limitF lv sh) (edgeF lv sh) (thrF lv) xs k) (4 * ((k : Int) / mW) * W + 4 * ((k : Int) % mW)) W 1 n (limitF lv sh) (edgeF lv sh) (thrF lv) kk) fi 1 n.toNat n.toNat) (n / 2) (limitF lv sh) (edgeF lv sh) (thrF lv)) (q : Int))]) 4 hs105 rfl rfl rfl rfl S5 (by have hl_ := (hs105.rdRow 4 rfl).len; show (fi + ((q : Int) * 1)).toNat * 1 + 1 ≤ _; omega) (Nat.succ_pos _) rfl (fun w112 hs112 => ?_) True.intro)
                        have hs112_ := u8s_put (xs := scatTo (filterF (gathTo (cellStep (passTo true co W H mW tx ids qs (limitF lv sh) (edgeF lv sh) (thrF lv) xs k) (4 * ((k : Int) / mW) * W + 4 * ((k : Int) % mW)) W 1 n (limitF lv sh) (edgeF lv sh) (thrF lv) kk) fi 1 n.toNat n.toNat) (n / 2) (limitF lv sh) (edgeF lv sh) (thrF lv)) (cellStep (passTo true co W H mW tx ids qs (limitF lv sh) (edgeF lv sh) (thrF lv) xs k) (4 * ((k : Int) / mW) * W + 4 * ((k : Int) % mW)) W 1 n (limitF lv sh) (edgeF lv sh) (thrF lv) kk) fi 1 q) (i := (fi + ((q : Int) * 1)).toNat * 1) (v := gi (filterF (gathTo (cellStep (passTo true co W H mW tx ids qs (limitF lv sh) (edgeF lv sh) (thrF lv) xs k) (4 * ((k : Int) / mW) * W + 4 * ((k : Int) % mW)) W 1 n (limitF lv sh) (edgeF lv sh) (thrF lv) kk) fi 1 n.toNat n.toNat) (n / 2) (limitF lv sh) (edgeF lv sh) (thrF lv)) (q : Int)) (by have hl_ := (hs105.rdRow 4 rfl).len; rw [u8s_length] at hl_; omega)
                        simp only [Nat.mul_one] at hs112_
                        replace hs112 : HS w [.row Ad101 n.toNat c102 (u8s (filterF (gathTo (cellStep (passTo true co W H mW tx ids qs (limitF lv sh) (edgeF lv sh) (thrF lv) xs k) (4 * ((k : Int) / mW) * W + 4 * ((k : Int) % mW)) W 1 n (limitF lv sh) (edgeF lv sh) (thrF lv) kk) fi 1 n.toNat n.toNat) (n / 2) (limitF lv sh) (edgeF lv sh) (thrF lv))) 5 1, .blk b84 [.slice (some ⟨b82, 0, none⟩) n.toNat n.toNat, .int .i64 (n / 2)] 115, .row (some ⟨b82, 0, none⟩) n.toNat n.toNat (u8s (gathTo (cellStep (passTo true co W H mW tx ids qs (limitF lv sh) (edgeF lv sh) (thrF lv) xs k) (4 * ((k : Int) / mW) * W + 4 * ((k : Int) % mW)) W 1 n (limitF lv sh) (edgeF lv sh) (thrF lv) kk) fi 1 n.toNat n.toNat)) 5 1, .blk b35 [.int .i64 (limitF lv sh), .int .i64 (edgeF lv sh), .int .i64 (thrF lv)] 111, .row Ad23 m c24 (u8s ((scatTo (filterF (gathTo (cellStep (passTo true co W H mW tx ids qs (limitF lv sh) (edgeF lv sh) (thrF lv) xs k) (4 * ((k : Int) / mW) * W + 4 * ((k : Int) % mW)) W 1 n (limitF lv sh) (edgeF lv sh) (thrF lv) kk) fi 1 n.toNat n.toNat) (n / 2) (limitF lv sh) (edgeF lv sh) (thrF lv)) (cellStep (passTo true co W H mW tx ids qs (limitF lv sh) (edgeF lv sh) (thrF lv) xs k) (4 * ((k : Int) / mW) * W + 4 * ((k : Int) % mW)) W 1 n (limitF lv sh) (edgeF lv sh) (thrF lv) kk) fi 1 q).set ((fi + ((q : Int) * 1)).toNat) (gi (filterF (gathTo (cellStep (passTo true co W H mW tx ids qs (limitF lv sh) (edgeF lv sh) (thrF lv) xs k) (4 * ((k : Int) / mW) * W + 4 * ((k : Int) % mW)) W 1 n (limitF lv sh) (edgeF lv sh) (thrF lv) kk) fi 1 n.toNat n.toNat) (n / 2) (limitF lv sh) (edgeF lv sh) (thrF lv)) (q : Int)))) 5 1, .blk b8 [.int .i64 0, .int .i64 0, .slice none 0 0] 28, .blk b5 [.int .i64 mW, .int .i64 mH, .slice At nt ct, .slice Ai ni ci, .slice Aq nq cq] 37, .blk b2 [.int .i64 W, .int .i64 H, .slice Ad23 m c24] 28] w112 := by simpa only [List.set, Nat.mul_one, hs112_] using hs112
                        refine Ops.nil ?_
                        refine k109 _ _ ?_
                        refine run_region ?_
                        refine Ops.v (Yv.add rfl rfl (by omega)) ?_
                        refine Ops.v (Yv.move rfl) ?_
                        refine Ops.nil ?_
                        refine ⟨q + 1, _, ⟨hs112, rfl, by omega⟩, Sub.le ⟨rfl, rfl, rfl, rfl, rfl, rfl, rfl, rfl, rfl, rfl, rfl, rfl, rfl, rfl, rfl, rfl, rfl, rfl, rfl, rfl, rfl, rfl, rfl, rfl, rfl, rfl, rfl, rfl, rfl, rfl, rfl, rfl, rfl, rfl, rfl, rfl, rfl, rfl, rfl, rfl, lookI rfl (by omega), trivial⟩, by omega⟩
                      · -- no
                        refine run_exit ?_
                        have hq : q = n.toNat := by omega
                        refine k77 _ _ ?_
                        refine run_region ?_
                        refine Ops.v (Yv.add rfl rfl (by omega)) ?_
                        refine Ops.v (Yv.move rfl) ?_
                        refine Ops.nil ?_
                        refine ⟨kk + 1, _, ⟨((hs105.pick [3, 4, 5, 6, 7] [.blk b35 [.int .i64 (limitF lv sh), .int .i64 (edgeF lv sh), .int .i64 (thrF lv)] 111, .row Ad23 m c24 (u8s (scatTo (filterF (gathTo (cellStep (passTo true co W H mW tx ids qs (limitF lv sh) (edgeF lv sh) (thrF lv) xs k) (4 * ((k : Int) / mW) * W + 4 * ((k : Int) % mW)) W 1 n (limitF lv sh) (edgeF lv sh) (thrF lv) kk) fi 1 n.toNat n.toNat) (n / 2) (limitF lv sh) (edgeF lv sh) (thrF lv)) (cellStep (passTo true co W H mW tx ids qs (limitF lv sh) (edgeF lv sh) (thrF lv) xs k) (4 * ((k : Int) / mW) * W + 4 * ((k : Int) % mW)) W 1 n (limitF lv sh) (edgeF lv sh) (thrF lv) kk) fi 1 q)) 5 1, .blk b8 [.int .i64 0, .int .i64 0, .slice none 0 0] 28, .blk b5 [.int .i64 mW, .int .i64 mH, .slice At nt ct, .slice Ai ni ci, .slice Aq nq cq] 37, .blk b2 [.int .i64 W, .int .i64 H, .slice Ad23 m c24] 28] (by decide) rfl).to (by subst hq hfi; rfl)), rfl, by omega⟩, Sub.le ⟨rfl, rfl, rfl, rfl, rfl, rfl, rfl, rfl, rfl, rfl, rfl, rfl, rfl, rfl, rfl, rfl, rfl, rfl, rfl, rfl, rfl, rfl, rfl, rfl, rfl, rfl, rfl, rfl, rfl, rfl, lookI rfl (by omega), trivial⟩, by omega⟩
              · -- no
                refine run_exit ?_
                have hkk : kk = 4 := by omega
                subst hkk
                refine k50 _ _ ?_
                refine run_region ?_
                refine Ops.v (Yv.add rfl rfl (by omega)) ?_
                refine Ops.v (Yv.move rfl) ?_
                refine Ops.nil ?_
                refine ⟨k + 1, _, ⟨(hs73.to (by rw [passTo_go (up := true) h68]; subst hn; rfl)), rfl, by omega⟩, Sub.le ⟨rfl, rfl, rfl, rfl, rfl, rfl, rfl, rfl, rfl, rfl, rfl, rfl, rfl, rfl, rfl, rfl, rfl, rfl, rfl, rfl, lookI rfl (by omega), trivial⟩, by omega⟩
        · -- no
          refine run_exit ?_
          refine k44 _ _ ?_
          refine run_seq fun K113 k113 => ?_
          refine run_region ?_
          refine Ops.v (Yv.loadn (cs := [.int .i64 W, .int .i64 H, .slice Ad23 m c24]) A28 S28 rfl (now (hs46.cells 4 rfl 0 3))) ?_
          refine Ops.s (Step.store (vs := [.int .i64 W, .int .i64 H, .slice Ad23 m c24]) 2 hs46 rfl rfl rfl rfl S28 (Nat.le_of_ble_eq_true rfl) rfl (fun w114 hs114 => ?_) True.intro)
          replace hs114 : HS _ [.blk _ [_, _, _] _, .row _ _ _ _ _ _, .blk _ [_, _, _] _, .blk _ [_, _, _, _, _] _, .blk _ [_, _, _] _] _ := hs114
          refine Ops.v (Yv.assign rfl) ?_
          refine Ops.nil ?_
          refine k113 _ _ ?_
          refine run_ret ?_
          refine ⟨[.agg #[.int .i64 W, .int .i64 H, .slice Ad23 m c24], .int .i64 0], ⟨_, _, _, rfl, rfl, run_loadn (cs := [.int .i64 W, .int .i64 H, .slice Ad23 m c24]) A28 S28 (hs114.cells 2 rfl 0 3), ⟨_, _, rfl, rfl, rfl⟩⟩, ?_⟩
          refine ⟨_, _, _, pass_tup (if_neg h19).symm (if_neg h19).symm (if_neg h19).symm, ?_⟩
          have hz := hs114.pick [1] [.row Ad23 m c24 (u8s (passTo true co W H mW tx ids qs (limitF lv sh) (edgeF lv sh) (thrF lv) xs k)) 5 1] (by decide) rfl
          have hk : k = tx.length := by omega
          exact hz.to (by rw [if_neg h19, passF, if_neg h30, hk])

theorem pass_lie {w : World} {W H : Int} {A : Option Addr} {m c : Nat} {xs : List Int} (hr : Rd w A m 1 (u8s xs)) (hx : Bytes xs) {mW mH : Int} {At Ai Aq : Option Addr} {nt ni nq ct ci cq : Nat} {tx ids : List Int} {qs : List Bool} (ht : Rd w At nt 1 (u8s tx)) (htx : Bytes tx) (hi : Rd w Ai ni 1 (i64s ids)) (hq : Rd w Aq nq 1 (bools qs)) {co : Bool} {lv sh : Int} : Fun Try.prog 17 [.agg #[.int .i64 W, .int .i64 H, .slice A m c], .agg #[.int .i64 mW, .int .i64 mH, .slice At nt ct, .slice Ai ni ci, .slice Aq nq cq], .bool false, .bool co, .int .i64 lv, .int .i64 sh] w fun v w' => ∃ A' m' c', v = .tuple #[.agg #[.int .i64 (if passBad W H m mW mH tx nt ni nq lv sh then 0 else W), .int .i64 (if passBad W H m mW mH tx nt ni nq lv sh then 0 else H), .slice A' m' c'], .int .i64 (if passBad W H m mW mH tx nt ni nq lv sh then 2 else 0)] ∧ HS w [.row A' m' c' (u8s (if passBad W H m mW mH tx nt ni nq lv sh then [] else passF false co W H mW tx ids qs lv sh xs)) 5 1] w' := by
  refine fun_run (m := 212) (rs := [.cell 12 28, .tmp 13]) Try.func17 rfl rfl rfl rfl rfl ?_
  have hs0 := HS.start w
  have hbig := hr.big
  have hlen : xs.length = m := by have := hr.len; rw [u8s_length] at this; omega
  have hlt : tx.length = nt := by have := ht.len; rw [u8s_length] at this; omega
  have hlq : qs.length = nq := by have := hq.len; rw [bools_length] at this; omega
  have hli : ids.length = ni := by have := hi.len; rw [i64s_length] at this; omega
  refine run_seq fun K1 k1 => ?_
  refine run_region ?_
  refine Ops.s (Step.box (cs := [.int .i64 W, .int .i64 H, .slice A m c]) hs0 rfl rfl (fun b2 w3 hs3 hb3 => ?_) True.intro (by rfl))
  refine Ops.s (Step.box (cs := [.int .i64 mW, .int .i64 mH, .slice At nt ct, .slice Ai ni ci, .slice Aq nq cq]) hs3 rfl rfl (fun b5 w6 hs6 hb6 => ?_) True.intro (by rfl))
  refine Ops.s (Step.alloc (cs := [.int .i64 0, .int .i64 0, .slice none 0 0]) hs6 Z28 rfl (fun b8 w9 hs9 hb9 => ?_) True.intro (by rfl))
  refine Ops.v (Yv.assign rfl) ?_
  refine Ops.nil ?_
  refine k1 _ _ ?_
  refine run_seq fun K11 k11 => ?_
  refine run_seq fun K12 k12 => ?_
  refine Run.cut (fun e_ w_ => HS w [.blk b8 [.int .i64 0, .int .i64 0, .slice none 0 0] 28, .blk b5 [.int .i64 mW, .int .i64 mH, .slice At nt ct, .slice Ai ni ci, .slice Aq nq cq] 37, .blk b2 [.int .i64 W, .int .i64 H, .slice A m c] 28] w_ ∧ Le [(0, .agg #[.int .i64 W, .int .i64 H, .slice A m c]), (1, .agg #[.int .i64 mW, .int .i64 mH, .slice At nt ct, .slice Ai ni ci, .slice Aq nq cq]), (2, .bool false), (3, .bool co), (4, .int .i64 lv), (5, .int .i64 sh), (6, .pointer (some ⟨b2, 0, none⟩)), (7, .pointer (some ⟨b5, 0, none⟩)), (12, .pointer (some ⟨b8, 0, none⟩)), (13, .int .i64 0), (44, .bool (decide (((¬ (mayP W H m mW mH tx nt ni nq)) ∨ (¬ ((0 : Int) ≤ lv ∧ lv ≤ 63))) ∨ (¬ ((0 : Int) ≤ sh ∧ sh ≤ 7)))))] e_) ?_ ?_
  · -- region 1: its ways meet again
    refine run_region ?_
    refine Ops.v (Yv.loadn (cs := [.int .i64 W, .int .i64 H, .slice A m c]) A28 S28 rfl (now (hs9.cells 2 rfl 0 3))) ?_
    refine Ops.v (Yv.loadn (cs := [.int .i64 mW, .int .i64 mH, .slice At nt ct, .slice Ai ni ci, .slice Aq nq cq]) A37 S37 rfl (now (hs9.cells 1 rfl 0 5))) ?_
    refine Ops.s (Step.call rfl rfl (may_fun (hs9.rd ht) htx) (?_) True.intro (by rfl))
    rintro _ w13 ⟨rfl, hs13⟩
    replace hs13 := hs9.call hs13
    refine Ops.dec (fun h14 => ?_) (fun h14 => ?_)
    · -- yes
      refine Ops.v (Yv.not rfl) ?_
      refine Ops.v (Yv.move rfl) ?_
      refine Ops.vg ⟨_, rfl, rfl⟩ (Yv.move rfl) ?_
      refine Ops.s (Step.call rfl rfl (within_fun) (?_) ⟨_, rfl, rfl⟩ (by rfl))
      rintro _ _ ⟨rfl, rfl⟩
      refine Ops.dec (fun h16 => ?_) (fun h16 => ?_)
      · -- yes
        refine Ops.vg ⟨_, rfl, rfl⟩ (Yv.not rfl) ?_
        refine Ops.v (Yv.pick0 rfl rfl) ?_
        refine Ops.v (Yv.move rfl) ?_
        refine Ops.vg ⟨_, rfl, rfl⟩ (Yv.move rfl) ?_
        refine Ops.s (Step.call rfl rfl (within_fun) (?_) ⟨_, rfl, rfl⟩ (by rfl))
        rintro _ _ ⟨rfl, rfl⟩
        refine Ops.vg ⟨_, rfl, rfl⟩ (Yv.notp rfl) ?_
        refine Ops.v (Yv.pick0 rfl rfl) ?_
        refine Ops.nil ?_
        refine ⟨hs13, Sub.le ⟨rfl, rfl, rfl, rfl, rfl, rfl, rfl, rfl, rfl, rfl, lookB rfl (by first | (simp only [h14, h16, ne_eq, not_true_eq_false, not_false_eq_true, or_true, true_or, or_false, false_or, and_true, true_and, and_false, false_and, decide_true, decide_false, or_self, and_self, Bool.decide_eq_true]; done) | simp [h14, h16]), trivial⟩⟩
      · -- no
        refine Ops.vg ⟨_, rfl, rfl⟩ (Yv.not rfl) ?_
        refine Ops.v (Yv.pick0 rfl rfl) ?_
        refine Ops.v (Yv.move rfl) ?_
        refine Ops.skip ⟨_, rfl, rfl⟩ ?_
        refine Ops.skip ⟨_, rfl, rfl⟩ ?_
        refine Ops.skip ⟨_, rfl, rfl⟩ ?_
        refine Ops.v (Yv.pick1 rfl rfl) ?_
        refine Ops.nil ?_
        refine ⟨hs13, Sub.le ⟨rfl, rfl, rfl, rfl, rfl, rfl, rfl, rfl, rfl, rfl, lookB rfl (by first | (simp only [h14, h16, ne_eq, not_true_eq_false, not_false_eq_true, or_true, true_or, or_false, false_or, and_true, true_and, and_false, false_and, decide_true, decide_false, or_self, and_self, Bool.decide_eq_true]; done) | simp [h14, h16]), trivial⟩⟩
    · -- no
      refine Ops.v (Yv.not rfl) ?_
      refine Ops.v (Yv.move rfl) ?_
      refine Ops.skip ⟨_, rfl, rfl⟩ ?_
      refine Ops.skip ⟨_, rfl, rfl⟩ ?_
      refine Ops.skip ⟨_, rfl, rfl⟩ ?_
      refine Ops.v (Yv.pick1 rfl rfl) ?_
      refine Ops.v (Yv.move rfl) ?_
      refine Ops.skip ⟨_, rfl, rfl⟩ ?_
      refine Ops.skip ⟨_, rfl, rfl⟩ ?_
      refine Ops.skip ⟨_, rfl, rfl⟩ ?_
      refine Ops.v (Yv.pick1 rfl rfl) ?_
      refine Ops.nil ?_
      refine ⟨hs13, Sub.le ⟨rfl, rfl, rfl, rfl, rfl, rfl, rfl, rfl, rfl, rfl, lookB rfl (by first | (simp only [h14, ne_eq, not_true_eq_false, not_false_eq_true, or_true, true_or, or_false, false_or, and_true, true_and, and_false, false_and, decide_true, decide_false, or_self, and_self, Bool.decide_eq_true]; done) | simp [h14]), trivial⟩⟩
  rintro e18 w18 ⟨hs18, he18⟩
  refine k12 _ _ ?_
  refine Run.le he18 ?_
  refine run_ifp rfl (fun h19 => ?_) (fun h19 => ?_)
  · -- yes ((¬ (mayP W H m mW mH tx nt ni nq)) ∨ (¬ ((0 : Int) ≤ lv ∧ lv ≤ 63))) ∨ (¬ ((0 : Int) ≤ sh ∧ sh ≤ 7))
    refine run_seq fun K20 k20 => ?_
    refine run_region ?_
    refine Ops.v (Yv.buildS (cs := #[.int .i64 0, .int .i64 0, .slice none 0 0]) T28 rfl rfl) ?_
    refine Ops.s (Step.store (vs := [.int .i64 0, .int .i64 0, .slice none 0 0]) 0 hs18 rfl rfl rfl rfl S28 (Nat.le_of_ble_eq_true rfl) rfl (fun w21 hs21 => ?_) True.intro)
    replace hs21 : HS _ [.blk _ [_, _, _] _, .blk _ [_, _, _, _, _] _, .blk _ [_, _, _] _] _ := hs21
    refine Ops.v (Yv.assign rfl) ?_
    refine Ops.nil ?_
    refine k20 _ _ ?_
    refine run_ret ?_
    refine ⟨[.agg #[.int .i64 0, .int .i64 0, .slice none 0 0], .int .i64 2], ⟨_, _, _, rfl, rfl, run_loadn (cs := [.int .i64 0, .int .i64 0, .slice none 0 0]) A28 S28 (hs21.cells 0 rfl 0 3), ⟨_, _, rfl, rfl, rfl⟩⟩, ?_⟩
    refine ⟨none, 0, 0, pass_tup (if_pos h19).symm (if_pos h19).symm (if_pos h19).symm, ?_⟩
    exact ((hs21.pick [] [] (by decide) rfl).nilRow 5 1).to (by rw [if_pos h19]; rfl)
  · -- no
    have hfa : 1 ≤ W ∧ W ≤ 512 ∧ 1 ≤ H ∧ H ≤ 512 ∧ (m : Int) = W * H ∧ W = 4 * mW ∧ H = 4 * mH ∧ (nt : Int) = mW * mH ∧ (ni : Int) = mW * mH ∧ (nq : Int) = mW * mH ∧ (∀ x ∈ tx, x = 4 ∨ x = 8 ∨ x = 16 ∨ x = 32 ∨ x = 64) ∧ (0 ≤ lv ∧ lv ≤ 63) ∧ (0 ≤ sh ∧ sh ≤ 7) := pass_ok h19
    have hWH := mul_bd (a := W) (b := H) (x := 512) (y := 512) (by omega) (by omega) (by omega) (by omega)
    have hMM := mul_bd (a := mW) (b := mH) (x := 512) (y := 512) (by omega) (by omega) (by omega) (by omega)
    refine run_skip ?_
    refine k11 _ _ ?_
    refine run_seq fun K22 k22 => ?_
    refine run_region ?_
    refine Ops.v (Yv.fld F28_2 rfl) ?_
    refine Ops.v (Yv.load A23 rfl (now (hs18.cell 2 rfl 2 rfl))) ?_
    refine Ops.s (Step.call rfl rfl (clone_fun (hs18.rd hr) (by omega)) (?_) True.intro (by rfl))
    rintro _ w26 ⟨Ad23, c24, rfl, hs26⟩
    replace hs26 := hs18.call hs26
    refine Ops.v (Yv.fld F28_2 rfl) ?_
    refine Ops.s (Step.store (vs := [.slice Ad23 m c24]) 3 hs26 rfl rfl rfl rfl S23 (Nat.le_of_ble_eq_true rfl) rfl (fun w27 hs27 => ?_) True.intro)
    replace hs27 : HS _ [.row _ _ _ _ _ _, .blk _ [_, _, _] _, .blk _ [_, _, _, _, _] _, .blk _ [_, _, _] _] _ := hs27
    refine Ops.nil ?_
    refine k22 _ _ ?_
    refine run_seq fun K28 k28 => ?_
    refine run_seq fun K29 k29 => ?_
    refine run_region ?_
    refine Ops.v (Yv.move rfl) ?_
    refine Ops.v (Yv.eq rfl rfl) ?_
    refine Ops.nil ?_
    refine k29 _ _ ?_
    refine run_ifp rfl (fun h30 => ?_) (fun h30 => ?_)
    · -- yes lv = (0 : Int)
      refine run_seq fun K31 k31 => ?_
      refine run_region ?_
      refine Ops.v (Yv.loadn (cs := [.int .i64 W, .int .i64 H, .slice Ad23 m c24]) A28 S28 rfl (now (hs27.cells 3 rfl 0 3))) ?_
      refine Ops.s (Step.store (vs := [.int .i64 W, .int .i64 H, .slice Ad23 m c24]) 1 hs27 rfl rfl rfl rfl S28 (Nat.le_of_ble_eq_true rfl) rfl (fun w32 hs32 => ?_) True.intro)
      replace hs32 : HS _ [.row _ _ _ _ _ _, .blk _ [_, _, _] _, .blk _ [_, _, _, _, _] _, .blk _ [_, _, _] _] _ := hs32
      refine Ops.v (Yv.assign rfl) ?_
      refine Ops.nil ?_
      refine k31 _ _ ?_
      refine run_ret ?_
      refine ⟨[.agg #[.int .i64 W, .int .i64 H, .slice Ad23 m c24], .int .i64 0], ⟨_, _, _, rfl, rfl, run_loadn (cs := [.int .i64 W, .int .i64 H, .slice Ad23 m c24]) A28 S28 (hs32.cells 1 rfl 0 3), ⟨_, _, rfl, rfl, rfl⟩⟩, ?_⟩
      refine ⟨_, _, _, pass_tup (if_neg h19).symm (if_neg h19).symm (if_neg h19).symm, ?_⟩
      have hz := hs32.pick [0] [.row Ad23 m c24 (u8s xs) 5 1] (by decide) rfl
      exact hz.to (by rw [if_neg h19, passF, if_pos h30])
    · -- no
      refine run_skip ?_
      refine k28 _ _ ?_
      refine run_seq fun K33 k33 => ?_
      refine run_region ?_
      refine Ops.v (Yv.move rfl) ?_
      refine Ops.v (Yv.move rfl) ?_
      refine Ops.s (Step.call rfl rfl (bounds_fun (by omega) (by omega)) (?_) True.intro (by rfl))
      rintro _ w34 ⟨rfl, hs34⟩
      replace hs34 := hs27.call hs34
      refine Ops.s (Step.alloc (cs := [.int .i64 0, .int .i64 0, .int .i64 0]) hs34 Z111 rfl (fun b35 w36 hs36 hb36 => ?_) True.intro (by rfl))
      refine Ops.s (Step.store (vs := [.int .i64 (limitF lv sh), .int .i64 (edgeF lv sh), .int .i64 (thrF lv)]) 0 hs36 rfl rfl rfl rfl S111 (Nat.le_of_ble_eq_true rfl) rfl (fun w38 hs38 => ?_) True.intro)
      replace hs38 : HS _ [.blk _ [_, _, _] _, .row _ _ _ _ _ _, .blk _ [_, _, _] _, .blk _ [_, _, _, _, _] _, .blk _ [_, _, _] _] _ := hs38
      refine Ops.nil ?_
      refine k33 _ _ ?_
      refine run_seq fun K39 k39 => ?_
      refine run_drawn [] (fun x => Below (w38.drew).heap.size (w38.drew) x) ?_ Tf.mixed (by kernel_rfl) (fun _ _ _ h => h)
      have hs40 := hs38.drew
      have hS41 := Below.refl (w38.drew).heap.size (w38.drew)
      refine Drw.a 0 rfl (by kernel_rfl) (Yv.fld F28_0 rfl) ?_
      refine Drw.l 1 rfl (by kernel_rfl) hS41 (Yv.load A3 rfl (fun _ hq_ => ((hs40.grow hq_).cell 4 rfl 0 rfl))) ?_
      refine Drw.a 2 rfl (by kernel_rfl) (Yv.fld F28_0 rfl) ?_
      refine Drw.l 3 rfl (by kernel_rfl) hS41 (Yv.load A3 rfl (fun _ hq_ => ((hs40.grow hq_).cell 4 rfl 0 rfl))) ?_
      refine Drw.a 4 rfl (by kernel_rfl) (Yv.assign rfl) ?_
      refine Drw.a 5 rfl (by kernel_rfl) (Yv.assign rfl) ?_
      refine Drw.a 6 rfl (by kernel_rfl) (Yv.assign rfl) ?_
      refine Drw.a 7 rfl (by kernel_rfl) (Yv.assign rfl) ?_
      refine Drw.done ?_ (by kernel_rfl)
      refine k39 _ _ ?_
      refine run_seq fun K42 k42 => ?_
      refine run_seq fun K43 k43 => ?_
      refine run_region ?_
      refine Ops.v (Yv.move rfl) ?_
      refine Ops.v (Yv.not rfl) ?_
      refine Ops.nil ?_
      refine k43 _ _ ?_
      refine run_if1 rfl ?_
      refine run_drawn [] (fun x => Below ((w38.drew).drew).heap.size ((w38.drew).drew) x) ?_ Tf.mixed (by kernel_rfl) (fun _ _ _ h => h)
      have hs44 := hs40.drew
      have hS45 := Below.refl ((w38.drew).drew).heap.size ((w38.drew).drew)
      refine Drw.a 0 rfl (by kernel_rfl) (Yv.fld F28_0 rfl) ?_
      refine Drw.l 1 rfl (by kernel_rfl) hS45 (Yv.load A3 rfl (fun _ hq_ => ((hs44.grow hq_).cell 4 rfl 0 rfl))) ?_
      refine Drw.a 2 rfl (by kernel_rfl) (Yv.fld F37_0 rfl) ?_
      refine Drw.l 3 rfl (by kernel_rfl) hS45 (Yv.load A3 rfl (fun _ hq_ => ((hs44.grow hq_).cell 3 rfl 0 rfl))) ?_
      refine Drw.a 4 rfl (by kernel_rfl) (Yv.fld F28_1 rfl) ?_
      refine Drw.l 5 rfl (by kernel_rfl) hS45 (Yv.load A3 rfl (fun _ hq_ => ((hs44.grow hq_).cell 4 rfl 1 rfl))) ?_
      refine Drw.a 6 rfl (by kernel_rfl) (Yv.assign rfl) ?_
      refine Drw.a 7 rfl (by kernel_rfl) (Yv.assign rfl) ?_
      refine Drw.a 8 rfl (by kernel_rfl) (Yv.assign rfl) ?_
      refine Drw.a 9 rfl (by kernel_rfl) (Yv.assign rfl) ?_
      refine Drw.done ?_ (by kernel_rfl)
      refine k42 _ _ ?_
      refine run_seq fun K46 k46 => ?_
      refine run_seq fun K47 k47 => ?_
      refine run_region ?_
      refine Ops.v (Yv.fld F37_2 rfl) ?_
      refine Ops.v (Yv.load A23 rfl (now (hs44.cell 3 rfl 2 rfl))) ?_
      refine Ops.v (Yv.len (by rw [L23]; rfl) rfl) ?_
      refine Ops.v (Yv.move rfl) ?_
      refine Ops.nil ?_
      refine k47 _ _ ?_
      refine run_block ?_
      refine Run.sub [(0, _), (1, _), (2, _), (3, _), (4, _), (5, _), (6, _), (7, _), (12, _), (13, _), (14, _), (15, _), (16, _), (17, _), (18, _), (44, _), (51, _), (61, _), (69, _), (70, _), (71, _)] ⟨rfl, rfl, rfl, rfl, rfl, rfl, rfl, rfl, rfl, rfl, rfl, rfl, rfl, rfl, rfl, rfl, rfl, rfl, rfl, rfl, rfl, trivial⟩ ?_
      refine run_loop (σ := Nat) (fun k e_ w_ => HS w [.blk b35 [.int .i64 (limitF lv sh), .int .i64 (edgeF lv sh), .int .i64 (thrF lv)] 111, .row Ad23 m c24 (u8s (passTo false co W H mW tx ids qs (limitF lv sh) (edgeF lv sh) (thrF lv) xs k)) 5 1, .blk b8 [.int .i64 0, .int .i64 0, .slice none 0 0] 28, .blk b5 [.int .i64 mW, .int .i64 mH, .slice At nt ct, .slice Ai ni ci, .slice Aq nq cq] 37, .blk b2 [.int .i64 W, .int .i64 H, .slice Ad23 m c24] 28] w_ ∧ e_ = [(0, .agg #[.int .i64 W, .int .i64 H, .slice A m c]), (1, .agg #[.int .i64 mW, .int .i64 mH, .slice At nt ct, .slice Ai ni ci, .slice Aq nq cq]), (2, .bool false), (3, .bool co), (4, .int .i64 lv), (5, .int .i64 sh), (6, .pointer (some ⟨b2, 0, none⟩)), (7, .pointer (some ⟨b5, 0, none⟩)), (12, .pointer (some ⟨b8, 0, none⟩)), (13, .int .i64 0), (14, .pointer (some ⟨b35, 0, none⟩)), (15, .int .i64 W), (16, .int .i64 1), (17, .int .i64 mW), (18, .int .i64 H), (44, .bool (decide (((¬ (mayP W H m mW mH tx nt ni nq)) ∨ (¬ ((0 : Int) ≤ lv ∧ lv ≤ 63))) ∨ (¬ ((0 : Int) ≤ sh ∧ sh ≤ 7))))), (51, .bool (decide (lv = (0 : Int)))), (61, .bool true), (69, .slice At nt ct), (70, .int .i64 (nt : Int)), (71, .int .i64 (k : Int))] ∧ k ≤ nt)
        (fun k => nt - k) 0 ?_ ?_
      · -- at the start
        refine ⟨hs44, rfl, by omega⟩
      · -- a round
        rintro k _ w48 ⟨hs48, rfl, f1⟩
        have htk : 0 ≤ (k : Int) ∧ (k : Int) ≤ mW * mH := by omega
        refine run_seq fun K49 k49 => ?_
        refine run_region ?_
        refine Ops.v (Yv.lt rfl rfl) ?_
        refine Ops.nil ?_
        refine k49 _ _ ?_
        refine run_seq fun K50 k50 => ?_
        refine run_ifp rfl (fun h51 => ?_) (fun h51 => ?_)
        · -- yes (k : Int) < (nt : Int)
          have hk1 : (k : Int) < mW * mH := by omega
          have hcx : 0 ≤ (k : Int) % mW ∧ (k : Int) % mW < mW := ⟨Int.emod_nonneg _ (by omega), Int.emod_lt_of_pos _ (by omega)⟩
          have hcy : 0 ≤ (k : Int) / mW ∧ (k : Int) / mW < mH := ⟨Int.ediv_nonneg (by omega) (by omega), Int.ediv_lt_of_lt_mul (by omega) (by rw [Int.mul_comm]; exact hk1)⟩
          have hkd : mW * ((k : Int) / mW) + (k : Int) % mW = k := Int.mul_ediv_add_emod _ _
          refine run_skip ?_
          refine k50 _ _ ?_
          refine run_seq fun K52 k52 => ?_
          refine run_block ?_
          refine run_seq fun K53 k53 => ?_
          refine run_region ?_
          refine Ops.v (Yv.move rfl) ?_
          refine Ops.v (Yv.idx L23 rfl rfl ((hs48.rd ht).isSome (i := (k : Int)) (by omega) (by omega)) (by omega) (by omega)) ?_
          refine Ops.v (Yv.load A5 rfl (now ((hs48.rd ht).u8 (by omega) (by omega)))) ?_
          have g54 := gi_bytes (xs := tx) htx (k : Int)
          refine Ops.v (Yv.assign rfl) ?_
          refine Ops.v (Yv.assign rfl) ?_
          have g54 := gi_bytes (xs := tx) htx (k : Int)
          refine Ops.nil ?_
          refine k53 _ _ ?_
          refine run_seq fun K55 k55 => ?_
          refine run_drawn [] (fun x => Below (w48.drew).heap.size (w48.drew) x) ?_ Tf.mixed (by kernel_rfl) (fun _ _ _ h => h)
          have hs56 := hs48.drew
          have hS57 := Below.refl (w48.drew).heap.size (w48.drew)
          refine Drw.a 0 rfl (by kernel_rfl) (Yv.move rfl) ?_
          refine Drw.a 1 rfl (by kernel_rfl) (Yv.fld F37_0 rfl) ?_
          refine Drw.l 2 rfl (by kernel_rfl) hS57 (Yv.load A3 rfl (fun _ hq_ => ((hs56.grow hq_).cell 3 rfl 0 rfl))) ?_
          refine Drw.a 3 rfl (by kernel_rfl) (Yv.rem rfl rfl (by omega) (by omega)) ?_
          refine Drw.a 4 rfl (by kernel_rfl) (Yv.mul rfl rfl (by omega)) ?_
          refine Drw.a 5 rfl (by kernel_rfl) (Yv.move rfl) ?_
          refine Drw.a 6 rfl (by kernel_rfl) (Yv.fld F37_0 rfl) ?_
          refine Drw.l 7 rfl (by kernel_rfl) hS57 (Yv.load A3 rfl (fun _ hq_ => ((hs56.grow hq_).cell 3 rfl 0 rfl))) ?_
          refine Drw.a 8 rfl (by kernel_rfl) (Yv.quo rfl rfl (by omega) (by omega) (by omega)) ?_
          refine Drw.a 9 rfl (by kernel_rfl) (Yv.mul rfl rfl (by omega)) ?_
          refine Drw.a 10 rfl (by kernel_rfl) (Yv.assign rfl) ?_
          refine Drw.a 11 rfl (by kernel_rfl) (Yv.assign rfl) ?_
          refine Drw.done ?_ (by kernel_rfl)
          refine k55 _ _ ?_
          refine run_seq fun K58 k58 => ?_
          refine run_region ?_
          refine Ops.v (Yv.move rfl) ?_
          refine Ops.v (Yv.assign rfl) ?_
          refine Ops.nil ?_
          refine k58 _ _ ?_
          refine run_seq fun K59 k59 => ?_
          refine run_seq fun K60 k60 => ?_
          refine run_region ?_
          refine Ops.v (Yv.move rfl) ?_
          refine Ops.v (Yv.not rfl) ?_
          refine Ops.nil ?_
          refine k60 _ _ ?_
          refine run_if1 rfl ?_
          refine run_region ?_
          refine Ops.v (Yv.move rfl) ?_
          refine Ops.v (Yv.assign rfl) ?_
          refine Ops.nil ?_
          refine k59 _ _ ?_
          refine run_seq fun K61 k61 => ?_
          refine run_seq fun K62 k62 => ?_
          refine Run.cut (fun e_ w_ => HS w [.blk b35 [.int .i64 (limitF lv sh), .int .i64 (edgeF lv sh), .int .i64 (thrF lv)] 111, .row Ad23 m c24 (u8s (passTo false co W H mW tx ids qs (limitF lv sh) (edgeF lv sh) (thrF lv) xs k)) 5 1, .blk b8 [.int .i64 0, .int .i64 0, .slice none 0 0] 28, .blk b5 [.int .i64 mW, .int .i64 mH, .slice At nt ct, .slice Ai ni ci, .slice Aq nq cq] 37, .blk b2 [.int .i64 W, .int .i64 H, .slice Ad23 m c24] 28] w_ ∧ Le [(0, .agg #[.int .i64 W, .int .i64 H, .slice A m c]), (1, .agg #[.int .i64 mW, .int .i64 mH, .slice At nt ct, .slice Ai ni ci, .slice Aq nq cq]), (2, .bool false), (3, .bool co), (4, .int .i64 lv), (5, .int .i64 sh), (6, .pointer (some ⟨b2, 0, none⟩)), (7, .pointer (some ⟨b5, 0, none⟩)), (12, .pointer (some ⟨b8, 0, none⟩)), (13, .int .i64 0), (14, .pointer (some ⟨b35, 0, none⟩)), (15, .int .i64 W), (16, .int .i64 1), (17, .int .i64 mW), (18, .int .i64 H), (19, .int .i64 (k : Int)), (20, .int .u8 (gi tx (k : Int))), (21, .int .i64 ((4 : Int) * ((k : Int) % mW))), (22, .int .i64 ((4 : Int) * ((k : Int) / mW))), (23, .int .i64 ((4 : Int) * ((k : Int) / mW))), (44, .bool (decide (((¬ (mayP W H m mW mH tx nt ni nq)) ∨ (¬ ((0 : Int) ≤ lv ∧ lv ≤ 63))) ∨ (¬ ((0 : Int) ≤ sh ∧ sh ≤ 7))))), (51, .bool (decide (lv = (0 : Int)))), (61, .bool true), (69, .slice At nt ct), (70, .int .i64 (nt : Int)), (71, .int .i64 (k : Int)), (72, .bool (decide ((k : Int) < (nt : Int)))), (88, .bool true), (129, .bool (decide (((((4 : Int) * ((k : Int) / mW)) = (0 : Int)) ∨ ((((4 : Int) * ((k : Int) / mW)) % (gi tx (k : Int))) ≠ (0 : Int))) ∨ ((((gi ids (k : Int)) = (gi ids ((k : Int) - mW))) ∧ ((gb qs (k : Int)) = true)) ∧ ((gb qs ((k : Int) - mW)) = true)))))] e_) ?_ ?_
          · -- region 17: its ways meet again
            refine run_drawn [] (fun x => Below ((w48.drew).drew).heap.size ((w48.drew).drew) x) ?_ Tf.mixed (by kernel_rfl) (fun _ _ _ h => h)
            have hs63 := hs56.drew
            have hS64 := Below.refl ((w48.drew).drew).heap.size ((w48.drew).drew)
            refine Drw.a 0 rfl (by kernel_rfl) (Yv.move rfl) ?_
            refine Drw.a 1 rfl (by kernel_rfl) (Yv.eq rfl rfl) ?_
            refine Drw.dec (fun h65 => ?_) (fun h65 => ?_)
            · -- yes
              refine Drw.a 2 rfl (by kernel_rfl) (Yv.move rfl) ?_
              refine Drw.no 3 rfl (by kernel_rfl) ?_ ⟨_, rfl, rfl⟩
              refine Drw.no 4 rfl (by kernel_rfl) ?_ ⟨_, rfl, rfl⟩
              refine Drw.no 5 rfl (by kernel_rfl) ?_ ⟨_, rfl, rfl⟩
              refine Drw.no 6 rfl (by kernel_rfl) ?_ ⟨_, rfl, rfl⟩
              refine Drw.no 7 rfl (by kernel_rfl) ?_ ⟨_, rfl, rfl⟩
              refine Drw.a 8 rfl (by kernel_rfl) (Yv.pick1 rfl rfl) ?_
              refine Drw.a 9 rfl (by kernel_rfl) (Yv.move rfl) ?_
              refine Drw.no 10 rfl (by kernel_rfl) ?_ ⟨_, rfl, rfl⟩
              refine Drw.no 11 rfl (by kernel_rfl) ?_ ⟨_, rfl, rfl⟩
              refine Drw.no 12 rfl (by kernel_rfl) ?_ ⟨_, rfl, rfl⟩
              refine Drw.no 13 rfl (by kernel_rfl) ?_ ⟨_, rfl, rfl⟩
              refine Drw.no 14 rfl (by kernel_rfl) ?_ ⟨_, rfl, rfl⟩
              refine Drw.no 15 rfl (by kernel_rfl) ?_ ⟨_, rfl, rfl⟩
              refine Drw.no 16 rfl (by kernel_rfl) ?_ ⟨_, rfl, rfl⟩
              refine Drw.no 17 rfl (by kernel_rfl) ?_ ⟨_, rfl, rfl⟩
              refine Drw.no 18 rfl (by kernel_rfl) ?_ ⟨_, rfl, rfl⟩
              refine Drw.no 19 rfl (by kernel_rfl) ?_ ⟨_, rfl, rfl⟩
              refine Drw.no 20 rfl (by kernel_rfl) ?_ ⟨_, rfl, rfl⟩
              refine Drw.no 21 rfl (by kernel_rfl) ?_ ⟨_, rfl, rfl⟩
              refine Drw.no 22 rfl (by kernel_rfl) ?_ ⟨_, rfl, rfl⟩
              refine Drw.no 23 rfl (by kernel_rfl) ?_ ⟨_, rfl, rfl⟩
              refine Drw.no 24 rfl (by kernel_rfl) ?_ ⟨_, rfl, rfl⟩
              refine Drw.no 25 rfl (by kernel_rfl) ?_ ⟨_, rfl, rfl⟩
              refine Drw.no 26 rfl (by kernel_rfl) ?_ ⟨_, rfl, rfl⟩
              refine Drw.no 27 rfl (by kernel_rfl) ?_ ⟨_, rfl, rfl⟩
              refine Drw.no 28 rfl (by kernel_rfl) ?_ ⟨_, rfl, rfl⟩
              refine Drw.no 29 rfl (by kernel_rfl) ?_ ⟨_, rfl, rfl⟩
              refine Drw.no 30 rfl (by kernel_rfl) ?_ ⟨_, rfl, rfl⟩
              refine Drw.no 31 rfl (by kernel_rfl) ?_ ⟨_, rfl, rfl⟩
              refine Drw.no 32 rfl (by kernel_rfl) ?_ ⟨_, rfl, rfl⟩
              refine Drw.no 33 rfl (by kernel_rfl) ?_ ⟨_, rfl, rfl⟩
              refine Drw.no 34 rfl (by kernel_rfl) ?_ ⟨_, rfl, rfl⟩
              refine Drw.no 35 rfl (by kernel_rfl) ?_ ⟨_, rfl, rfl⟩
              refine Drw.no 36 rfl (by kernel_rfl) ?_ ⟨_, rfl, rfl⟩
              refine Drw.no 37 rfl (by kernel_rfl) ?_ ⟨_, rfl, rfl⟩
              refine Drw.no 38 rfl (by kernel_rfl) ?_ ⟨_, rfl, rfl⟩
              refine Drw.a 39 rfl (by kernel_rfl) (Yv.pick1 rfl rfl) ?_
              refine Drw.done ?_ (by kernel_rfl)
              refine ⟨hs63, Sub.le ⟨rfl, rfl, rfl, rfl, rfl, rfl, rfl, rfl, rfl, rfl, rfl, rfl, rfl, rfl, rfl, rfl, rfl, rfl, rfl, rfl, rfl, rfl, rfl, rfl, rfl, rfl, rfl, rfl, lookB rfl (by first | (simp only [h65, ne_eq, not_true_eq_false, not_false_eq_true, or_true, true_or, or_false, false_or, and_true, true_and, and_false, false_and, decide_true, decide_false, or_self, and_self, Bool.decide_eq_true]; done) | simp [h65]), trivial⟩⟩
            · -- no
              refine Drw.a 2 rfl (by kernel_rfl) (Yv.move rfl) ?_
              refine Drw.a 3 rfl (by kernel_rfl) (Yv.move rfl) ?_ ⟨_, rfl, rfl⟩
              refine Drw.a 4 rfl (by kernel_rfl) (Yv.move rfl) ?_ ⟨_, rfl, rfl⟩
              have g54 := gi_bytes (xs := tx) htx (k : Int)
              have hsz := hfa.2.2.2.2.2.2.2.2.2.2.1 _ (gi_mem (xs := tx) (i := (k : Int)) (by omega) (by omega))
              refine Drw.a 5 rfl (by kernel_rfl) (Yv.toInt U3 V5 rfl (by omega)) ?_ ⟨_, rfl, rfl⟩
              have hsz := hfa.2.2.2.2.2.2.2.2.2.2.1 _ (gi_mem (xs := tx) (i := (k : Int)) (by omega) (by omega))
              refine Drw.a 6 rfl (by kernel_rfl) (Yv.rem rfl rfl (by omega) (by omega)) ?_ ⟨_, rfl, rfl⟩
              refine Drw.a 7 rfl (by kernel_rfl) (Yv.ne rfl rfl) ?_ ⟨_, rfl, rfl⟩
              refine Drw.dec (fun h66 => ?_) (fun h66 => ?_)
              · -- yes
                refine Drw.a 8 rfl (by kernel_rfl) (Yv.pick0 rfl rfl) ?_
                refine Drw.a 9 rfl (by kernel_rfl) (Yv.move rfl) ?_
                refine Drw.no 10 rfl (by kernel_rfl) ?_ ⟨_, rfl, rfl⟩
                refine Drw.no 11 rfl (by kernel_rfl) ?_ ⟨_, rfl, rfl⟩
                refine Drw.no 12 rfl (by kernel_rfl) ?_ ⟨_, rfl, rfl⟩
                refine Drw.no 13 rfl (by kernel_rfl) ?_ ⟨_, rfl, rfl⟩
                refine Drw.no 14 rfl (by kernel_rfl) ?_ ⟨_, rfl, rfl⟩
                refine Drw.no 15 rfl (by kernel_rfl) ?_ ⟨_, rfl, rfl⟩
                refine Drw.no 16 rfl (by kernel_rfl) ?_ ⟨_, rfl, rfl⟩
                refine Drw.no 17 rfl (by kernel_rfl) ?_ ⟨_, rfl, rfl⟩
                refine Drw.no 18 rfl (by kernel_rfl) ?_ ⟨_, rfl, rfl⟩
                refine Drw.no 19 rfl (by kernel_rfl) ?_ ⟨_, rfl, rfl⟩
                refine Drw.no 20 rfl (by kernel_rfl) ?_ ⟨_, rfl, rfl⟩
                refine Drw.no 21 rfl (by kernel_rfl) ?_ ⟨_, rfl, rfl⟩
                refine Drw.no 22 rfl (by kernel_rfl) ?_ ⟨_, rfl, rfl⟩
                refine Drw.no 23 rfl (by kernel_rfl) ?_ ⟨_, rfl, rfl⟩
                refine Drw.no 24 rfl (by kernel_rfl) ?_ ⟨_, rfl, rfl⟩
                refine Drw.no 25 rfl (by kernel_rfl) ?_ ⟨_, rfl, rfl⟩
                refine Drw.no 26 rfl (by kernel_rfl) ?_ ⟨_, rfl, rfl⟩
                refine Drw.no 27 rfl (by kernel_rfl) ?_ ⟨_, rfl, rfl⟩
                refine Drw.no 28 rfl (by kernel_rfl) ?_ ⟨_, rfl, rfl⟩
                refine Drw.no 29 rfl (by kernel_rfl) ?_ ⟨_, rfl, rfl⟩
                refine Drw.no 30 rfl (by kernel_rfl) ?_ ⟨_, rfl, rfl⟩
                refine Drw.no 31 rfl (by kernel_rfl) ?_ ⟨_, rfl, rfl⟩
                refine Drw.no 32 rfl (by kernel_rfl) ?_ ⟨_, rfl, rfl⟩
                refine Drw.no 33 rfl (by kernel_rfl) ?_ ⟨_, rfl, rfl⟩
                refine Drw.no 34 rfl (by kernel_rfl) ?_ ⟨_, rfl, rfl⟩
                refine Drw.no 35 rfl (by kernel_rfl) ?_ ⟨_, rfl, rfl⟩
                refine Drw.no 36 rfl (by kernel_rfl) ?_ ⟨_, rfl, rfl⟩
                refine Drw.no 37 rfl (by kernel_rfl) ?_ ⟨_, rfl, rfl⟩
                refine Drw.no 38 rfl (by kernel_rfl) ?_ ⟨_, rfl, rfl⟩
                refine Drw.a 39 rfl (by kernel_rfl) (Yv.pick1 rfl rfl) ?_
                refine Drw.done ?_ (by kernel_rfl)
                refine ⟨hs63, Sub.le ⟨rfl, rfl, rfl, rfl, rfl, rfl, rfl, rfl, rfl, rfl, rfl, rfl, rfl, rfl, rfl, rfl, rfl, rfl, rfl, rfl, rfl, rfl, rfl, rfl, rfl, rfl, rfl, rfl, lookB rfl (by first | (simp only [h65, h66, ne_eq, not_true_eq_false, not_false_eq_true, or_true, true_or, or_false, false_or, and_true, true_and, and_false, false_and, decide_true, decide_false, or_self, and_self, Bool.decide_eq_true]; done) | simp [h65, h66]), trivial⟩⟩
              · -- no
                refine Drw.a 8 rfl (by kernel_rfl) (Yv.pick0 rfl rfl) ?_
                refine Drw.a 9 rfl (by kernel_rfl) (Yv.move rfl) ?_
                refine Drw.a 10 rfl (by kernel_rfl) (Yv.fld F37_3 rfl) ?_ ⟨_, rfl, rfl⟩
                refine Drw.l 11 rfl (by kernel_rfl) hS64 (Yv.load A34 rfl (fun _ hq_ => ((hs63.grow hq_).cell 3 rfl 3 rfl))) ?_ ⟨_, rfl, rfl⟩
                refine Drw.a 12 rfl (by kernel_rfl) (Yv.move rfl) ?_ ⟨_, rfl, rfl⟩
                refine Drw.a 13 rfl (by kernel_rfl) (Yv.idx L34 rfl rfl ((hs63.rd hi).isSome (i := (k : Int)) (by omega) (by omega)) (by omega) (by omega)) ?_ ⟨_, rfl, rfl⟩
                refine Drw.l 14 rfl (by kernel_rfl) hS64 (Yv.load A3 rfl (fun _ hq_ => (((hs63.grow hq_).rd hi).i64 (by omega) (by omega)))) ?_ ⟨_, rfl, rfl⟩
                refine Drw.a 15 rfl (by kernel_rfl) (Yv.fld F37_3 rfl) ?_ ⟨_, rfl, rfl⟩
                refine Drw.l 16 rfl (by kernel_rfl) hS64 (Yv.load A34 rfl (fun _ hq_ => ((hs63.grow hq_).cell 3 rfl 3 rfl))) ?_ ⟨_, rfl, rfl⟩
                refine Drw.a 17 rfl (by kernel_rfl) (Yv.move rfl) ?_ ⟨_, rfl, rfl⟩
                refine Drw.a 18 rfl (by kernel_rfl) (Yv.move rfl) ?_ ⟨_, rfl, rfl⟩
                have hbk : mW ≤ (k : Int) := ge_of_div (a := (k : Int)) (b := mW) (by omega) (by omega)
                refine Drw.a 19 rfl (by kernel_rfl) (Yv.sub rfl rfl (by omega)) ?_ ⟨_, rfl, rfl⟩
                have hbk : mW ≤ (k : Int) := ge_of_div (a := (k : Int)) (b := mW) (by omega) (by omega)
                refine Drw.a 20 rfl (by kernel_rfl) (Yv.idx L34 rfl rfl ((hs63.rd hi).isSome (i := (k : Int) - mW) (by omega) (by omega)) (by omega) (by omega)) ?_ ⟨_, rfl, rfl⟩
                refine Drw.l 21 rfl (by kernel_rfl) hS64 (Yv.load A3 rfl (fun _ hq_ => (((hs63.grow hq_).rd hi).i64 (by omega) (by omega)))) ?_ ⟨_, rfl, rfl⟩
                refine Drw.a 22 rfl (by kernel_rfl) (Yv.eq rfl rfl) ?_ ⟨_, rfl, rfl⟩
                refine Drw.dec (fun h67 => ?_) (fun h67 => ?_)
                · -- yes
                  refine Drw.a 23 rfl (by kernel_rfl) (Yv.move rfl) ?_ ⟨_, rfl, rfl⟩
                  refine Drw.a 24 rfl (by kernel_rfl) (Yv.fld F37_4 rfl) ?_ ⟨_, rfl, rfl⟩
                  refine Drw.l 25 rfl (by kernel_rfl) hS64 (Yv.load A35 rfl (fun _ hq_ => ((hs63.grow hq_).cell 3 rfl 4 rfl))) ?_ ⟨_, rfl, rfl⟩
                  refine Drw.a 26 rfl (by kernel_rfl) (Yv.move rfl) ?_ ⟨_, rfl, rfl⟩
                  refine Drw.a 27 rfl (by kernel_rfl) (Yv.idx L35 rfl rfl ((hs63.rd hq).isSome (i := (k : Int)) (by omega) (by omega)) (by omega) (by omega)) ?_ ⟨_, rfl, rfl⟩
                  refine Drw.l 28 rfl (by kernel_rfl) hS64 (Yv.load A4 rfl (fun _ hq_ => (((hs63.grow hq_).rd hq).bool (by omega) (by omega)))) ?_ ⟨_, rfl, rfl⟩
                  refine Drw.boo (fun h68 => ?_) (fun h68 => ?_)
                  · -- yes
                    refine Drw.a 29 rfl (by kernel_rfl) (Yv.pick1 rfl rfl) ?_ ⟨_, rfl, rfl⟩
                    refine Drw.a 30 rfl (by kernel_rfl) (Yv.move rfl) ?_ ⟨_, rfl, rfl⟩
                    refine Drw.a 31 rfl (by kernel_rfl) (Yv.fld F37_4 rfl) ?_ ⟨_, rfl, rfl⟩
                    refine Drw.l 32 rfl (by kernel_rfl) hS64 (Yv.load A35 rfl (fun _ hq_ => ((hs63.grow hq_).cell 3 rfl 4 rfl))) ?_ ⟨_, rfl, rfl⟩
                    refine Drw.a 33 rfl (by kernel_rfl) (Yv.move rfl) ?_ ⟨_, rfl, rfl⟩
                    refine Drw.a 34 rfl (by kernel_rfl) (Yv.move rfl) ?_ ⟨_, rfl, rfl⟩
                    refine Drw.a 35 rfl (by kernel_rfl) (Yv.sub rfl rfl (by omega)) ?_ ⟨_, rfl, rfl⟩
                    have hbk : mW ≤ (k : Int) := ge_of_div (a := (k : Int)) (b := mW) (by omega) (by omega)
                    refine Drw.a 36 rfl (by kernel_rfl) (Yv.idx L35 rfl rfl ((hs63.rd hq).isSome (i := (k : Int) - mW) (by omega) (by omega)) (by omega) (by omega)) ?_ ⟨_, rfl, rfl⟩
                    refine Drw.l 37 rfl (by kernel_rfl) hS64 (Yv.load A4 rfl (fun _ hq_ => (((hs63.grow hq_).rd hq).bool (by omega) (by omega)))) ?_ ⟨_, rfl, rfl⟩
                    refine Drw.a 38 rfl (by kernel_rfl) (Yv.pick1 rfl rfl) ?_ ⟨_, rfl, rfl⟩
                    refine Drw.a 39 rfl (by kernel_rfl) (Yv.pick0 rfl rfl) ?_
                    refine Drw.done ?_ (by kernel_rfl)
                    refine ⟨hs63, Sub.le ⟨rfl, rfl, rfl, rfl, rfl, rfl, rfl, rfl, rfl, rfl, rfl, rfl, rfl, rfl, rfl, rfl, rfl, rfl, rfl, rfl, rfl, rfl, rfl, rfl, rfl, rfl, rfl, rfl, lookB rfl (by first | (simp only [h65, h66, h67, h68, ne_eq, not_true_eq_false, not_false_eq_true, or_true, true_or, or_false, false_or, and_true, true_and, and_false, false_and, decide_true, decide_false, or_self, and_self, Bool.decide_eq_true]; done) | simp [h65, h66, h67, h68]), trivial⟩⟩
                  · -- no
                    refine Drw.a 29 rfl (by kernel_rfl) (Yv.pick1 rfl rfl) ?_ ⟨_, rfl, rfl⟩
                    refine Drw.a 30 rfl (by kernel_rfl) (Yv.move rfl) ?_ ⟨_, rfl, rfl⟩
                    refine Drw.no 31 rfl (by kernel_rfl) ?_ ⟨_, rfl, rfl⟩
                    refine Drw.no 32 rfl (by kernel_rfl) ?_ ⟨_, rfl, rfl⟩
                    refine Drw.no 33 rfl (by kernel_rfl) ?_ ⟨_, rfl, rfl⟩
                    refine Drw.no 34 rfl (by kernel_rfl) ?_ ⟨_, rfl, rfl⟩
                    refine Drw.no 35 rfl (by kernel_rfl) ?_ ⟨_, rfl, rfl⟩
                    refine Drw.no 36 rfl (by kernel_rfl) ?_ ⟨_, rfl, rfl⟩
                    refine Drw.no 37 rfl (by kernel_rfl) ?_ ⟨_, rfl, rfl⟩
                    refine Drw.a 38 rfl (by kernel_rfl) (Yv.pick0 rfl rfl) ?_ ⟨_, rfl, rfl⟩
                    refine Drw.a 39 rfl (by kernel_rfl) (Yv.pick0 rfl rfl) ?_
                    refine Drw.done ?_ (by kernel_rfl)
                    refine ⟨hs63, Sub.le ⟨rfl, rfl, rfl, rfl, rfl, rfl, rfl, rfl, rfl, rfl, rfl, rfl, rfl, rfl, rfl, rfl, rfl, rfl, rfl, rfl, rfl, rfl, rfl, rfl, rfl, rfl, rfl, rfl, lookB rfl (by first | (simp only [h65, h66, h67, h68, ne_eq, not_true_eq_false, not_false_eq_true, or_true, true_or, or_false, false_or, and_true, true_and, and_false, false_and, decide_true, decide_false, or_self, and_self, Bool.decide_eq_true]; done) | simp [h65, h66, h67, h68]), trivial⟩⟩
                · -- no
                  refine Drw.a 23 rfl (by kernel_rfl) (Yv.move rfl) ?_ ⟨_, rfl, rfl⟩
                  refine Drw.no 24 rfl (by kernel_rfl) ?_ ⟨_, rfl, rfl⟩
                  refine Drw.no 25 rfl (by kernel_rfl) ?_ ⟨_, rfl, rfl⟩
                  refine Drw.no 26 rfl (by kernel_rfl) ?_ ⟨_, rfl, rfl⟩
                  refine Drw.no 27 rfl (by kernel_rfl) ?_ ⟨_, rfl, rfl⟩
                  refine Drw.no 28 rfl (by kernel_rfl) ?_ ⟨_, rfl, rfl⟩
                  refine Drw.a 29 rfl (by kernel_rfl) (Yv.pick0 rfl rfl) ?_ ⟨_, rfl, rfl⟩
                  refine Drw.a 30 rfl (by kernel_rfl) (Yv.move rfl) ?_ ⟨_, rfl, rfl⟩
                  refine Drw.no 31 rfl (by kernel_rfl) ?_ ⟨_, rfl, rfl⟩
                  refine Drw.no 32 rfl (by kernel_rfl) ?_ ⟨_, rfl, rfl⟩
                  refine Drw.no 33 rfl (by kernel_rfl) ?_ ⟨_, rfl, rfl⟩
                  refine Drw.no 34 rfl (by kernel_rfl) ?_ ⟨_, rfl, rfl⟩
                  refine Drw.no 35 rfl (by kernel_rfl) ?_ ⟨_, rfl, rfl⟩
                  refine Drw.no 36 rfl (by kernel_rfl) ?_ ⟨_, rfl, rfl⟩
                  refine Drw.no 37 rfl (by kernel_rfl) ?_ ⟨_, rfl, rfl⟩
                  refine Drw.a 38 rfl (by kernel_rfl) (Yv.pick0 rfl rfl) ?_ ⟨_, rfl, rfl⟩
                  refine Drw.a 39 rfl (by kernel_rfl) (Yv.pick0 rfl rfl) ?_
                  refine Drw.done ?_ (by kernel_rfl)
                  refine ⟨hs63, Sub.le ⟨rfl, rfl, rfl, rfl, rfl, rfl, rfl, rfl, rfl, rfl, rfl, rfl, rfl, rfl, rfl, rfl, rfl, rfl, rfl, rfl, rfl, rfl, rfl, rfl, rfl, rfl, rfl, rfl, lookB rfl (by first | (simp only [h65, h66, h67, ne_eq, not_true_eq_false, not_false_eq_true, or_true, true_or, or_false, false_or, and_true, true_and, and_false, false_and, decide_true, decide_false, or_self, and_self, Bool.decide_eq_true]; done) | simp [h65, h66, h67]), trivial⟩⟩
          rintro e69 w69 ⟨hs69, he69⟩
          refine k62 _ _ ?_
          refine Run.le he69 ?_
          refine run_ifp rfl (fun h70 => ?_) (fun h70 => ?_)
          · -- yes ((((4 : Int) * ((k : Int) / mW)) = (0 : Int)) ∨ ((((4 : Int) * ((k : Int) / mW)) % (gi tx (k : Int))) ≠ (0 : Int))) ∨ ((((gi ids (k : Int)) = (gi ids ((k : Int) - mW))) ∧ ((gb qs (k : Int)) = true)) ∧ ((gb qs ((k : Int) - mW)) = true))
            refine run_exit ?_
            refine k52 _ _ ?_
            refine run_region ?_
            refine Ops.v (Yv.add rfl rfl (by omega)) ?_
            refine Ops.v (Yv.move rfl) ?_
            refine Ops.nil ?_
            refine ⟨k + 1, _, ⟨(hs69.to (by rw [passTo_skip (up := false) h70])), rfl, by omega⟩, Sub.le ⟨rfl, rfl, rfl, rfl, rfl, rfl, rfl, rfl, rfl, rfl, rfl, rfl, rfl, rfl, rfl, rfl, rfl, rfl, rfl, rfl, lookI rfl (by omega), trivial⟩, by omega⟩
          · -- no
            have hat : ¬ (4 * ((k : Int) / mW) = 0) := fun e => h70 (Or.inl (Or.inl e))
            have hbk : mW ≤ (k : Int) := ge_of_div (a := (k : Int)) (b := mW) (by omega) (by omega)
            refine run_skip ?_
            refine k61 _ _ ?_
            refine run_seq fun K71 k71 => ?_
            refine run_region ?_
            refine Ops.v (Yv.move rfl) ?_
            have g54 := gi_bytes (xs := tx) htx (k : Int)
            refine Ops.v (Yv.toInt U3 V5 rfl (by omega)) ?_
            refine Ops.v (Yv.fld F37_2 rfl) ?_
            refine Ops.v (Yv.load A23 rfl (now (hs69.cell 3 rfl 2 rfl))) ?_
            refine Ops.v (Yv.move rfl) ?_
            refine Ops.v (Yv.move rfl) ?_
            refine Ops.v (Yv.sub rfl rfl (by omega)) ?_
            refine Ops.v (Yv.idx L23 rfl rfl ((hs69.rd ht).isSome (i := (k : Int) - mW) (by omega) (by omega)) (by omega) (by omega)) ?_
            refine Ops.v (Yv.load A5 rfl (now ((hs69.rd ht).u8 (by omega) (by omega)))) ?_
            have g72 := gi_bytes (xs := tx) htx ((k : Int) - mW)
            refine Ops.v (Yv.toInt U3 V5 rfl (by omega)) ?_
            refine Ops.v (Yv.move rfl) ?_
            refine Ops.v (Yv.move rfl) ?_
            refine Ops.v (Yv.move rfl) ?_
            refine Ops.v (Yv.sub rfl rfl (by omega)) ?_
            refine Ops.v (Yv.min4 rfl rfl rfl rfl) ?_
            refine Ops.v (Yv.move rfl) ?_
            refine Ops.s (Step.call rfl rfl (reach_fun) (?_) True.intro (by rfl))
            rintro _ _ ⟨rfl, rfl⟩
            refine Ops.v (Yv.assign rfl) ?_
            refine Ops.nil ?_
            refine k71 _ _ ?_
            refine run_seq fun K74 k74 => ?_
            refine run_region ?_
            refine Ops.v (Yv.move rfl) ?_
            refine Ops.nil ?_
            refine k74 _ _ ?_
            refine run_block ?_
            have hn0 := tapsF_cases (min (min (min (gi tx (k : Int)) (gi tx ((k : Int) - mW))) (4 * ((k : Int) / mW))) (H - (4 * ((k : Int) / mW)))) co
            obtain ⟨n, hn⟩ : ∃ x_ : Int, x_ = tapsF (min (min (min (gi tx (k : Int)) (gi tx ((k : Int) - mW))) ((4 : Int) * ((k : Int) / mW))) (H - ((4 : Int) * ((k : Int) / mW)))) co := ⟨_, rfl⟩
            rw [← hn] at hn0
            refine Run.sub [(0, _), (1, _), (2, _), (3, _), (4, _), (5, _), (6, _), (7, _), (12, _), (13, _), (14, _), (15, _), (16, _), (17, _), (18, _), (19, _), (20, _), (21, _), (22, _), (23, _), (24, _), (44, _), (51, _), (61, _), (69, _), (70, _), (71, _), (72, _), (88, _), (129, _), (147, _)] ⟨rfl, rfl, rfl, rfl, rfl, rfl, rfl, rfl, rfl, rfl, rfl, rfl, rfl, rfl, rfl, rfl, rfl, rfl, rfl, rfl, lookI rfl hn.symm, rfl, rfl, rfl, rfl, rfl, rfl, rfl, rfl, rfl, rfl, trivial⟩ ?_
            refine run_loop (σ := Nat) (fun kk e_ w_ => HS w [.blk b35 [.int .i64 (limitF lv sh), .int .i64 (edgeF lv sh), .int .i64 (thrF lv)] 111, .row Ad23 m c24 (u8s (cellStep (passTo false co W H mW tx ids qs (limitF lv sh) (edgeF lv sh) (thrF lv) xs k) (4 * ((k : Int) / mW) * W + 4 * ((k : Int) % mW)) 1 W n (limitF lv sh) (edgeF lv sh) (thrF lv) kk)) 5 1, .blk b8 [.int .i64 0, .int .i64 0, .slice none 0 0] 28, .blk b5 [.int .i64 mW, .int .i64 mH, .slice At nt ct, .slice Ai ni ci, .slice Aq nq cq] 37, .blk b2 [.int .i64 W, .int .i64 H, .slice Ad23 m c24] 28] w_ ∧ e_ = [(0, .agg #[.int .i64 W, .int .i64 H, .slice A m c]), (1, .agg #[.int .i64 mW, .int .i64 mH, .slice At nt ct, .slice Ai ni ci, .slice Aq nq cq]), (2, .bool false), (3, .bool co), (4, .int .i64 lv), (5, .int .i64 sh), (6, .pointer (some ⟨b2, 0, none⟩)), (7, .pointer (some ⟨b5, 0, none⟩)), (12, .pointer (some ⟨b8, 0, none⟩)), (13, .int .i64 0), (14, .pointer (some ⟨b35, 0, none⟩)), (15, .int .i64 W), (16, .int .i64 1), (17, .int .i64 mW), (18, .int .i64 H), (19, .int .i64 (k : Int)), (20, .int .u8 (gi tx (k : Int))), (21, .int .i64 ((4 : Int) * ((k : Int) % mW))), (22, .int .i64 ((4 : Int) * ((k : Int) / mW))), (23, .int .i64 ((4 : Int) * ((k : Int) / mW))), (24, .int .i64 n), (44, .bool (decide (((¬ (mayP W H m mW mH tx nt ni nq)) ∨ (¬ ((0 : Int) ≤ lv ∧ lv ≤ 63))) ∨ (¬ ((0 : Int) ≤ sh ∧ sh ≤ 7))))), (51, .bool (decide (lv = (0 : Int)))), (61, .bool true), (69, .slice At nt ct), (70, .int .i64 (nt : Int)), (71, .int .i64 (k : Int)), (72, .bool (decide ((k : Int) < (nt : Int)))), (88, .bool true), (129, .bool (decide (((((4 : Int) * ((k : Int) / mW)) = (0 : Int)) ∨ ((((4 : Int) * ((k : Int) / mW)) % (gi tx (k : Int))) ≠ (0 : Int))) ∨ ((((gi ids (k : Int)) = (gi ids ((k : Int) - mW))) ∧ ((gb qs (k : Int)) = true)) ∧ ((gb qs ((k : Int) - mW)) = true))))), (147, .int .i64 (kk : Int))] ∧ kk ≤ 4)
              (fun kk => 4 - kk) 0 ?_ ?_
            · -- at the start
              refine ⟨hs69, rfl, by omega⟩
            · -- a round
              rintro kk _ w75 ⟨hs75, rfl, f3⟩
              refine run_seq fun K76 k76 => ?_
              refine run_region ?_
              refine Ops.v (Yv.lt rfl rfl) ?_
              refine Ops.nil ?_
              refine k76 _ _ ?_
              refine run_seq fun K77 k77 => ?_
              refine run_ifp rfl (fun h78 => ?_) (fun h78 => ?_)
              · -- yes (kk : Int) < (4 : Int)
                have hb1 := mul_bd (a := 4 * ((k : Int) / mW)) (b := W) (x := 512) (y := 512) (by omega) (by omega) (by omega) (by omega)
                have hb2 := mul_bd (a := n / 2) (b := W) (x := 7) (y := 512) (by omega) (by omega) (by omega) (by omega)
                refine run_skip ?_
                refine k77 _ _ ?_
                refine run_seq fun K79 k79 => ?_
                refine run_block ?_
                refine run_seq fun K80 k80 => ?_
                refine run_region ?_
                refine Ops.v (Yv.move rfl) ?_
                refine Ops.v (Yv.assign rfl) ?_
                refine Ops.nil ?_
                refine k80 _ _ ?_
                refine run_seq fun K81 k81 => ?_
                refine run_region ?_
                refine Ops.v (Yv.move rfl) ?_
                refine Ops.v (Yv.fld F28_0 rfl) ?_
                refine Ops.v (Yv.load A3 rfl (now (hs75.cell 4 rfl 0 rfl))) ?_
                refine Ops.v (Yv.mul rfl rfl (by omega)) ?_
                refine Ops.v (Yv.move rfl) ?_
                refine Ops.v (Yv.add rfl rfl (by omega)) ?_
                refine Ops.v (Yv.move rfl) ?_
                refine Ops.v (Yv.move rfl) ?_
                refine Ops.v (Yv.mul rfl rfl (by omega)) ?_
                refine Ops.v (Yv.add rfl rfl (by omega)) ?_
                refine Ops.v (Yv.move rfl) ?_
                refine Ops.v (Yv.quo rfl rfl (by omega) (by omega) (by omega)) ?_
                refine Ops.v (Yv.move rfl) ?_
                refine Ops.v (Yv.mul rfl rfl (by omega)) ?_
                refine Ops.v (Yv.sub rfl rfl (by omega)) ?_
                refine Ops.v (Yv.assign rfl) ?_
                refine Ops.nil ?_
                refine k81 _ _ ?_
                refine run_seq fun K82 k82 => ?_
                refine run_region ?_
                refine Ops.v (Yv.move rfl) ?_
                refine Ops.s (Step.make hs75 L23 Z5 rfl rfl (by omega) (by omega) (by omega) (fun b84 w83 hs83 hb83 => ?_) True.intro (by rfl))
                rw [u8s_rep] at hs83
                refine Ops.v (Yv.move rfl) ?_
                refine Ops.v (Yv.quo rfl rfl (by omega) (by omega) (by omega)) ?_
                refine Ops.v (Yv.buildS (cs := #[.slice (some ⟨b84, 0, none⟩) n.toNat n.toNat, .int .i64 (n / 2)]) T115 rfl rfl) ?_
                refine Ops.s (Step.alloc (cs := [.slice none 0 0, .int .i64 0]) hs83 Z115 rfl (fun b86 w87 hs87 hb87 => ?_) True.intro (by rfl))
                refine Ops.s (Step.store (vs := [.slice (some ⟨b84, 0, none⟩) n.toNat n.toNat, .int .i64 (n / 2)]) 0 hs87 rfl rfl rfl rfl S115 (Nat.le_of_ble_eq_true rfl) rfl (fun w89 hs89 => ?_) True.intro)
                replace hs89 : HS _ [.blk _ [_, _] _, .row _ _ _ _ _ _, .blk _ [_, _, _] _, .row _ _ _ _ _ _, .blk _ [_, _, _] _, .blk _ [_, _, _, _, _] _, .blk _ [_, _, _] _] _ := hs89
                refine Ops.nil ?_
                refine k82 _ _ ?_
                refine run_seq fun K90 k90 => ?_
                refine run_seq fun K91 k91 => ?_
                refine run_region ?_
                refine Ops.v (Yv.fld F115_0 rfl) ?_
                refine Ops.v (Yv.load A23 rfl (now (hs89.cell 0 rfl 0 rfl))) ?_
                refine Ops.v (Yv.len (by rw [L23]; rfl) rfl) ?_
                refine Ops.v (Yv.move rfl) ?_
                refine Ops.nil ?_
                refine k91 _ _ ?_
                refine run_block ?_
                have hin : ∀ j : Int, 0 ≤ j → j < n → 0 ≤ ((4 * ((k : Int) / mW) * W + 4 * ((k : Int) % mW)) + (kk : Int) * 1) - n / 2 * W + j * W ∧ ((4 * ((k : Int) / mW) * W + 4 * ((k : Int) % mW)) + (kk : Int) * 1) - n / 2 * W + j * W < W * H := by
                  intro j hj0 hj1
                  have hp := place_in (W := W) (H := H) (r := 4 * ((k : Int) / mW) - n / 2 + j) (c := 4 * ((k : Int) % mW) + (kk : Int)) (by omega) (by omega) (by omega) (by omega)
                  have he : ((4 * ((k : Int) / mW) * W + 4 * ((k : Int) % mW)) + (kk : Int) * 1) - n / 2 * W + j * W = (4 * ((k : Int) / mW) - n / 2 + j) * W + (4 * ((k : Int) % mW) + (kk : Int)) := by rw [Int.add_mul, Int.sub_mul]; omega
                  rw [he]; exact hp
                obtain ⟨fi, hfi⟩ : ∃ x_ : Int, x_ = (((((4 : Int) * ((k : Int) / mW)) * W) + ((4 : Int) * ((k : Int) % mW))) + ((kk : Int) * 1)) - ((n / 2) * W) := ⟨_, rfl⟩
                rw [← hfi] at hin
                refine Run.sub [(0, _), (1, _), (2, _), (3, _), (4, _), (5, _), (6, _), (7, _), (12, _), (13, _), (14, _), (15, _), (16, _), (17, _), (18, _), (19, _), (20, _), (21, _), (22, _), (23, _), (24, _), (25, _), (26, _), (27, _), (44, _), (51, _), (61, _), (69, _), (70, _), (71, _), (72, _), (88, _), (129, _), (147, _), (148, _), (172, _), (173, _)] ⟨rfl, rfl, rfl, rfl, rfl, rfl, rfl, rfl, rfl, rfl, rfl, rfl, rfl, rfl, rfl, rfl, rfl, rfl, rfl, rfl, rfl, rfl, lookI rfl hfi.symm, rfl, rfl, rfl, rfl, rfl, rfl, rfl, rfl, rfl, rfl, rfl, rfl, rfl, rfl, trivial⟩ ?_
                refine run_loop (σ := Nat) (fun j e_ w_ => HS w [.blk b86 [.slice (some ⟨b84, 0, none⟩) n.toNat n.toNat, .int .i64 (n / 2)] 115, .row (some ⟨b84, 0, none⟩) n.toNat n.toNat (u8s (gathTo (cellStep (passTo false co W H mW tx ids qs (limitF lv sh) (edgeF lv sh) (thrF lv) xs k) (4 * ((k : Int) / mW) * W + 4 * ((k : Int) % mW)) 1 W n (limitF lv sh) (edgeF lv sh) (thrF lv) kk) fi W n.toNat j)) 5 1, .blk b35 [.int .i64 (limitF lv sh), .int .i64 (edgeF lv sh), .int .i64 (thrF lv)] 111, .row Ad23 m c24 (u8s (cellStep (passTo false co W H mW tx ids qs (limitF lv sh) (edgeF lv sh) (thrF lv) xs k) (4 * ((k : Int) / mW) * W + 4 * ((k : Int) % mW)) 1 W n (limitF lv sh) (edgeF lv sh) (thrF lv) kk)) 5 1, .blk b8 [.int .i64 0, .int .i64 0, .slice none 0 0] 28, .blk b5 [.int .i64 mW, .int .i64 mH, .slice At nt ct, .slice Ai ni ci, .slice Aq nq cq] 37, .blk b2 [.int .i64 W, .int .i64 H, .slice Ad23 m c24] 28] w_ ∧ e_ = [(0, .agg #[.int .i64 W, .int .i64 H, .slice A m c]), (1, .agg #[.int .i64 mW, .int .i64 mH, .slice At nt ct, .slice Ai ni ci, .slice Aq nq cq]), (2, .bool false), (3, .bool co), (4, .int .i64 lv), (5, .int .i64 sh), (6, .pointer (some ⟨b2, 0, none⟩)), (7, .pointer (some ⟨b5, 0, none⟩)), (12, .pointer (some ⟨b8, 0, none⟩)), (13, .int .i64 0), (14, .pointer (some ⟨b35, 0, none⟩)), (15, .int .i64 W), (16, .int .i64 1), (17, .int .i64 mW), (18, .int .i64 H), (19, .int .i64 (k : Int)), (20, .int .u8 (gi tx (k : Int))), (21, .int .i64 ((4 : Int) * ((k : Int) % mW))), (22, .int .i64 ((4 : Int) * ((k : Int) / mW))), (23, .int .i64 ((4 : Int) * ((k : Int) / mW))), (24, .int .i64 n), (25, .int .i64 (kk : Int)), (26, .int .i64 fi), (27, .pointer (some ⟨b86, 0, none⟩)), (44, .bool (decide (((¬ (mayP W H m mW mH tx nt ni nq)) ∨ (¬ ((0 : Int) ≤ lv ∧ lv ≤ 63))) ∨ (¬ ((0 : Int) ≤ sh ∧ sh ≤ 7))))), (51, .bool (decide (lv = (0 : Int)))), (61, .bool true), (69, .slice At nt ct), (70, .int .i64 (nt : Int)), (71, .int .i64 (k : Int)), (72, .bool (decide ((k : Int) < (nt : Int)))), (88, .bool true), (129, .bool (decide (((((4 : Int) * ((k : Int) / mW)) = (0 : Int)) ∨ ((((4 : Int) * ((k : Int) / mW)) % (gi tx (k : Int))) ≠ (0 : Int))) ∨ ((((gi ids (k : Int)) = (gi ids ((k : Int) - mW))) ∧ ((gb qs (k : Int)) = true)) ∧ ((gb qs ((k : Int) - mW)) = true))))), (147, .int .i64 (kk : Int)), (148, .bool (decide ((kk : Int) < (4 : Int)))), (172, .int .i64 (n.toNat : Int)), (173, .int .i64 (j : Int))] ∧ j ≤ n.toNat)
                  (fun j => n.toNat - j) 0 ?_ ?_
                · -- at the start
                  refine ⟨hs89, rfl, by omega⟩
                · -- a round
                  rintro j _ w92 ⟨hs92, rfl, f5⟩
                  have hlp := passTo_length false co W H mW tx ids qs (limitF lv sh) (edgeF lv sh) (thrF lv) xs k
                  have hlc := cellStep_length (passTo false co W H mW tx ids qs (limitF lv sh) (edgeF lv sh) (thrF lv) xs k) (4 * ((k : Int) / mW) * W + 4 * ((k : Int) % mW)) 1 W n (limitF lv sh) (edgeF lv sh) (thrF lv) kk
                  have hlg := gathTo_length (cellStep (passTo false co W H mW tx ids qs (limitF lv sh) (edgeF lv sh) (thrF lv) xs k) (4 * ((k : Int) / mW) * W + 4 * ((k : Int) % mW)) 1 W n (limitF lv sh) (edgeF lv sh) (thrF lv) kk) fi W n.toNat j
                  refine run_seq fun K93 k93 => ?_
                  refine run_region ?_
                  refine Ops.v (Yv.lt rfl rfl) ?_
                  refine Ops.nil ?_
                  refine k93 _ _ ?_
                  refine run_seq fun K94 k94 => ?_
                  refine run_ifp rfl (fun h95 => ?_) (fun h95 => ?_)
                  · -- yes (j : Int) < (n.toNat : Int)
                    refine run_skip ?_
                    refine k94 _ _ ?_
                    refine run_seq fun K96 k96 => ?_
                    refine run_block ?_
                    refine run_seq fun K97 k97 => ?_
                    refine run_region ?_
                    refine Ops.v (Yv.move rfl) ?_
                    refine Ops.v (Yv.assign rfl) ?_
                    refine Ops.nil ?_
                    refine k97 _ _ ?_
                    refine run_drawn [13] (fun x => Below (w92.drew).heap.size (w92.drew) x) ?_ Tf.mixed (by kernel_rfl) (fun _ _ _ h => h)
                    have hs98 := hs92.drew
                    have hS99 := Below.refl (w92.drew).heap.size (w92.drew)
                    refine Drw.a 0 rfl (by kernel_rfl) (Yv.fld F115_0 rfl) ?_
                    refine Drw.l 1 rfl (by kernel_rfl) hS99 (Yv.load A23 rfl (fun _ hq_ => ((hs98.grow hq_).cell 0 rfl 0 rfl))) ?_
                    refine Drw.a 2 rfl (by kernel_rfl) (Yv.move rfl) ?_
                    refine Drw.a 3 rfl (by kernel_rfl) (Yv.fld F28_2 rfl) ?_
                    refine Drw.l 4 rfl (by kernel_rfl) hS99 (Yv.load A23 rfl (fun _ hq_ => ((hs98.grow hq_).cell 6 rfl 2 rfl))) ?_
                    refine Drw.a 5 rfl (by kernel_rfl) (Yv.move rfl) ?_
                    refine Drw.a 6 rfl (by kernel_rfl) (Yv.move rfl) ?_
                    refine Drw.a 7 rfl (by kernel_rfl) (Yv.move rfl) ?_
                    have hmj := mul_bd (a := (j : Int)) (b := W) (x := 14) (y := 512) (by omega) (by omega) (by omega) (by omega)
                    refine Drw.a 8 rfl (by kernel_rfl) (Yv.mul rfl rfl (by omega)) ?_
                    have hin2 := hin (j : Int) (by omega) (by omega)
                    refine Drw.a 9 rfl (by kernel_rfl) (Yv.add rfl rfl (by omega)) ?_
                    refine Drw.a 10 rfl (by kernel_rfl) (Yv.idx L23 rfl rfl ((hs98.rdRow 3 rfl).isSome (i := fi + ((j : Int) * W)) (by omega) (by omega)) (by omega) (by omega)) ?_
                    refine Drw.l 11 rfl (by kernel_rfl) hS99 (Yv.load A5 rfl (fun _ hq_ => (((hs98.grow hq_).rdRow 3 rfl).u8 (by omega) (by omega)))) ?_
                    have g100 := gi_bytes (xs := cellStep (passTo false co W H mW tx ids qs (limitF lv sh) (edgeF lv sh) (thrF lv) xs k) (4 * ((k : Int) / mW) * W + 4 * ((k : Int) % mW)) 1 W n (limitF lv sh) (edgeF lv sh) (thrF lv) kk) (cellStep_bytes (passTo_bytes false co W H mW tx ids qs (limitF lv sh) (edgeF lv sh) (thrF lv) hx k) _ _ _ _ _ _ _ kk) (fi + ((j : Int) * W))
                    refine Drw.a 12 rfl (by kernel_rfl) (Yv.idx L23 rfl rfl ((hs98.rdRow 1 rfl).isSome (i := (j : Int)) (by omega) (by omega)) (by omega) (by omega)) ?_
                    refine Drw.one 13 rfl (by kernel_rfl) (Step.storeRow (vs := [.int .u8 (gi (cellStep (passTo false co W H mW tx ids qs (limitF lv sh) (edgeF lv sh) (thrF lv) xs k) (4 * ((k : Int) / mW) * W + 4 * ((k : Int) % mW)) 1 W n (limitF lv sh) (edgeF lv sh) (thrF lv) kk) (fi + ((j : Int) * W)))]) 1 hs98 rfl rfl rfl rfl S5 (by have hl_ := (hs98.rdRow 1 rfl).len; show ((j : Int)).toNat * 1 + 1 ≤ _; omega) (Nat.succ_pos _) rfl (fun w101 hs101 => ?_) True.intro)
                    refine ⟨fun h => absurd h (by decide), ?_⟩
                    have hs101_ := u8s_put (xs := gathTo (cellStep (passTo false co W H mW tx ids qs (limitF lv sh) (edgeF lv sh) (thrF lv) xs k) (4 * ((k : Int) / mW) * W + 4 * ((k : Int) % mW)) 1 W n (limitF lv sh) (edgeF lv sh) (thrF lv) kk) fi W n.toNat j) (i := ((j : Int)).toNat * 1) (v := gi (cellStep (passTo false co W H mW tx ids qs (limitF lv sh) (edgeF lv sh) (thrF lv) xs k) (4 * ((k : Int) / mW) * W + 4 * ((k : Int) % mW)) 1 W n (limitF lv sh) (edgeF lv sh) (thrF lv) kk) (fi + ((j : Int) * W))) (by have hl_ := (hs98.rdRow 1 rfl).len; rw [u8s_length] at hl_; omega)
                    simp only [Nat.mul_one] at hs101_
                    replace hs101 : HS w [.blk b86 [.slice (some ⟨b84, 0, none⟩) n.toNat n.toNat, .int .i64 (n / 2)] 115, .row (some ⟨b84, 0, none⟩) n.toNat n.toNat (u8s ((gathTo (cellStep (passTo false co W H mW tx ids qs (limitF lv sh) (edgeF lv sh) (thrF lv) xs k) (4 * ((k : Int) / mW) * W + 4 * ((k : Int) % mW)) 1 W n (limitF lv sh) (edgeF lv sh) (thrF lv) kk) fi W n.toNat j).set (((j : Int)).toNat) (gi (cellStep (passTo false co W H mW tx ids qs (limitF lv sh) (edgeF lv sh) (thrF lv) xs k) (4 * ((k : Int) / mW) * W + 4 * ((k : Int) % mW)) 1 W n (limitF lv sh) (edgeF lv sh) (thrF lv) kk) (fi + ((j : Int) * W))))) 5 1, .blk b35 [.int .i64 (limitF lv sh), .int .i64 (edgeF lv sh), .int .i64 (thrF lv)] 111, .row Ad23 m c24 (u8s (cellStep (passTo false co W H mW tx ids qs (limitF lv sh) (edgeF lv sh) (thrF lv) xs k) (4 * ((k : Int) / mW) * W + 4 * ((k : Int) % mW)) 1 W n (limitF lv sh) (edgeF lv sh) (thrF lv) kk)) 5 1, .blk b8 [.int .i64 0, .int .i64 0, .slice none 0 0] 28, .blk b5 [.int .i64 mW, .int .i64 mH, .slice At nt ct, .slice Ai ni ci, .slice Aq nq cq] 37, .blk b2 [.int .i64 W, .int .i64 H, .slice Ad23 m c24] 28] w101 := by simpa only [List.set, Nat.mul_one, hs101_] using hs101
                    refine Drw.done ?_ (by kernel_rfl)
                    refine k96 _ _ ?_
                    refine run_region ?_
                    refine Ops.v (Yv.add rfl rfl (by omega)) ?_
                    refine Ops.v (Yv.move rfl) ?_
                    refine Ops.nil ?_
                    refine ⟨j + 1, _, ⟨hs101, rfl, by omega⟩, Sub.le ⟨rfl, rfl, rfl, rfl, rfl, rfl, rfl, rfl, rfl, rfl, rfl, rfl, rfl, rfl, rfl, rfl, rfl, rfl, rfl, rfl, rfl, rfl, rfl, rfl, rfl, rfl, rfl, rfl, rfl, rfl, rfl, rfl, rfl, rfl, rfl, rfl, lookI rfl (by omega), trivial⟩, by omega⟩
                  · -- no
                    refine run_exit ?_
                    have hj : j = n.toNat := by omega
                    refine k90 _ _ ?_
                    refine run_seq fun K102 k102 => ?_
                    refine run_region ?_
                    refine Ops.v (Yv.loadn (cs := [.slice (some ⟨b84, 0, none⟩) n.toNat n.toNat, .int .i64 (n / 2)]) A115 S115 rfl (now (hs92.cells 0 rfl 0 2))) ?_
                    refine Ops.v (Yv.loadn (cs := [.int .i64 (limitF lv sh), .int .i64 (edgeF lv sh), .int .i64 (thrF lv)]) A111 S111 rfl (now (hs92.cells 2 rfl 0 3))) ?_
                    refine Ops.s (Step.call rfl rfl (filter_fun2 (hs92.rdRow 1 rfl) (gathTo_bytes (cellStep_bytes (passTo_bytes false co W H mW tx ids qs (limitF lv sh) (edgeF lv sh) (thrF lv) hx k) _ _ _ _ _ _ _ kk) _ _ _ _) (by omega) (by omega)) (?_) True.intro (by rfl))
                    rintro _ w106 ⟨Ad103, c104, rfl, hs106⟩
                    replace hs106 := hs92.call hs106
                    refine Ops.v (Yv.len (by rw [L23]; rfl) rfl) ?_
                    refine Ops.v (Yv.move rfl) ?_
                    refine Ops.nil ?_
                    refine k102 _ _ ?_
                    refine run_block ?_
                    refine Run.sub [(0, _), (1, _), (2, _), (3, _), (4, _), (5, _), (6, _), (7, _), (12, _), (13, _), (14, _), (15, _), (16, _), (17, _), (18, _), (19, _), (20, _), (21, _), (22, _), (23, _), (24, _), (25, _), (26, _), (27, _), (44, _), (51, _), (61, _), (69, _), (70, _), (71, _), (72, _), (88, _), (129, _), (147, _), (148, _), (172, _), (173, _), (174, _), (192, _), (193, _), (194, _)] ⟨rfl, rfl, rfl, rfl, rfl, rfl, rfl, rfl, rfl, rfl, rfl, rfl, rfl, rfl, rfl, rfl, rfl, rfl, rfl, rfl, rfl, rfl, rfl, rfl, rfl, rfl, rfl, rfl, rfl, rfl, rfl, rfl, rfl, rfl, rfl, rfl, rfl, rfl, rfl, rfl, rfl, trivial⟩ ?_
                    refine run_loop (σ := Nat) (fun q e_ w_ => HS w [.row Ad103 n.toNat c104 (u8s (filterF (gathTo (cellStep (passTo false co W H mW tx ids qs (limitF lv sh) (edgeF lv sh) (thrF lv) xs k) (4 * ((k : Int) / mW) * W + 4 * ((k : Int) % mW)) 1 W n (limitF lv sh) (edgeF lv sh) (thrF lv) kk) fi W n.toNat n.toNat) (n / 2) (limitF lv sh) (edgeF lv sh) (thrF lv))) 5 1, .blk b86 [.slice (some ⟨b84, 0, none⟩) n.toNat n.toNat, .int .i64 (n / 2)] 115, .row (some ⟨b84, 0, none⟩) n.toNat n.toNat (u8s (gathTo (cellStep (passTo false co W H mW tx ids qs (limitF lv sh) (edgeF lv sh) (thrF lv) xs k) (4 * ((k : Int) / mW) * W + 4 * ((k : Int) % mW)) 1 W n (limitF lv sh) (edgeF lv sh) (thrF lv) kk) fi W n.toNat n.toNat)) 5 1, .blk b35 [.int .i64 (limitF lv sh), .int .i64 (edgeF lv sh), .int .i64 (thrF lv)] 111, .row Ad23 m c24 (u8s (scatTo (filterF (gathTo (cellStep (passTo false co W H mW tx ids qs (limitF lv sh) (edgeF lv sh) (thrF lv) xs k) (4 * ((k : Int) / mW) * W + 4 * ((k : Int) % mW)) 1 W n (limitF lv sh) (edgeF lv sh) (thrF lv) kk) fi W n.toNat n.toNat) (n / 2) (limitF lv sh) (edgeF lv sh) (thrF lv)) (cellStep (passTo false co W H mW tx ids qs (limitF lv sh) (edgeF lv sh) (thrF lv) xs k) (4 * ((k : Int) / mW) * W + 4 * ((k : Int) % mW)) 1 W n (limitF lv sh) (edgeF lv sh) (thrF lv) kk) fi W q)) 5 1, .blk b8 [.int .i64 0, .int .i64 0, .slice none 0 0] 28, .blk b5 [.int .i64 mW, .int .i64 mH, .slice At nt ct, .slice Ai ni ci, .slice Aq nq cq] 37, .blk b2 [.int .i64 W, .int .i64 H, .slice Ad23 m c24] 28] w_ ∧ e_ = [(0, .agg #[.int .i64 W, .int .i64 H, .slice A m c]), (1, .agg #[.int .i64 mW, .int .i64 mH, .slice At nt ct, .slice Ai ni ci, .slice Aq nq cq]), (2, .bool false), (3, .bool co), (4, .int .i64 lv), (5, .int .i64 sh), (6, .pointer (some ⟨b2, 0, none⟩)), (7, .pointer (some ⟨b5, 0, none⟩)), (12, .pointer (some ⟨b8, 0, none⟩)), (13, .int .i64 0), (14, .pointer (some ⟨b35, 0, none⟩)), (15, .int .i64 W), (16, .int .i64 1), (17, .int .i64 mW), (18, .int .i64 H), (19, .int .i64 (k : Int)), (20, .int .u8 (gi tx (k : Int))), (21, .int .i64 ((4 : Int) * ((k : Int) % mW))), (22, .int .i64 ((4 : Int) * ((k : Int) / mW))), (23, .int .i64 ((4 : Int) * ((k : Int) / mW))), (24, .int .i64 n), (25, .int .i64 (kk : Int)), (26, .int .i64 fi), (27, .pointer (some ⟨b86, 0, none⟩)), (44, .bool (decide (((¬ (mayP W H m mW mH tx nt ni nq)) ∨ (¬ ((0 : Int) ≤ lv ∧ lv ≤ 63))) ∨ (¬ ((0 : Int) ≤ sh ∧ sh ≤ 7))))), (51, .bool (decide (lv = (0 : Int)))), (61, .bool true), (69, .slice At nt ct), (70, .int .i64 (nt : Int)), (71, .int .i64 (k : Int)), (72, .bool (decide ((k : Int) < (nt : Int)))), (88, .bool true), (129, .bool (decide (((((4 : Int) * ((k : Int) / mW)) = (0 : Int)) ∨ ((((4 : Int) * ((k : Int) / mW)) % (gi tx (k : Int))) ≠ (0 : Int))) ∨ ((((gi ids (k : Int)) = (gi ids ((k : Int) - mW))) ∧ ((gb qs (k : Int)) = true)) ∧ ((gb qs ((k : Int) - mW)) = true))))), (147, .int .i64 (kk : Int)), (148, .bool (decide ((kk : Int) < (4 : Int)))), (172, .int .i64 (n.toNat : Int)), (173, .int .i64 (j : Int)), (174, .bool (decide ((j : Int) < (n.toNat : Int)))), (192, .slice Ad103 n.toNat c104), (193, .int .i64 (n.toNat : Int)), (194, .int .i64 (q : Int))] ∧ q ≤ n.toNat)
                      (fun q => n.toNat - q) 0 ?_ ?_
                    · -- at the start
                      refine ⟨(hs106.to (by rw [hj]; rfl)), rfl, by omega⟩
                    · -- a round
                      rintro q _ w107 ⟨hs107, rfl, f6⟩
                      have hlp := passTo_length false co W H mW tx ids qs (limitF lv sh) (edgeF lv sh) (thrF lv) xs k
                      have hlc := cellStep_length (passTo false co W H mW tx ids qs (limitF lv sh) (edgeF lv sh) (thrF lv) xs k) (4 * ((k : Int) / mW) * W + 4 * ((k : Int) % mW)) 1 W n (limitF lv sh) (edgeF lv sh) (thrF lv) kk
                      have hls := scatTo_length (filterF (gathTo (cellStep (passTo false co W H mW tx ids qs (limitF lv sh) (edgeF lv sh) (thrF lv) xs k) (4 * ((k : Int) / mW) * W + 4 * ((k : Int) % mW)) 1 W n (limitF lv sh) (edgeF lv sh) (thrF lv) kk) fi W n.toNat n.toNat) (n / 2) (limitF lv sh) (edgeF lv sh) (thrF lv)) (cellStep (passTo false co W H mW tx ids qs (limitF lv sh) (edgeF lv sh) (thrF lv) xs k) (4 * ((k : Int) / mW) * W + 4 * ((k : Int) % mW)) 1 W n (limitF lv sh) (edgeF lv sh) (thrF lv) kk) fi W q
                      refine run_seq fun K108 k108 => ?_
                      refine run_region ?_
                      refine Ops.v (Yv.lt rfl rfl) ?_
                      refine Ops.nil ?_
                      refine k108 _ _ ?_
                      refine run_seq fun K109 k109 => ?_
                      refine run_ifp rfl (fun h110 => ?_) (fun h110 => ?_)
                      · -- yes (q : Int) < (n.toNat : Int)
                        refine run_skip ?_
                        refine k109 _ _ ?_
                        refine run_seq fun K111 k111 => ?_
                        refine run_block ?_
                        refine run_seq fun K112 k112 => ?_
                        refine run_region ?_
                        refine Ops.v (Yv.move rfl) ?_
                        refine Ops.v (Yv.idx L23 rfl rfl ((hs107.rdRow 0 rfl).isSome (i := (q : Int)) (by omega) (by omega)) (by omega) (by omega)) ?_
                        refine Ops.v (Yv.load A5 rfl (now ((hs107.rdRow 0 rfl).u8 (by omega) (by omega)))) ?_
                        have g113 := gi_bytes (xs := filterF (gathTo (cellStep (passTo false co W H mW tx ids qs (limitF lv sh) (edgeF lv sh) (thrF lv) xs k) (4 * ((k : Int) / mW) * W + 4 * ((k : Int) % mW)) 1 W n (limitF lv sh) (edgeF lv sh) (thrF lv) kk) fi W n.toNat n.toNat) (n / 2) (limitF lv sh) (edgeF lv sh) (thrF lv)) (filterF_bytes (gathTo_bytes (cellStep_bytes (passTo_bytes false co W H mW tx ids qs (limitF lv sh) (edgeF lv sh) (thrF lv) hx k) _ _ _ _ _ _ _ kk) _ _ _ _) _ _ _ _) (q : Int)
                        refine Ops.v (Yv.assign rfl) ?_
                        refine Ops.v (Yv.assign rfl) ?_
                        have g113 := gi_bytes (xs := filterF (gathTo (cellStep (passTo false co W H mW tx ids qs (limitF lv sh) (edgeF lv sh) (thrF lv) xs k) (4 * ((k : Int) / mW) * W + 4 * ((k : Int) % mW)) 1 W n (limitF lv sh) (edgeF lv sh) (thrF lv) kk) fi W n.toNat n.toNat) (n / 2) (limitF lv sh) (edgeF lv sh) (thrF lv)) (filterF_bytes (gathTo_bytes (cellStep_bytes (passTo_bytes false co W H mW tx ids qs (limitF lv sh) (edgeF lv sh) (thrF lv) hx k) _ _ _ _ _ _ _ kk) _ _ _ _) _ _ _ _) (q : Int)
                        refine Ops.nil ?_
                        refine k112 _ _ ?_
                        refine run_region ?_
                        refine Ops.v (Yv.fld F28_2 rfl) ?_
                        refine Ops.v (Yv.load A23 rfl (now (hs107.cell 7 rfl 2 rfl))) ?_
                        refine Ops.v (Yv.move rfl) ?_
                        refine Ops.v (Yv.move rfl) ?_
                        refine Ops.v (Yv.move rfl) ?_
                        have hmq := mul_bd (a := (q : Int)) (b := W) (x := 14) (y := 512) (by omega) (by omega) (by omega) (by omega)
                        refine Ops.v (Yv.mul rfl rfl (by omega)) ?_
                        have hin3 := hin (q : Int) (by omega) (by omega)
                        refine Ops.v (Yv.add rfl rfl (by omega)) ?_
                        refine Ops.v (Yv.move rfl) ?_
                        have g113 := gi_bytes (xs := filterF (gathTo (cellStep (passTo false co W H mW tx ids qs (limitF lv sh) (edgeF lv sh) (thrF lv) xs k) (4 * ((k : Int) / mW) * W + 4 * ((k : Int) % mW)) 1 W n (limitF lv sh) (edgeF lv sh) (thrF lv) kk) fi W n.toNat n.toNat) (n / 2) (limitF lv sh) (edgeF lv sh) (thrF lv)) (filterF_bytes (gathTo_bytes (cellStep_bytes (passTo_bytes false co W H mW tx ids qs (limitF lv sh) (edgeF lv sh) (thrF lv) hx k) _ _ _ _ _ _ _ kk) _ _ _ _) _ _ _ _) (q : Int)
                        refine Ops.v (Yv.idx L23 rfl rfl ((hs107.rdRow 4 rfl).isSome (i := fi + ((q : Int) * W)) (by omega) (by omega)) (by omega) (by omega)) ?_
                        refine Ops.s (Step.storeRow (vs := [.int .u8 (gi (filterF (gathTo (cellStep (passTo false co W H mW tx ids qs (limitF lv sh) (edgeF lv sh) (thrF lv) xs k) (4 * ((k : Int) / mW) * W + 4 * ((k : Int) % mW)) 1 W n (limitF lv sh) (edgeF lv sh) (thrF lv) kk) fi W n.toNat n.toNat) (n / 2) (limitF lv sh) (edgeF lv sh) (thrF lv)) (q : Int))]) 4 hs107 rfl rfl rfl rfl S5 (by have hl_ := (hs107.rdRow 4 rfl).len; show (fi + ((q : Int) * W)).toNat * 1 + 1 ≤ _; omega) (Nat.succ_pos _) rfl (fun w114 hs114 => ?_) True.intro)
                        have hs114_ := u8s_put (xs := scatTo (filterF (gathTo (cellStep (passTo false co W H mW tx ids qs (limitF lv sh) (edgeF lv sh) (thrF lv) xs k) (4 * ((k : Int) / mW) * W + 4 * ((k : Int) % mW)) 1 W n (limitF lv sh) (edgeF lv sh) (thrF lv) kk) fi W n.toNat n.toNat) (n / 2) (limitF lv sh) (edgeF lv sh) (thrF lv)) (cellStep (passTo false co W H mW tx ids qs (limitF lv sh) (edgeF lv sh) (thrF lv) xs k) (4 * ((k : Int) / mW) * W + 4 * ((k : Int) % mW)) 1 W n (limitF lv sh) (edgeF lv sh) (thrF lv) kk) fi W q) (i := (fi + ((q : Int) * W)).toNat * 1) (v := gi (filterF (gathTo (cellStep (passTo false co W H mW tx ids qs (limitF lv sh) (edgeF lv sh) (thrF lv) xs k) (4 * ((k : Int) / mW) * W + 4 * ((k : Int) % mW)) 1 W n (limitF lv sh) (edgeF lv sh) (thrF lv) kk) fi W n.toNat n.toNat) (n / 2) (limitF lv sh) (edgeF lv sh) (thrF lv)) (q : Int)) (by have hl_ := (hs107.rdRow 4 rfl).len; rw [u8s_length] at hl_; omega)
                        simp only [Nat.mul_one] at hs114_
                        replace hs114 : HS w [.row Ad103 n.toNat c104 (u8s (filterF (gathTo (cellStep (passTo false co W H mW tx ids qs (limitF lv sh) (edgeF lv sh) (thrF lv) xs k) (4 * ((k : Int) / mW) * W + 4 * ((k : Int) % mW)) 1 W n (limitF lv sh) (edgeF lv sh) (thrF lv) kk) fi W n.toNat n.toNat) (n / 2) (limitF lv sh) (edgeF lv sh) (thrF lv))) 5 1, .blk b86 [.slice (some ⟨b84, 0, none⟩) n.toNat n.toNat, .int .i64 (n / 2)] 115, .row (some ⟨b84, 0, none⟩) n.toNat n.toNat (u8s (gathTo (cellStep (passTo false co W H mW tx ids qs (limitF lv sh) (edgeF lv sh) (thrF lv) xs k) (4 * ((k : Int) / mW) * W + 4 * ((k : Int) % mW)) 1 W n (limitF lv sh) (edgeF lv sh) (thrF lv) kk) fi W n.toNat n.toNat)) 5 1, .blk b35 [.int .i64 (limitF lv sh), .int .i64 (edgeF lv sh), .int .i64 (thrF lv)] 111, .row Ad23 m c24 (u8s ((scatTo (filterF (gathTo (cellStep (passTo false co W H mW tx ids qs (limitF lv sh) (edgeF lv sh) (thrF lv) xs k) (4 * ((k : Int) / mW) * W + 4 * ((k : Int) % mW)) 1 W n (limitF lv sh) (edgeF lv sh) (thrF lv) kk) fi W n.toNat n.toNat) (n / 2) (limitF lv sh) (edgeF lv sh) (thrF lv)) (cellStep (passTo false co W H mW tx ids qs (limitF lv sh) (edgeF lv sh) (thrF lv) xs k) (4 * ((k : Int) / mW) * W + 4 * ((k : Int) % mW)) 1 W n (limitF lv sh) (edgeF lv sh) (thrF lv) kk) fi W q).set ((fi + ((q : Int) * W)).toNat) (gi (filterF (gathTo (cellStep (passTo false co W H mW tx ids qs (limitF lv sh) (edgeF lv sh) (thrF lv) xs k) (4 * ((k : Int) / mW) * W + 4 * ((k : Int) % mW)) 1 W n (limitF lv sh) (edgeF lv sh) (thrF lv) kk) fi W n.toNat n.toNat) (n / 2) (limitF lv sh) (edgeF lv sh) (thrF lv)) (q : Int)))) 5 1, .blk b8 [.int .i64 0, .int .i64 0, .slice none 0 0] 28, .blk b5 [.int .i64 mW, .int .i64 mH, .slice At nt ct, .slice Ai ni ci, .slice Aq nq cq] 37, .blk b2 [.int .i64 W, .int .i64 H, .slice Ad23 m c24] 28] w114 := by simpa only [List.set, Nat.mul_one, hs114_] using hs114
                        refine Ops.nil ?_
                        refine k111 _ _ ?_
                        refine run_region ?_
                        refine Ops.v (Yv.add rfl rfl (by omega)) ?_
                        refine Ops.v (Yv.move rfl) ?_
                        refine Ops.nil ?_
                        refine ⟨q + 1, _, ⟨hs114, rfl, by omega⟩, Sub.le ⟨rfl, rfl, rfl, rfl, rfl, rfl, rfl, rfl, rfl, rfl, rfl, rfl, rfl, rfl, rfl, rfl, rfl, rfl, rfl, rfl, rfl, rfl, rfl, rfl, rfl, rfl, rfl, rfl, rfl, rfl, rfl, rfl, rfl, rfl, rfl, rfl, rfl, rfl, rfl, rfl, lookI rfl (by omega), trivial⟩, by omega⟩
                      · -- no
                        refine run_exit ?_
                        have hq : q = n.toNat := by omega
                        refine k79 _ _ ?_
                        refine run_region ?_
                        refine Ops.v (Yv.add rfl rfl (by omega)) ?_
                        refine Ops.v (Yv.move rfl) ?_
                        refine Ops.nil ?_
                        refine ⟨kk + 1, _, ⟨((hs107.pick [3, 4, 5, 6, 7] [.blk b35 [.int .i64 (limitF lv sh), .int .i64 (edgeF lv sh), .int .i64 (thrF lv)] 111, .row Ad23 m c24 (u8s (scatTo (filterF (gathTo (cellStep (passTo false co W H mW tx ids qs (limitF lv sh) (edgeF lv sh) (thrF lv) xs k) (4 * ((k : Int) / mW) * W + 4 * ((k : Int) % mW)) 1 W n (limitF lv sh) (edgeF lv sh) (thrF lv) kk) fi W n.toNat n.toNat) (n / 2) (limitF lv sh) (edgeF lv sh) (thrF lv)) (cellStep (passTo false co W H mW tx ids qs (limitF lv sh) (edgeF lv sh) (thrF lv) xs k) (4 * ((k : Int) / mW) * W + 4 * ((k : Int) % mW)) 1 W n (limitF lv sh) (edgeF lv sh) (thrF lv) kk) fi W q)) 5 1, .blk b8 [.int .i64 0, .int .i64 0, .slice none 0 0] 28, .blk b5 [.int .i64 mW, .int .i64 mH, .slice At nt ct, .slice Ai ni ci, .slice Aq nq cq] 37, .blk b2 [.int .i64 W, .int .i64 H, .slice Ad23 m c24] 28] (by decide) rfl).to (by subst hq hfi; rfl)), rfl, by omega⟩, Sub.le ⟨rfl, rfl, rfl, rfl, rfl, rfl, rfl, rfl, rfl, rfl, rfl, rfl, rfl, rfl, rfl, rfl, rfl, rfl, rfl, rfl, rfl, rfl, rfl, rfl, rfl, rfl, rfl, rfl, rfl, rfl, lookI rfl (by omega), trivial⟩, by omega⟩
              · -- no
                refine run_exit ?_
                have hkk : kk = 4 := by omega
                subst hkk
                refine k52 _ _ ?_
                refine run_region ?_
                refine Ops.v (Yv.add rfl rfl (by omega)) ?_
                refine Ops.v (Yv.move rfl) ?_
                refine Ops.nil ?_
                refine ⟨k + 1, _, ⟨(hs75.to (by rw [passTo_go (up := false) h70]; subst hn; rfl)), rfl, by omega⟩, Sub.le ⟨rfl, rfl, rfl, rfl, rfl, rfl, rfl, rfl, rfl, rfl, rfl, rfl, rfl, rfl, rfl, rfl, rfl, rfl, rfl, rfl, lookI rfl (by omega), trivial⟩, by omega⟩
        · -- no
          refine run_exit ?_
          refine k46 _ _ ?_
          refine run_seq fun K115 k115 => ?_
          refine run_region ?_
          refine Ops.v (Yv.loadn (cs := [.int .i64 W, .int .i64 H, .slice Ad23 m c24]) A28 S28 rfl (now (hs48.cells 4 rfl 0 3))) ?_
          refine Ops.s (Step.store (vs := [.int .i64 W, .int .i64 H, .slice Ad23 m c24]) 2 hs48 rfl rfl rfl rfl S28 (Nat.le_of_ble_eq_true rfl) rfl (fun w116 hs116 => ?_) True.intro)
          replace hs116 : HS _ [.blk _ [_, _, _] _, .row _ _ _ _ _ _, .blk _ [_, _, _] _, .blk _ [_, _, _, _, _] _, .blk _ [_, _, _] _] _ := hs116
          refine Ops.v (Yv.assign rfl) ?_
          refine Ops.nil ?_
          refine k115 _ _ ?_
          refine run_ret ?_
          refine ⟨[.agg #[.int .i64 W, .int .i64 H, .slice Ad23 m c24], .int .i64 0], ⟨_, _, _, rfl, rfl, run_loadn (cs := [.int .i64 W, .int .i64 H, .slice Ad23 m c24]) A28 S28 (hs116.cells 2 rfl 0 3), ⟨_, _, rfl, rfl, rfl⟩⟩, ?_⟩
          refine ⟨_, _, _, pass_tup (if_neg h19).symm (if_neg h19).symm (if_neg h19).symm, ?_⟩
          have hz := hs116.pick [1] [.row Ad23 m c24 (u8s (passTo false co W H mW tx ids qs (limitF lv sh) (edgeF lv sh) (thrF lv) xs k)) 5 1] (by decide) rfl
          have hk : k = tx.length := by omega
          exact hz.to (by rw [if_neg h19, passF, if_neg h30, hk])

theorem pass_fun {w : World} {W H : Int} {A : Option Addr} {m c : Nat} {xs : List Int} (hr : Rd w A m 1 (u8s xs)) (hx : Bytes xs) {mW mH : Int} {At Ai Aq : Option Addr} {nt ni nq ct ci cq : Nat} {tx ids : List Int} {qs : List Bool} (ht : Rd w At nt 1 (u8s tx)) (htx : Bytes tx) (hi : Rd w Ai ni 1 (i64s ids)) (hq : Rd w Aq nq 1 (bools qs)) {up co : Bool} {lv sh : Int} : Fun Try.prog 17 [.agg #[.int .i64 W, .int .i64 H, .slice A m c], .agg #[.int .i64 mW, .int .i64 mH, .slice At nt ct, .slice Ai ni ci, .slice Aq nq cq], .bool up, .bool co, .int .i64 lv, .int .i64 sh] w fun v w' => ∃ A' m' c', v = .tuple #[.agg #[.int .i64 (if passBad W H m mW mH tx nt ni nq lv sh then 0 else W), .int .i64 (if passBad W H m mW mH tx nt ni nq lv sh then 0 else H), .slice A' m' c'], .int .i64 (if passBad W H m mW mH tx nt ni nq lv sh then 2 else 0)] ∧ HS w [.row A' m' c' (u8s (if passBad W H m mW mH tx nt ni nq lv sh then [] else passF up co W H mW tx ids qs lv sh xs)) 5 1] w' := by
  cases up
  · exact pass_lie hr hx ht htx hi hq
  · exact pass_up hr hx ht htx hi hq

theorem pass_good {w : World} {W H : Int} {A : Option Addr} {m c : Nat} {xs : List Int} (hr : Rd w A m 1 (u8s xs)) (hx : Bytes xs) {mW mH : Int} {At Ai Aq : Option Addr} {nt ni nq ct ci cq : Nat} {tx ids : List Int} {qs : List Bool} (ht : Rd w At nt 1 (u8s tx)) (htx : Bytes tx) (hi : Rd w Ai ni 1 (i64s ids)) (hq : Rd w Aq nq 1 (bools qs)) {up co : Bool} {lv sh : Int} (h : ¬ passBad W H m mW mH tx nt ni nq lv sh) : Fun Try.prog 17 [.agg #[.int .i64 W, .int .i64 H, .slice A m c], .agg #[.int .i64 mW, .int .i64 mH, .slice At nt ct, .slice Ai ni ci, .slice Aq nq cq], .bool up, .bool co, .int .i64 lv, .int .i64 sh] w fun v w' => ∃ A' c', v = .tuple #[.agg #[.int .i64 W, .int .i64 H, .slice A' m c'], .int .i64 0] ∧ HS w [.row A' m c' (u8s (passF up co W H mW tx ids qs lv sh xs)) 5 1] w' :=
  (pass_fun hr hx ht htx hi hq).mono fun v w' ⟨A', m', c', hv, hs⟩ => by
    rw [if_neg h, if_neg h, if_neg h] at hv
    rw [if_neg h] at hs
    have hm : m' = m := by
      have h1 := (hs.rdRow 0 rfl).len
      have h2 := hr.len
      rw [u8s_length, passF_length] at h1
      rw [u8s_length] at h2
      omega
    subst hm
    exact ⟨A', c', hv, hs⟩

end Go.Proofs.Zed
