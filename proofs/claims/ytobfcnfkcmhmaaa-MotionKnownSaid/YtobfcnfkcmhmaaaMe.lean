/- The walks of the reference's blends, and of what the statements use themselves (chapter 15). -/
import Derived.Test.YtobfcnfkcmhmaaaMd
set_option linter.unusedVariables false
set_option linter.unusedSimpArgs false
namespace Go.Proofs.Zed
open Go Go.RowKit Tf
attribute [local irreducible] Try.prog

theorem rblend_fun {w0 w : World} {H : List Ent} {A : Option Addr} {m c : Nat} {xs : List Int} {q k o : Int} (hs0 : HS w0 (.row A m c (u8s xs) 5 1 :: H) w) (hx : Bytes xs) (hq : 0 ≤ q ∧ q < m) (hk : 0 ≤ k ∧ k ≤ 64) (ho : 0 ≤ o ∧ o ≤ 255) : Fun Try.prog 47 [.slice A m c, .int .i64 q, .int .i64 k, .int .u8 o] w fun v w' => v = .tuple #[] ∧ HS w0 (.row A m c (u8s (xs.set q.toNat ((k * gi xs q + (64 - k) * o + 32) / 64))) 5 1 :: H) w' := by
  refine fun_run (m := 27) (rs := []) Try.func47 rfl rfl rfl rfl rfl ?_
  have hgq := gi_bytes hx q
  have hp1 := mul_bd (a := k) (b := gi xs q) (x := 64) (y := 255) (by omega) (by omega) (by omega) (by omega)
  have hp2 := mul_bd (a := 64 - k) (b := o) (x := 64) (y := 255) (by omega) (by omega) (by omega) (by omega)
  have hmx := mix_bd (k := k) (a := gi xs q) (b := o) hk hgq ho
  refine run_region ?_
  refine Ops.v (Yv.move rfl) ?_
  refine Ops.v (Yv.move rfl) ?_
  refine Ops.v (Yv.move rfl) ?_
  refine Ops.v (Yv.move rfl) ?_
  refine Ops.v (Yv.move rfl) ?_
  refine Ops.v (Yv.idx L22 rfl rfl ((hs0.rdRow 0 rfl).isSome (i := q) (by omega) (by omega)) (by omega) (by omega)) ?_
  refine Ops.v (Yv.load A5 rfl (now ((hs0.rdRow 0 rfl).u8 (by omega) (by omega)))) ?_
  have g1 := gi_bytes (xs := xs) hx q
  refine Ops.v (Yv.toInt U3 V5 rfl (by omega)) ?_
  refine Ops.v (Yv.mul rfl rfl (by omega)) ?_
  refine Ops.v (Yv.move rfl) ?_
  refine Ops.v (Yv.sub rfl rfl (by omega)) ?_
  refine Ops.v (Yv.move rfl) ?_
  refine Ops.v (Yv.toInt U3 V5 rfl (by omega)) ?_
  refine Ops.v (Yv.mul rfl rfl (by omega)) ?_
  refine Ops.v (Yv.add rfl rfl (by omega)) ?_
  refine Ops.v (Yv.add rfl rfl (by omega)) ?_
  refine Ops.v (Yv.quo rfl rfl (by omega) (by omega) (by omega)) ?_
  refine Ops.v (Yv.toByte U5 V3 rfl (by omega)) ?_
  refine Ops.v (Yv.idx L22 rfl rfl ((hs0.rdRow 0 rfl).isSome (i := q) (by omega) (by omega)) (by omega) (by omega)) ?_
  refine Ops.s (Step.storeRow (vs := [.int .u8 ((((k * (gi xs q)) + (((64 : Int) - k) * o)) + 32) / 64)]) 0 hs0 rfl rfl rfl rfl S5 (by have hl_ := (hs0.rdRow 0 rfl).len; show (q).toNat * 1 + 1 ≤ _; omega) (Nat.succ_pos _) rfl (fun w2 hs2 => ?_) True.intro)
  have hs2_ := u8s_put (xs := xs) (i := (q).toNat * 1) (v := (((k * (gi xs q)) + (((64 : Int) - k) * o)) + 32) / 64) (by have hl_ := (hs0.rdRow 0 rfl).len; rw [u8s_length] at hl_; omega)
  simp only [Nat.mul_one] at hs2_
  replace hs2 : HS w0 (.row A m c (u8s (xs.set q.toNat ((((k * (gi xs q)) + (((64 : Int) - k) * o)) + 32) / 64))) 5 1 :: H) w2 := by simpa only [List.set, Nat.mul_one, hs2_] using hs2
  refine Ops.nil ?_
  refine ⟨[], rfl, ?_⟩
  exact ⟨rfl, hs2⟩

theorem rabove_fun {w : World} {A : Option Addr} {m c : Nat} {xs : List Int} (hr : Rd w A m 1 (u8s xs)) (hx : Bytes xs) {B : Option Addr} {m2 c2 : Nat} {ys : List Int} (hr2 : Rd w B m2 1 (u8s ys)) (hy : Bytes ys) {sw X Y W H : Int} (hcap : m ≤ 140737488355328) : Fun Try.prog 25 [.slice A m c, .int .i64 sw, .agg #[.int .i64 X, .int .i64 Y, .int .i64 W, .int .i64 H], .slice B m2 c2] w fun v w' => ∃ A' c', v = .tuple #[.slice A' (blendOut true xs ys sw X Y W H H).length c', .int .i64 (blendE xs ys sw X Y W H H)] ∧ HS w [.row A' (blendOut true xs ys sw X Y W H H).length c' (u8s (blendOut true xs ys sw X Y W H H)) 5 1] w' := by
  refine fun_run (m := 78) (rs := [.tmp 8, .tmp 9]) Try.func25 rfl rfl rfl rfl rfl ?_
  have hs0 := HS.start w
  have hbig := hr.big
  have hlen_xs : xs.length = m := by have := hr.len; rw [u8s_length] at this; omega
  have hlen_ys : ys.length = m2 := by have := hr2.len; rw [u8s_length] at this; omega
  refine run_seq fun K1 k1 => ?_
  refine run_region ?_
  refine Ops.s (Step.box (cs := [.int .i64 X, .int .i64 Y, .int .i64 W, .int .i64 H]) hs0 rfl rfl (fun b2 w3 hs3 hb3 => ?_) True.intro (by rfl))
  refine Ops.v (Yv.assign rfl) ?_
  refine Ops.v (Yv.assign rfl) ?_
  refine Ops.nil ?_
  refine k1 _ _ ?_
  refine run_seq fun K5 k5 => ?_
  refine run_region ?_
  refine Ops.v (Yv.fld F29_3 rfl) ?_
  refine Ops.v (Yv.load A3 rfl (now (hs3.cell 0 rfl 3 rfl))) ?_
  refine Ops.s (Step.call rfl rfl (rweights_fun) (?_) True.intro (by rfl))
  rintro _ w9 ⟨Ad6, c7, rfl, hs9⟩
  replace hs9 := hs3.call hs9
  refine Ops.v (Yv.move rfl) ?_
  refine Ops.v (Yv.extract rfl rfl) ?_
  refine Ops.v (Yv.extract rfl rfl) ?_
  refine Ops.v (Yv.assign rfl) ?_
  refine Ops.v (Yv.assign rfl) ?_
  refine Ops.nil ?_
  refine k5 _ _ ?_
  refine run_seq fun K10 k10 => ?_
  refine run_seq fun K11 k11 => ?_
  refine Run.cut (fun e_ w_ => HS w [.row Ad6 ((wtOut H).length) c7 (i64s (wtOut H)) 3 1, .blk b2 [.int .i64 X, .int .i64 Y, .int .i64 W, .int .i64 H] 29] w_ ∧ Le [(0, .slice A m c), (1, .int .i64 sw), (2, .agg #[.int .i64 X, .int .i64 Y, .int .i64 W, .int .i64 H]), (3, .slice B m2 c2), (6, .pointer (some ⟨b2, 0, none⟩)), (8, .slice none 0 0), (9, .int .i64 0), (10, .slice Ad6 ((wtOut H).length) c7), (11, .int .i64 (wtE H)), (38, .bool (decide (((¬ (liesP (m : Int) sw X Y W H)) ∨ ((wtE H) ≠ (0 : Int))) ∨ ((m2 : Int) ≠ (W * H)))))] e_) ?_ ?_
  · -- region 2: its ways meet again
    refine run_region ?_
    refine Ops.v (Yv.move rfl) ?_
    refine Ops.v (Yv.move rfl) ?_
    refine Ops.v (Yv.loadn (cs := [.int .i64 X, .int .i64 Y, .int .i64 W, .int .i64 H]) A29 S29 rfl (now (hs9.cells 1 rfl 0 4))) ?_
    refine Ops.s (Step.call rfl rfl (rwithin_fun (by omega)) (?_) True.intro (by rfl))
    rintro _ w12 ⟨rfl, hs12⟩
    replace hs12 := hs9.call hs12
    refine Ops.dec (fun h13 => ?_) (fun h13 => ?_)
    · -- yes
      refine Ops.v (Yv.not rfl) ?_
      refine Ops.v (Yv.move rfl) ?_
      refine Ops.vg ⟨_, rfl, rfl⟩ (Yv.move rfl) ?_
      refine Ops.vg ⟨_, rfl, rfl⟩ (Yv.ne rfl rfl) ?_
      refine Ops.dec (fun h14 => ?_) (fun h14 => ?_)
      · -- yes
        refine Ops.v (Yv.pick0 rfl rfl) ?_
        refine Ops.v (Yv.move rfl) ?_
        refine Ops.skip ⟨_, rfl, rfl⟩ ?_
        refine Ops.skip ⟨_, rfl, rfl⟩ ?_
        refine Ops.skip ⟨_, rfl, rfl⟩ ?_
        refine Ops.skip ⟨_, rfl, rfl⟩ ?_
        refine Ops.skip ⟨_, rfl, rfl⟩ ?_
        refine Ops.skip ⟨_, rfl, rfl⟩ ?_
        refine Ops.skip ⟨_, rfl, rfl⟩ ?_
        refine Ops.skip ⟨_, rfl, rfl⟩ ?_
        refine Ops.v (Yv.pick1 rfl rfl) ?_
        refine Ops.nil ?_
        refine ⟨hs12, Sub.le ⟨rfl, rfl, rfl, rfl, rfl, rfl, rfl, rfl, rfl, lookB rfl (by first | (simp only [h13, h14, ne_eq, not_true_eq_false, not_false_eq_true, or_true, true_or, or_false, false_or, and_true, true_and, and_false, false_and, decide_true, decide_false, or_self, and_self, Bool.decide_eq_true]; done) | simp [h13, h14]), trivial⟩⟩
      · -- no
        refine Ops.v (Yv.pick0 rfl rfl) ?_
        refine Ops.v (Yv.move rfl) ?_
        refine Ops.vg ⟨_, rfl, rfl⟩ (Yv.move rfl) ?_
        refine Ops.vg ⟨_, rfl, rfl⟩ (Yv.len (by rw [L22]; rfl) rfl) ?_
        refine Ops.vg ⟨_, rfl, rfl⟩ (Yv.fld F29_2 rfl) ?_
        refine Ops.vg ⟨_, rfl, rfl⟩ (Yv.load A3 rfl (now (hs12.cell 1 rfl 2 rfl))) ?_
        refine Ops.vg ⟨_, rfl, rfl⟩ (Yv.fld F29_3 rfl) ?_
        refine Ops.vg ⟨_, rfl, rfl⟩ (Yv.load A3 rfl (now (hs12.cell 1 rfl 3 rfl))) ?_
        have hl9 := lies_facts (by first | exact h14 | assumption)
        have hWH9 := mul_bd (a := W) (b := H) (x := 64) (y := 64) (by omega) (by omega) (by omega) (by omega)
        refine Ops.vg ⟨_, rfl, rfl⟩ (Yv.mul rfl rfl (by omega)) ?_
        refine Ops.vg ⟨_, rfl, rfl⟩ (Yv.ne rfl rfl) ?_
        refine Ops.v (Yv.pick0 rfl rfl) ?_
        refine Ops.nil ?_
        refine ⟨hs12, Sub.le ⟨rfl, rfl, rfl, rfl, rfl, rfl, rfl, rfl, rfl, lookB rfl (by first | (simp only [h13, h14, ne_eq, not_true_eq_false, not_false_eq_true, or_true, true_or, or_false, false_or, and_true, true_and, and_false, false_and, decide_true, decide_false, or_self, and_self, Bool.decide_eq_true]; done) | simp [h13, h14]), trivial⟩⟩
    · -- no
      refine Ops.v (Yv.not rfl) ?_
      refine Ops.v (Yv.move rfl) ?_
      refine Ops.skip ⟨_, rfl, rfl⟩ ?_
      refine Ops.skip ⟨_, rfl, rfl⟩ ?_
      refine Ops.v (Yv.pick1 rfl rfl) ?_
      refine Ops.v (Yv.move rfl) ?_
      refine Ops.skip ⟨_, rfl, rfl⟩ ?_
      refine Ops.skip ⟨_, rfl, rfl⟩ ?_
      refine Ops.skip ⟨_, rfl, rfl⟩ ?_
      refine Ops.skip ⟨_, rfl, rfl⟩ ?_
      refine Ops.skip ⟨_, rfl, rfl⟩ ?_
      refine Ops.skip ⟨_, rfl, rfl⟩ ?_
      refine Ops.skip ⟨_, rfl, rfl⟩ ?_
      refine Ops.skip ⟨_, rfl, rfl⟩ ?_
      refine Ops.v (Yv.pick1 rfl rfl) ?_
      refine Ops.nil ?_
      refine ⟨hs12, Sub.le ⟨rfl, rfl, rfl, rfl, rfl, rfl, rfl, rfl, rfl, lookB rfl (by first | (simp only [h13, ne_eq, not_true_eq_false, not_false_eq_true, or_true, true_or, or_false, false_or, and_true, true_and, and_false, false_and, decide_true, decide_false, or_self, and_self, Bool.decide_eq_true]; done) | simp [h13]), trivial⟩⟩
  rintro e15 w15 ⟨hs15, he15⟩
  refine k11 _ _ ?_
  refine Run.le he15 ?_
  refine run_ifp rfl (fun h16 => ?_) (fun h16 => ?_)
  · -- yes ((¬ (liesP (m : Int) sw X Y W H)) ∨ ((wtE H) ≠ (0 : Int))) ∨ ((m2 : Int) ≠ (W * H))
    refine run_seq fun K17 k17 => ?_
    refine run_region ?_
    refine Ops.v (Yv.assign rfl) ?_
    refine Ops.v (Yv.assign rfl) ?_
    refine Ops.nil ?_
    refine k17 _ _ ?_
    refine run_ret ?_
    refine ⟨[.slice none 0 0, .int .i64 2], ⟨_, _, rfl, rfl, ⟨_, _, rfl, rfl, rfl⟩⟩, ?_⟩
    obtain ⟨e1, e2⟩ := blend_nay (up := true) (own := xs) (oth := ys) (by rw [hlen_xs, hlen_ys]; exact blend_no' h16)
    rw [e1, e2]
    exact ⟨none, 0, rfl, (hs15.pick [] [] (by decide) rfl).nilRow 5 1⟩
  · -- no
    have hok := blend_go' h16
    have hwe := (wt_ok hok.1).2
    have hwl : ((wtOut H).length : Int) = H := by rw [hwe, wtTo_length]; omega
    have hlf := lies_facts hok.2.1
    have hWH := mul_bd (a := W) (b := H) (x := 64) (y := 64) (by omega) (by omega) (by omega) (by omega)
    have hq : (m2 : Int) = W * H := hok.2.2
    have hix := blend_idx (up := true) (n := H) rfl hlf.2.1.1 hq
    refine run_skip ?_
    refine k10 _ _ ?_
    refine run_seq fun K18 k18 => ?_
    refine run_region ?_
    refine Ops.v (Yv.move rfl) ?_
    refine Ops.s (Step.call rfl rfl (copyBytes_fun (hs15.rd hr) (by omega)) (?_) True.intro (by rfl))
    rintro _ w22 ⟨Ad19, c20, rfl, hs22⟩
    replace hs22 := hs15.call hs22
    refine Ops.v (Yv.assign rfl) ?_
    refine Ops.nil ?_
    refine k18 _ _ ?_
    refine run_seq fun K23 k23 => ?_
    refine run_seq fun K24 k24 => ?_
    refine run_region ?_
    refine Ops.v (Yv.assign rfl) ?_
    refine Ops.nil ?_
    refine k24 _ _ ?_
    refine run_block ?_
    refine Run.sub [(0, _), (1, _), (2, _), (3, _), (6, _), (8, _), (9, _), (10, _), (11, _), (12, _), (13, _), (38, _)] ⟨rfl, rfl, rfl, rfl, rfl, rfl, rfl, rfl, rfl, rfl, rfl, rfl, trivial⟩ ?_
    refine run_loop (σ := Nat) (fun k e_ w_ => HS w [.row Ad19 m c20 (u8s (blendTo true sw X Y W H xs ys k)) 5 1, .row Ad6 ((wtOut H).length) c7 (i64s (wtOut H)) 3 1, .blk b2 [.int .i64 X, .int .i64 Y, .int .i64 W, .int .i64 H] 29] w_ ∧ e_ = [(0, .slice A m c), (1, .int .i64 sw), (2, .agg #[.int .i64 X, .int .i64 Y, .int .i64 W, .int .i64 H]), (3, .slice B m2 c2), (6, .pointer (some ⟨b2, 0, none⟩)), (8, .slice none 0 0), (9, .int .i64 0), (10, .slice Ad6 ((wtOut H).length) c7), (11, .int .i64 (wtE H)), (12, .slice Ad19 m c20), (13, .int .i64 (k : Int)), (38, .bool (decide (((¬ (liesP (m : Int) sw X Y W H)) ∨ ((wtE H) ≠ (0 : Int))) ∨ ((m2 : Int) ≠ (W * H)))))] ∧ k ≤ m2)
      (fun k => m2 - k) 0 ?_ ?_
    · -- at the start
      refine ⟨hs22, rfl, by omega⟩
    · -- a round
      rintro k _ w25 ⟨hs25, rfl, f1⟩
      refine run_seq fun K26 k26 => ?_
      refine run_seq fun K27 k27 => ?_
      refine run_region ?_
      refine Ops.v (Yv.move rfl) ?_
      refine Ops.v (Yv.move rfl) ?_
      refine Ops.v (Yv.len (by rw [L22]; rfl) rfl) ?_
      refine Ops.v (Yv.lt rfl rfl) ?_
      refine Ops.nil ?_
      refine k27 _ _ ?_
      refine run_ifp rfl (fun h28 => ?_) (fun h28 => ?_)
      · -- yes (k : Int) < (m2 : Int)
        have hk1 : (k : Int) < W * H := by omega
        have hxy := rect_xy hlf.2.1.1 hk1
        have hin := blend_in (m := m) hok.2.1 hk1
        unfold bAt at hin
        have hlb := blendTo_length true sw X Y W H xs ys k
        have hmy := mul_bd (a := Y + (k : Int) / W) (b := sw) (x := 64) (y := 64) (by omega) (by omega) (by omega) (by omega)
        have hwb : 32 ≤ gi (wtOut H) ((k : Int) / W) ∧ gi (wtOut H) ((k : Int) / W) ≤ 63 := by rw [hwe]; exact wt_bd (by omega) (by omega) (by omega)
        refine run_skip ?_
        refine k26 _ _ ?_
        refine run_seq fun K29 k29 => ?_
        refine run_block ?_
        refine run_drawn [] (fun x => HS w [.row Ad6 ((wtOut H).length) c7 (i64s (wtOut H)) 3 1, .blk b2 [.int .i64 X, .int .i64 Y, .int .i64 W, .int .i64 H] 29] x) ?_ Tf.mixed (by kernel_rfl) (fun _ _ _ h => h)
        have hs30 := hs25.drew
        have hS31 := hs30.pick [1, 2] [.row Ad6 ((wtOut H).length) c7 (i64s (wtOut H)) 3 1, .blk b2 [.int .i64 X, .int .i64 Y, .int .i64 W, .int .i64 H] 29] (by decide) rfl
        refine Drw.a 0 rfl (by kernel_rfl) (Yv.move rfl) ?_
        refine Drw.a 1 rfl (by kernel_rfl) (Yv.fld F29_1 rfl) ?_
        refine Drw.l 2 rfl (by kernel_rfl) hS31 (Yv.load A3 rfl (fun _ hq_ => (hq_.cell 1 rfl 1 rfl))) ?_
        refine Drw.a 3 rfl (by kernel_rfl) (Yv.move rfl) ?_
        refine Drw.a 4 rfl (by kernel_rfl) (Yv.fld F29_2 rfl) ?_
        refine Drw.l 5 rfl (by kernel_rfl) hS31 (Yv.load A3 rfl (fun _ hq_ => (hq_.cell 1 rfl 2 rfl))) ?_
        refine Drw.a 6 rfl (by kernel_rfl) (Yv.quo rfl rfl (by omega) (by omega) (by omega)) ?_
        refine Drw.a 7 rfl (by kernel_rfl) (Yv.add rfl rfl (by omega)) ?_
        refine Drw.a 8 rfl (by kernel_rfl) (Yv.move rfl) ?_
        refine Drw.a 9 rfl (by kernel_rfl) (Yv.mul rfl rfl (by omega)) ?_
        refine Drw.a 10 rfl (by kernel_rfl) (Yv.fld F29_0 rfl) ?_
        refine Drw.l 11 rfl (by kernel_rfl) hS31 (Yv.load A3 rfl (fun _ hq_ => (hq_.cell 1 rfl 0 rfl))) ?_
        refine Drw.a 12 rfl (by kernel_rfl) (Yv.add rfl rfl (by omega)) ?_
        refine Drw.a 13 rfl (by kernel_rfl) (Yv.move rfl) ?_
        refine Drw.a 14 rfl (by kernel_rfl) (Yv.fld F29_2 rfl) ?_
        refine Drw.l 15 rfl (by kernel_rfl) hS31 (Yv.load A3 rfl (fun _ hq_ => (hq_.cell 1 rfl 2 rfl))) ?_
        refine Drw.a 16 rfl (by kernel_rfl) (Yv.rem rfl rfl (by omega) (by omega)) ?_
        refine Drw.a 17 rfl (by kernel_rfl) (Yv.add rfl rfl (by omega)) ?_
        refine Drw.a 18 rfl (by kernel_rfl) (Yv.move rfl) ?_
        refine Drw.a 19 rfl (by kernel_rfl) (Yv.move rfl) ?_
        refine Drw.a 20 rfl (by kernel_rfl) (Yv.fld F29_2 rfl) ?_
        refine Drw.l 21 rfl (by kernel_rfl) hS31 (Yv.load A3 rfl (fun _ hq_ => (hq_.cell 1 rfl 2 rfl))) ?_
        refine Drw.a 22 rfl (by kernel_rfl) (Yv.quo rfl rfl (by omega) (by omega) (by omega)) ?_
        refine Drw.a 23 rfl (by kernel_rfl) (Yv.idx L45 rfl rfl ((hs30.rdRow 1 rfl).isSome (i := (k : Int) / W) (by omega) (by omega)) (by omega) (by omega)) ?_
        refine Drw.l 24 rfl (by kernel_rfl) hS31 (Yv.load A3 rfl (fun _ hq_ => ((hq_.rdRow 0 rfl).i64 (by omega) (by omega)))) ?_
        refine Drw.a 25 rfl (by kernel_rfl) (Yv.move rfl) ?_
        refine Drw.a 26 rfl (by kernel_rfl) (Yv.move rfl) ?_
        refine Drw.a 27 rfl (by kernel_rfl) (Yv.idx L22 rfl rfl ((hs30.rd hr2).isSome (i := (k : Int)) (by omega) (by omega)) (by omega) (by omega)) ?_
        refine Drw.l 28 rfl (by kernel_rfl) hS31 (Yv.load A5 rfl (fun _ hq_ => ((hq_.rd hr2).u8 (by omega) (by omega)))) ?_
        have g32 := gi_bytes (xs := ys) hy (k : Int)
        refine Drw.one 29 rfl (by kernel_rfl) (Step.call rfl rfl (rblend_fun (hs30.pick [0, 1, 2] [.row Ad19 m c20 (u8s (blendTo true sw X Y W H xs ys k)) 5 1, .row Ad6 ((wtOut H).length) c7 (i64s (wtOut H)) 3 1, .blk b2 [.int .i64 X, .int .i64 Y, .int .i64 W, .int .i64 H] 29] (by decide) rfl) (blendTo_bytes (by omega) (by omega) hix hx hy k f1) (by omega) (by omega) (by omega)) (?_) True.intro (by rfl))
        rintro _ w33 ⟨rfl, hs33⟩
        have hS34 := hs33.pick [1, 2] [.row Ad6 ((wtOut H).length) c7 (i64s (wtOut H)) 3 1, .blk b2 [.int .i64 X, .int .i64 Y, .int .i64 W, .int .i64 H] 29] (by decide) rfl
        refine ⟨fun _ _ => hS34, ?_⟩
        refine Drw.done ?_ (by kernel_rfl)
        refine k29 _ _ ?_
        refine run_region ?_
        refine Ops.v (Yv.move rfl) ?_
        refine Ops.v (Yv.add rfl rfl (by omega)) ?_
        refine Ops.v (Yv.assign rfl) ?_
        refine Ops.nil ?_
        refine ⟨k + 1, _, ⟨(hs33.to (by rw [hwe]; rfl)), rfl, by omega⟩, Sub.le ⟨rfl, rfl, rfl, rfl, rfl, rfl, rfl, rfl, rfl, rfl, lookI rfl (by omega), rfl, trivial⟩, by omega⟩
      · -- no
        refine run_exit ?_
        refine k23 _ _ ?_
        refine run_seq fun K35 k35 => ?_
        refine run_region ?_
        refine Ops.v (Yv.move rfl) ?_
        refine Ops.v (Yv.assign rfl) ?_
        refine Ops.v (Yv.assign rfl) ?_
        refine Ops.nil ?_
        refine k35 _ _ ?_
        refine run_ret ?_
        refine ⟨[.slice Ad19 m c20, .int .i64 0], ⟨_, _, rfl, rfl, ⟨_, _, rfl, rfl, rfl⟩⟩, ?_⟩
        obtain ⟨e1, e2⟩ := blend_yes (up := true) (own := xs) (oth := ys) (by rw [hlen_xs, hlen_ys]; exact hok)
        rw [e1, e2, blendTo_length, hlen_xs, hlen_ys, show m2 = k from by omega]
        have hz := hs25.pick [0] [.row Ad19 m c20 (u8s (blendTo true sw X Y W H xs ys k)) 5 1] (by decide) rfl
        exact ⟨_, _, rfl, hz⟩

theorem rleft_fun {w : World} {A : Option Addr} {m c : Nat} {xs : List Int} (hr : Rd w A m 1 (u8s xs)) (hx : Bytes xs) {B : Option Addr} {m2 c2 : Nat} {ys : List Int} (hr2 : Rd w B m2 1 (u8s ys)) (hy : Bytes ys) {sw X Y W H : Int} (hcap : m ≤ 140737488355328) : Fun Try.prog 27 [.slice A m c, .int .i64 sw, .agg #[.int .i64 X, .int .i64 Y, .int .i64 W, .int .i64 H], .slice B m2 c2] w fun v w' => ∃ A' c', v = .tuple #[.slice A' (blendOut false xs ys sw X Y W H W).length c', .int .i64 (blendE xs ys sw X Y W H W)] ∧ HS w [.row A' (blendOut false xs ys sw X Y W H W).length c' (u8s (blendOut false xs ys sw X Y W H W)) 5 1] w' := by
  refine fun_run (m := 78) (rs := [.tmp 8, .tmp 9]) Try.func27 rfl rfl rfl rfl rfl ?_
  have hs0 := HS.start w
  have hbig := hr.big
  have hlen_xs : xs.length = m := by have := hr.len; rw [u8s_length] at this; omega
  have hlen_ys : ys.length = m2 := by have := hr2.len; rw [u8s_length] at this; omega
  refine run_seq fun K1 k1 => ?_
  refine run_region ?_
  refine Ops.s (Step.box (cs := [.int .i64 X, .int .i64 Y, .int .i64 W, .int .i64 H]) hs0 rfl rfl (fun b2 w3 hs3 hb3 => ?_) True.intro (by rfl))
  refine Ops.v (Yv.assign rfl) ?_
  refine Ops.v (Yv.assign rfl) ?_
  refine Ops.nil ?_
  refine k1 _ _ ?_
  refine run_seq fun K5 k5 => ?_
  refine run_region ?_
  refine Ops.v (Yv.fld F29_2 rfl) ?_
  refine Ops.v (Yv.load A3 rfl (now (hs3.cell 0 rfl 2 rfl))) ?_
  refine Ops.s (Step.call rfl rfl (rweights_fun) (?_) True.intro (by rfl))
  rintro _ w9 ⟨Ad6, c7, rfl, hs9⟩
  replace hs9 := hs3.call hs9
  refine Ops.v (Yv.move rfl) ?_
  refine Ops.v (Yv.extract rfl rfl) ?_
  refine Ops.v (Yv.extract rfl rfl) ?_
  refine Ops.v (Yv.assign rfl) ?_
  refine Ops.v (Yv.assign rfl) ?_
  refine Ops.nil ?_
  refine k5 _ _ ?_
  refine run_seq fun K10 k10 => ?_
  refine run_seq fun K11 k11 => ?_
  refine Run.cut (fun e_ w_ => HS w [.row Ad6 ((wtOut W).length) c7 (i64s (wtOut W)) 3 1, .blk b2 [.int .i64 X, .int .i64 Y, .int .i64 W, .int .i64 H] 29] w_ ∧ Le [(0, .slice A m c), (1, .int .i64 sw), (2, .agg #[.int .i64 X, .int .i64 Y, .int .i64 W, .int .i64 H]), (3, .slice B m2 c2), (6, .pointer (some ⟨b2, 0, none⟩)), (8, .slice none 0 0), (9, .int .i64 0), (10, .slice Ad6 ((wtOut W).length) c7), (11, .int .i64 (wtE W)), (38, .bool (decide (((¬ (liesP (m : Int) sw X Y W H)) ∨ ((wtE W) ≠ (0 : Int))) ∨ ((m2 : Int) ≠ (W * H)))))] e_) ?_ ?_
  · -- region 2: its ways meet again
    refine run_region ?_
    refine Ops.v (Yv.move rfl) ?_
    refine Ops.v (Yv.move rfl) ?_
    refine Ops.v (Yv.loadn (cs := [.int .i64 X, .int .i64 Y, .int .i64 W, .int .i64 H]) A29 S29 rfl (now (hs9.cells 1 rfl 0 4))) ?_
    refine Ops.s (Step.call rfl rfl (rwithin_fun (by omega)) (?_) True.intro (by rfl))
    rintro _ w12 ⟨rfl, hs12⟩
    replace hs12 := hs9.call hs12
    refine Ops.dec (fun h13 => ?_) (fun h13 => ?_)
    · -- yes
      refine Ops.v (Yv.not rfl) ?_
      refine Ops.v (Yv.move rfl) ?_
      refine Ops.vg ⟨_, rfl, rfl⟩ (Yv.move rfl) ?_
      refine Ops.vg ⟨_, rfl, rfl⟩ (Yv.ne rfl rfl) ?_
      refine Ops.dec (fun h14 => ?_) (fun h14 => ?_)
      · -- yes
        refine Ops.v (Yv.pick0 rfl rfl) ?_
        refine Ops.v (Yv.move rfl) ?_
        refine Ops.skip ⟨_, rfl, rfl⟩ ?_
        refine Ops.skip ⟨_, rfl, rfl⟩ ?_
        refine Ops.skip ⟨_, rfl, rfl⟩ ?_
        refine Ops.skip ⟨_, rfl, rfl⟩ ?_
        refine Ops.skip ⟨_, rfl, rfl⟩ ?_
        refine Ops.skip ⟨_, rfl, rfl⟩ ?_
        refine Ops.skip ⟨_, rfl, rfl⟩ ?_
        refine Ops.skip ⟨_, rfl, rfl⟩ ?_
        refine Ops.v (Yv.pick1 rfl rfl) ?_
        refine Ops.nil ?_
        refine ⟨hs12, Sub.le ⟨rfl, rfl, rfl, rfl, rfl, rfl, rfl, rfl, rfl, lookB rfl (by first | (simp only [h13, h14, ne_eq, not_true_eq_false, not_false_eq_true, or_true, true_or, or_false, false_or, and_true, true_and, and_false, false_and, decide_true, decide_false, or_self, and_self, Bool.decide_eq_true]; done) | simp [h13, h14]), trivial⟩⟩
      · -- no
        refine Ops.v (Yv.pick0 rfl rfl) ?_
        refine Ops.v (Yv.move rfl) ?_
        refine Ops.vg ⟨_, rfl, rfl⟩ (Yv.move rfl) ?_
        refine Ops.vg ⟨_, rfl, rfl⟩ (Yv.len (by rw [L22]; rfl) rfl) ?_
        refine Ops.vg ⟨_, rfl, rfl⟩ (Yv.fld F29_2 rfl) ?_
        refine Ops.vg ⟨_, rfl, rfl⟩ (Yv.load A3 rfl (now (hs12.cell 1 rfl 2 rfl))) ?_
        refine Ops.vg ⟨_, rfl, rfl⟩ (Yv.fld F29_3 rfl) ?_
        refine Ops.vg ⟨_, rfl, rfl⟩ (Yv.load A3 rfl (now (hs12.cell 1 rfl 3 rfl))) ?_
        have hl9 := lies_facts (by first | exact h14 | assumption)
        have hWH9 := mul_bd (a := W) (b := H) (x := 64) (y := 64) (by omega) (by omega) (by omega) (by omega)
        refine Ops.vg ⟨_, rfl, rfl⟩ (Yv.mul rfl rfl (by omega)) ?_
        refine Ops.vg ⟨_, rfl, rfl⟩ (Yv.ne rfl rfl) ?_
        refine Ops.v (Yv.pick0 rfl rfl) ?_
        refine Ops.nil ?_
        refine ⟨hs12, Sub.le ⟨rfl, rfl, rfl, rfl, rfl, rfl, rfl, rfl, rfl, lookB rfl (by first | (simp only [h13, h14, ne_eq, not_true_eq_false, not_false_eq_true, or_true, true_or, or_false, false_or, and_true, true_and, and_false, false_and, decide_true, decide_false, or_self, and_self, Bool.decide_eq_true]; done) | simp [h13, h14]), trivial⟩⟩
    · -- no
      refine Ops.v (Yv.not rfl) ?_
      refine Ops.v (Yv.move rfl) ?_
      refine Ops.skip ⟨_, rfl, rfl⟩ ?_
      refine Ops.skip ⟨_, rfl, rfl⟩ ?_
      refine Ops.v (Yv.pick1 rfl rfl) ?_
      refine Ops.v (Yv.move rfl) ?_
      refine Ops.skip ⟨_, rfl, rfl⟩ ?_
      refine Ops.skip ⟨_, rfl, rfl⟩ ?_
      refine Ops.skip ⟨_, rfl, rfl⟩ ?_
      refine Ops.skip ⟨_, rfl, rfl⟩ ?_
      refine Ops.skip ⟨_, rfl, rfl⟩ ?_
      refine Ops.skip ⟨_, rfl, rfl⟩ ?_
      refine Ops.skip ⟨_, rfl, rfl⟩ ?_
      refine Ops.skip ⟨_, rfl, rfl⟩ ?_
      refine Ops.v (Yv.pick1 rfl rfl) ?_
      refine Ops.nil ?_
      refine ⟨hs12, Sub.le ⟨rfl, rfl, rfl, rfl, rfl, rfl, rfl, rfl, rfl, lookB rfl (by first | (simp only [h13, ne_eq, not_true_eq_false, not_false_eq_true, or_true, true_or, or_false, false_or, and_true, true_and, and_false, false_and, decide_true, decide_false, or_self, and_self, Bool.decide_eq_true]; done) | simp [h13]), trivial⟩⟩
  rintro e15 w15 ⟨hs15, he15⟩
  refine k11 _ _ ?_
  refine Run.le he15 ?_
  refine run_ifp rfl (fun h16 => ?_) (fun h16 => ?_)
  · -- yes ((¬ (liesP (m : Int) sw X Y W H)) ∨ ((wtE W) ≠ (0 : Int))) ∨ ((m2 : Int) ≠ (W * H))
    refine run_seq fun K17 k17 => ?_
    refine run_region ?_
    refine Ops.v (Yv.assign rfl) ?_
    refine Ops.v (Yv.assign rfl) ?_
    refine Ops.nil ?_
    refine k17 _ _ ?_
    refine run_ret ?_
    refine ⟨[.slice none 0 0, .int .i64 2], ⟨_, _, rfl, rfl, ⟨_, _, rfl, rfl, rfl⟩⟩, ?_⟩
    obtain ⟨e1, e2⟩ := blend_nay (up := false) (own := xs) (oth := ys) (by rw [hlen_xs, hlen_ys]; exact blend_no' h16)
    rw [e1, e2]
    exact ⟨none, 0, rfl, (hs15.pick [] [] (by decide) rfl).nilRow 5 1⟩
  · -- no
    have hok := blend_go' h16
    have hwe := (wt_ok hok.1).2
    have hwl : ((wtOut W).length : Int) = W := by rw [hwe, wtTo_length]; omega
    have hlf := lies_facts hok.2.1
    have hWH := mul_bd (a := W) (b := H) (x := 64) (y := 64) (by omega) (by omega) (by omega) (by omega)
    have hq : (m2 : Int) = W * H := hok.2.2
    have hix := blend_idx (up := false) (n := W) rfl hlf.2.1.1 hq
    refine run_skip ?_
    refine k10 _ _ ?_
    refine run_seq fun K18 k18 => ?_
    refine run_region ?_
    refine Ops.v (Yv.move rfl) ?_
    refine Ops.s (Step.call rfl rfl (copyBytes_fun (hs15.rd hr) (by omega)) (?_) True.intro (by rfl))
    rintro _ w22 ⟨Ad19, c20, rfl, hs22⟩
    replace hs22 := hs15.call hs22
    refine Ops.v (Yv.assign rfl) ?_
    refine Ops.nil ?_
    refine k18 _ _ ?_
    refine run_seq fun K23 k23 => ?_
    refine run_seq fun K24 k24 => ?_
    refine run_region ?_
    refine Ops.v (Yv.assign rfl) ?_
    refine Ops.nil ?_
    refine k24 _ _ ?_
    refine run_block ?_
    refine Run.sub [(0, _), (1, _), (2, _), (3, _), (6, _), (8, _), (9, _), (10, _), (11, _), (12, _), (13, _), (38, _)] ⟨rfl, rfl, rfl, rfl, rfl, rfl, rfl, rfl, rfl, rfl, rfl, rfl, trivial⟩ ?_
    refine run_loop (σ := Nat) (fun k e_ w_ => HS w [.row Ad19 m c20 (u8s (blendTo false sw X Y W W xs ys k)) 5 1, .row Ad6 ((wtOut W).length) c7 (i64s (wtOut W)) 3 1, .blk b2 [.int .i64 X, .int .i64 Y, .int .i64 W, .int .i64 H] 29] w_ ∧ e_ = [(0, .slice A m c), (1, .int .i64 sw), (2, .agg #[.int .i64 X, .int .i64 Y, .int .i64 W, .int .i64 H]), (3, .slice B m2 c2), (6, .pointer (some ⟨b2, 0, none⟩)), (8, .slice none 0 0), (9, .int .i64 0), (10, .slice Ad6 ((wtOut W).length) c7), (11, .int .i64 (wtE W)), (12, .slice Ad19 m c20), (13, .int .i64 (k : Int)), (38, .bool (decide (((¬ (liesP (m : Int) sw X Y W H)) ∨ ((wtE W) ≠ (0 : Int))) ∨ ((m2 : Int) ≠ (W * H)))))] ∧ k ≤ m2)
      (fun k => m2 - k) 0 ?_ ?_
    · -- at the start
      refine ⟨hs22, rfl, by omega⟩
    · -- a round
      rintro k _ w25 ⟨hs25, rfl, f1⟩
      refine run_seq fun K26 k26 => ?_
      refine run_seq fun K27 k27 => ?_
      refine run_region ?_
      refine Ops.v (Yv.move rfl) ?_
      refine Ops.v (Yv.move rfl) ?_
      refine Ops.v (Yv.len (by rw [L22]; rfl) rfl) ?_
      refine Ops.v (Yv.lt rfl rfl) ?_
      refine Ops.nil ?_
      refine k27 _ _ ?_
      refine run_ifp rfl (fun h28 => ?_) (fun h28 => ?_)
      · -- yes (k : Int) < (m2 : Int)
        have hk1 : (k : Int) < W * H := by omega
        have hxy := rect_xy hlf.2.1.1 hk1
        have hin := blend_in (m := m) hok.2.1 hk1
        unfold bAt at hin
        have hlb := blendTo_length false sw X Y W W xs ys k
        have hmy := mul_bd (a := Y + (k : Int) / W) (b := sw) (x := 64) (y := 64) (by omega) (by omega) (by omega) (by omega)
        have hwb : 32 ≤ gi (wtOut W) ((k : Int) % W) ∧ gi (wtOut W) ((k : Int) % W) ≤ 63 := by rw [hwe]; exact wt_bd (by omega) (by omega) (by omega)
        refine run_skip ?_
        refine k26 _ _ ?_
        refine run_seq fun K29 k29 => ?_
        refine run_block ?_
        refine run_drawn [] (fun x => HS w [.row Ad6 ((wtOut W).length) c7 (i64s (wtOut W)) 3 1, .blk b2 [.int .i64 X, .int .i64 Y, .int .i64 W, .int .i64 H] 29] x) ?_ Tf.mixed (by kernel_rfl) (fun _ _ _ h => h)
        have hs30 := hs25.drew
        have hS31 := hs30.pick [1, 2] [.row Ad6 ((wtOut W).length) c7 (i64s (wtOut W)) 3 1, .blk b2 [.int .i64 X, .int .i64 Y, .int .i64 W, .int .i64 H] 29] (by decide) rfl
        refine Drw.a 0 rfl (by kernel_rfl) (Yv.move rfl) ?_
        refine Drw.a 1 rfl (by kernel_rfl) (Yv.fld F29_1 rfl) ?_
        refine Drw.l 2 rfl (by kernel_rfl) hS31 (Yv.load A3 rfl (fun _ hq_ => (hq_.cell 1 rfl 1 rfl))) ?_
        refine Drw.a 3 rfl (by kernel_rfl) (Yv.move rfl) ?_
        refine Drw.a 4 rfl (by kernel_rfl) (Yv.fld F29_2 rfl) ?_
        refine Drw.l 5 rfl (by kernel_rfl) hS31 (Yv.load A3 rfl (fun _ hq_ => (hq_.cell 1 rfl 2 rfl))) ?_
        refine Drw.a 6 rfl (by kernel_rfl) (Yv.quo rfl rfl (by omega) (by omega) (by omega)) ?_
        refine Drw.a 7 rfl (by kernel_rfl) (Yv.add rfl rfl (by omega)) ?_
        refine Drw.a 8 rfl (by kernel_rfl) (Yv.move rfl) ?_
        refine Drw.a 9 rfl (by kernel_rfl) (Yv.mul rfl rfl (by omega)) ?_
        refine Drw.a 10 rfl (by kernel_rfl) (Yv.fld F29_0 rfl) ?_
        refine Drw.l 11 rfl (by kernel_rfl) hS31 (Yv.load A3 rfl (fun _ hq_ => (hq_.cell 1 rfl 0 rfl))) ?_
        refine Drw.a 12 rfl (by kernel_rfl) (Yv.add rfl rfl (by omega)) ?_
        refine Drw.a 13 rfl (by kernel_rfl) (Yv.move rfl) ?_
        refine Drw.a 14 rfl (by kernel_rfl) (Yv.fld F29_2 rfl) ?_
        refine Drw.l 15 rfl (by kernel_rfl) hS31 (Yv.load A3 rfl (fun _ hq_ => (hq_.cell 1 rfl 2 rfl))) ?_
        refine Drw.a 16 rfl (by kernel_rfl) (Yv.rem rfl rfl (by omega) (by omega)) ?_
        refine Drw.a 17 rfl (by kernel_rfl) (Yv.add rfl rfl (by omega)) ?_
        refine Drw.a 18 rfl (by kernel_rfl) (Yv.move rfl) ?_
        refine Drw.a 19 rfl (by kernel_rfl) (Yv.move rfl) ?_
        refine Drw.a 20 rfl (by kernel_rfl) (Yv.fld F29_2 rfl) ?_
        refine Drw.l 21 rfl (by kernel_rfl) hS31 (Yv.load A3 rfl (fun _ hq_ => (hq_.cell 1 rfl 2 rfl))) ?_
        refine Drw.a 22 rfl (by kernel_rfl) (Yv.rem rfl rfl (by omega) (by omega)) ?_
        refine Drw.a 23 rfl (by kernel_rfl) (Yv.idx L45 rfl rfl ((hs30.rdRow 1 rfl).isSome (i := (k : Int) % W) (by omega) (by omega)) (by omega) (by omega)) ?_
        refine Drw.l 24 rfl (by kernel_rfl) hS31 (Yv.load A3 rfl (fun _ hq_ => ((hq_.rdRow 0 rfl).i64 (by omega) (by omega)))) ?_
        refine Drw.a 25 rfl (by kernel_rfl) (Yv.move rfl) ?_
        refine Drw.a 26 rfl (by kernel_rfl) (Yv.move rfl) ?_
        refine Drw.a 27 rfl (by kernel_rfl) (Yv.idx L22 rfl rfl ((hs30.rd hr2).isSome (i := (k : Int)) (by omega) (by omega)) (by omega) (by omega)) ?_
        refine Drw.l 28 rfl (by kernel_rfl) hS31 (Yv.load A5 rfl (fun _ hq_ => ((hq_.rd hr2).u8 (by omega) (by omega)))) ?_
        have g32 := gi_bytes (xs := ys) hy (k : Int)
        refine Drw.one 29 rfl (by kernel_rfl) (Step.call rfl rfl (rblend_fun (hs30.pick [0, 1, 2] [.row Ad19 m c20 (u8s (blendTo false sw X Y W W xs ys k)) 5 1, .row Ad6 ((wtOut W).length) c7 (i64s (wtOut W)) 3 1, .blk b2 [.int .i64 X, .int .i64 Y, .int .i64 W, .int .i64 H] 29] (by decide) rfl) (blendTo_bytes (by omega) (by omega) hix hx hy k f1) (by omega) (by omega) (by omega)) (?_) True.intro (by rfl))
        rintro _ w33 ⟨rfl, hs33⟩
        have hS34 := hs33.pick [1, 2] [.row Ad6 ((wtOut W).length) c7 (i64s (wtOut W)) 3 1, .blk b2 [.int .i64 X, .int .i64 Y, .int .i64 W, .int .i64 H] 29] (by decide) rfl
        refine ⟨fun _ _ => hS34, ?_⟩
        refine Drw.done ?_ (by kernel_rfl)
        refine k29 _ _ ?_
        refine run_region ?_
        refine Ops.v (Yv.move rfl) ?_
        refine Ops.v (Yv.add rfl rfl (by omega)) ?_
        refine Ops.v (Yv.assign rfl) ?_
        refine Ops.nil ?_
        refine ⟨k + 1, _, ⟨(hs33.to (by rw [hwe]; rfl)), rfl, by omega⟩, Sub.le ⟨rfl, rfl, rfl, rfl, rfl, rfl, rfl, rfl, rfl, rfl, lookI rfl (by omega), rfl, trivial⟩, by omega⟩
      · -- no
        refine run_exit ?_
        refine k23 _ _ ?_
        refine run_seq fun K35 k35 => ?_
        refine run_region ?_
        refine Ops.v (Yv.move rfl) ?_
        refine Ops.v (Yv.assign rfl) ?_
        refine Ops.v (Yv.assign rfl) ?_
        refine Ops.nil ?_
        refine k35 _ _ ?_
        refine run_ret ?_
        refine ⟨[.slice Ad19 m c20, .int .i64 0], ⟨_, _, rfl, rfl, ⟨_, _, rfl, rfl, rfl⟩⟩, ?_⟩
        obtain ⟨e1, e2⟩ := blend_yes (up := false) (own := xs) (oth := ys) (by rw [hlen_xs, hlen_ys]; exact hok)
        rw [e1, e2, blendTo_length, hlen_xs, hlen_ys, show m2 = k from by omega]
        have hz := hs25.pick [0] [.row Ad19 m c20 (u8s (blendTo false sw X Y W W xs ys k)) 5 1] (by decide) rfl
        exact ⟨_, _, rfl, hz⟩

theorem flat_fun {w : World} {n x : Int} (hn : 0 ≤ n ∧ n ≤ 1000000) (hb : 0 ≤ x ∧ x ≤ 255) : Fun Try.prog 34 [.int .i64 n, .int .u8 x] w fun v w' => ∃ A' c', v = .slice A' n.toNat c' ∧ HS w [.row A' n.toNat c' (u8s (List.replicate n.toNat x)) 5 1] w' := by
  refine fun_run (m := 19) (rs := [.tmp 4]) Try.func34 rfl rfl rfl rfl rfl ?_
  have hs0 := HS.start w
  refine run_seq fun K1 k1 => ?_
  refine run_region ?_
  refine Ops.v (Yv.assign rfl) ?_
  refine Ops.nil ?_
  refine k1 _ _ ?_
  refine run_seq fun K2 k2 => ?_
  refine run_region ?_
  refine Ops.v (Yv.move rfl) ?_
  refine Ops.s (Step.make hs0 L22 Z5 rfl rfl (by omega) (by omega) (by omega) (fun b4 w3 hs3 hb3 => ?_) True.intro (by rfl))
  rw [u8s_rep] at hs3
  refine Ops.v (Yv.assign rfl) ?_
  refine Ops.nil ?_
  refine k2 _ _ ?_
  refine run_seq fun K6 k6 => ?_
  refine run_seq fun K7 k7 => ?_
  refine run_region ?_
  refine Ops.v (Yv.assign rfl) ?_
  refine Ops.nil ?_
  refine k7 _ _ ?_
  refine run_block ?_
  refine Run.sub [(0, _), (1, _), (4, _), (5, _), (6, _)] ⟨rfl, rfl, rfl, rfl, rfl, trivial⟩ ?_
  refine run_loop (σ := Nat) (fun k e_ w_ => HS w [.row (some ⟨b4, 0, none⟩) n.toNat n.toNat (u8s (List.replicate k x ++ List.replicate (n.toNat - k) 0)) 5 1] w_ ∧ e_ = [(0, .int .i64 n), (1, .int .u8 x), (4, .slice none 0 0), (5, .slice (some ⟨b4, 0, none⟩) n.toNat n.toNat), (6, .int .i64 (k : Int))] ∧ k ≤ n.toNat)
    (fun k => n.toNat - k) 0 ?_ ?_
  · -- at the start
    refine ⟨hs3, rfl, by omega⟩
  · -- a round
    rintro k _ w8 ⟨hs8, rfl, f1⟩
    have hlf := flatIn_length (x := x) f1
    refine run_seq fun K9 k9 => ?_
    refine run_seq fun K10 k10 => ?_
    refine run_region ?_
    refine Ops.v (Yv.move rfl) ?_
    refine Ops.v (Yv.move rfl) ?_
    refine Ops.v (Yv.lt rfl rfl) ?_
    refine Ops.nil ?_
    refine k10 _ _ ?_
    refine run_ifp rfl (fun h11 => ?_) (fun h11 => ?_)
    · -- yes (k : Int) < n
      refine run_skip ?_
      refine k9 _ _ ?_
      refine run_seq fun K12 k12 => ?_
      refine run_block ?_
      refine run_region ?_
      refine Ops.v (Yv.move rfl) ?_
      refine Ops.v (Yv.move rfl) ?_
      refine Ops.v (Yv.move rfl) ?_
      refine Ops.v (Yv.idx L22 rfl rfl ((hs8.rdRow 0 rfl).isSome (i := (k : Int)) (by omega) (by omega)) (by omega) (by omega)) ?_
      refine Ops.s (Step.storeRow (vs := [.int .u8 x]) 0 hs8 rfl rfl rfl rfl S5 (by have hl_ := (hs8.rdRow 0 rfl).len; show ((k : Int)).toNat * 1 + 1 ≤ _; omega) (Nat.succ_pos _) rfl (fun w13 hs13 => ?_) True.intro)
      have hs13_ := u8s_put (xs := List.replicate k x ++ List.replicate (n.toNat - k) 0) (i := ((k : Int)).toNat * 1) (v := x) (by have hl_ := (hs8.rdRow 0 rfl).len; rw [u8s_length] at hl_; omega)
      simp only [Nat.mul_one] at hs13_
      replace hs13 : HS w [.row (some ⟨b4, 0, none⟩) n.toNat n.toNat (u8s ((List.replicate k x ++ List.replicate (n.toNat - k) 0).set (((k : Int)).toNat) x)) 5 1] w13 := by simpa only [List.set, Nat.mul_one, hs13_] using hs13
      refine Ops.nil ?_
      refine k12 _ _ ?_
      refine run_region ?_
      refine Ops.v (Yv.move rfl) ?_
      refine Ops.v (Yv.add rfl rfl (by omega)) ?_
      refine Ops.v (Yv.assign rfl) ?_
      refine Ops.nil ?_
      refine ⟨k + 1, _, ⟨(hs13.to (by rw [← flatIn_next (x := x) (n := n.toNat) (k := k) (by omega)]; rfl)), rfl, by omega⟩, Sub.le ⟨rfl, rfl, rfl, rfl, lookI rfl (by omega), trivial⟩, by omega⟩
    · -- no
      refine run_exit ?_
      refine k6 _ _ ?_
      refine run_seq fun K14 k14 => ?_
      refine run_region ?_
      refine Ops.v (Yv.move rfl) ?_
      refine Ops.v (Yv.assign rfl) ?_
      refine Ops.nil ?_
      refine k14 _ _ ?_
      refine run_ret ?_
      refine ⟨[.slice (some ⟨b4, 0, none⟩) n.toNat n.toNat], ⟨_, _, rfl, rfl, rfl⟩, ?_⟩
      have hz := hs8.pick [0] [.row (some ⟨b4, 0, none⟩) n.toNat n.toNat (u8s (List.replicate k x ++ List.replicate (n.toNat - k) 0)) 5 1] (by decide) rfl
      exact ⟨_, _, rfl, hz.to (by rw [show k = n.toNat from by omega, Nat.sub_self, List.replicate_zero, List.append_nil])⟩

theorem between_fun {w : World} {x a b : Int} : Fun Try.prog 31 [.int .u8 x, .int .u8 a, .int .u8 b] w fun v w' => v = .bool (decide (min a b ≤ x ∧ x ≤ max a b)) ∧ w = w' := by
  refine fun_run (m := 19) (rs := [.tmp 6]) Try.func31 rfl rfl rfl rfl rfl ?_
  have hs0 := HS.start w
  refine run_seq fun K1 k1 => ?_
  refine run_region ?_
  refine Ops.v (Yv.assign rfl) ?_
  refine Ops.nil ?_
  refine k1 _ _ ?_
  refine run_seq fun K2 k2 => ?_
  refine Run.cut (fun e_ w_ => w = w_ ∧ Le [(0, .int .u8 x), (1, .int .u8 a), (2, .int .u8 b), (6, .bool (decide (((min a b) ≤ x) ∧ (x ≤ (max a b)))))] e_) ?_ ?_
  · -- region 1: its ways meet again
    refine run_region ?_
    refine Ops.v (Yv.move rfl) ?_
    refine Ops.v (Yv.move rfl) ?_
    refine Ops.v (Yv.move rfl) ?_
    refine Ops.v (Yv.min rfl rfl) ?_
    refine Ops.v (Yv.ge rfl rfl) ?_
    refine Ops.dec (fun h3 => ?_) (fun h3 => ?_)
    · -- yes
      refine Ops.v (Yv.move rfl) ?_
      refine Ops.vg ⟨_, rfl, rfl⟩ (Yv.move rfl) ?_
      refine Ops.vg ⟨_, rfl, rfl⟩ (Yv.move rfl) ?_
      refine Ops.vg ⟨_, rfl, rfl⟩ (Yv.move rfl) ?_
      refine Ops.vg ⟨_, rfl, rfl⟩ (Yv.max rfl rfl) ?_
      refine Ops.vg ⟨_, rfl, rfl⟩ (Yv.le rfl rfl) ?_
      refine Ops.v (Yv.pick1 rfl rfl) ?_
      refine Ops.v (Yv.assign rfl) ?_
      refine Ops.nil ?_
      refine ⟨rfl, Sub.le ⟨rfl, rfl, rfl, lookB rfl (by first | (simp only [h3, ne_eq, not_true_eq_false, not_false_eq_true, or_true, true_or, or_false, false_or, and_true, true_and, and_false, false_and, decide_true, decide_false, or_self, and_self, Bool.decide_eq_true]; done) | simp [h3]), trivial⟩⟩
    · -- no
      refine Ops.v (Yv.move rfl) ?_
      refine Ops.skip ⟨_, rfl, rfl⟩ ?_
      refine Ops.skip ⟨_, rfl, rfl⟩ ?_
      refine Ops.skip ⟨_, rfl, rfl⟩ ?_
      refine Ops.skip ⟨_, rfl, rfl⟩ ?_
      refine Ops.skip ⟨_, rfl, rfl⟩ ?_
      refine Ops.v (Yv.pick0 rfl rfl) ?_
      refine Ops.v (Yv.assign rfl) ?_
      refine Ops.nil ?_
      refine ⟨rfl, Sub.le ⟨rfl, rfl, rfl, lookB rfl (by first | (simp only [h3, ne_eq, not_true_eq_false, not_false_eq_true, or_true, true_or, or_false, false_or, and_true, true_and, and_false, false_and, decide_true, decide_false, or_self, and_self, Bool.decide_eq_true]; done) | simp [h3]), trivial⟩⟩
  rintro e4 _ ⟨rfl, he4⟩
  refine k2 _ _ ?_
  refine Run.le he4 ?_
  refine run_ret ?_
  refine ⟨[.bool (decide (((min a b) ≤ x) ∧ (x ≤ (max a b))))], ⟨_, _, rfl, rfl, rfl⟩, ?_⟩
  exact ⟨rfl, rfl⟩

theorem transposed_fun {w : World} {A : Option Addr} {m c : Nat} {xs : List Int} (hr : Rd w A m 1 (u8s xs)) (hx : Bytes xs) {sw : Int} (hcap : m ≤ 140737488355328) (hw : 1 ≤ sw) (hm : (m : Int) % sw = 0) : Fun Try.prog 32 [.slice A m c, .int .i64 sw] w fun v w' => ∃ A' c', v = .slice A' m c' ∧ HS w [.row A' m c' (u8s (turnTo sw ((m : Int) / sw) xs m m)) 5 1] w' := by
  refine fun_run (m := 37) (rs := [.tmp 4]) Try.func32 rfl rfl rfl rfl rfl ?_
  have hs0 := HS.start w
  have hbig := hr.big
  have hlen_xs : xs.length = m := by have := hr.len; rw [u8s_length] at this; omega
  have hd := div_bd (a := (m : Int)) (b := sw) (by omega) hw
  have hmm := Int.mul_ediv_add_emod (m : Int) sw
  refine run_seq fun K1 k1 => ?_
  refine run_region ?_
  refine Ops.v (Yv.assign rfl) ?_
  refine Ops.nil ?_
  refine k1 _ _ ?_
  refine run_seq fun K2 k2 => ?_
  refine run_region ?_
  refine Ops.v (Yv.move rfl) ?_
  refine Ops.v (Yv.len (by rw [L22]; rfl) rfl) ?_
  refine Ops.v (Yv.move rfl) ?_
  refine Ops.v (Yv.quo rfl rfl (by omega) (by omega) (by omega)) ?_
  refine Ops.v (Yv.assign rfl) ?_
  refine Ops.nil ?_
  refine k2 _ _ ?_
  refine run_seq fun K3 k3 => ?_
  refine run_region ?_
  refine Ops.v (Yv.move rfl) ?_
  refine Ops.v (Yv.len (by rw [L22]; rfl) rfl) ?_
  refine Ops.s (Step.make hs0 L22 Z5 rfl rfl (by omega) (by omega) (by omega) (fun b5 w4 hs4 hb4 => ?_) True.intro (by rfl))
  rw [u8s_rep] at hs4
  refine Ops.v (Yv.assign rfl) ?_
  refine Ops.nil ?_
  refine k3 _ _ ?_
  refine run_seq fun K7 k7 => ?_
  refine run_seq fun K8 k8 => ?_
  refine run_region ?_
  refine Ops.v (Yv.assign rfl) ?_
  refine Ops.nil ?_
  refine k8 _ _ ?_
  refine run_block ?_
  refine Run.sub [(0, _), (1, _), (4, _), (5, _), (6, _), (7, _)] ⟨rfl, rfl, rfl, rfl, rfl, rfl, trivial⟩ ?_
  refine run_loop (σ := Nat) (fun k e_ w_ => HS w [.row (some ⟨b5, 0, none⟩) m m (u8s (turnTo sw ((m : Int) / sw) xs m k)) 5 1] w_ ∧ e_ = [(0, .slice A m c), (1, .int .i64 sw), (4, .slice none 0 0), (5, .int .i64 ((m : Int) / sw)), (6, .slice (some ⟨b5, 0, none⟩) m m), (7, .int .i64 (k : Int))] ∧ k ≤ m)
    (fun k => m - k) 0 ?_ ?_
  · -- at the start
    refine ⟨hs4, rfl, by omega⟩
  · -- a round
    rintro k _ w9 ⟨hs9, rfl, f1⟩
    refine run_seq fun K10 k10 => ?_
    refine run_seq fun K11 k11 => ?_
    refine run_region ?_
    refine Ops.v (Yv.move rfl) ?_
    refine Ops.v (Yv.move rfl) ?_
    refine Ops.v (Yv.len (by rw [L22]; rfl) rfl) ?_
    refine Ops.v (Yv.lt rfl rfl) ?_
    refine Ops.nil ?_
    refine k11 _ _ ?_
    refine run_ifp rfl (fun h12 => ?_) (fun h12 => ?_)
    · -- yes (k : Int) < (m : Int)
      have hxy := rect_xy (W := sw) (H := (m : Int) / sw) (k := k) hw (by omega)
      have hpl := place_in (W := (m : Int) / sw) (H := sw) (r := (k : Int) % sw) (c := (k : Int) / sw) (by omega) (by omega) (by omega) (by omega)
      rw [Int.mul_comm ((m : Int) / sw) sw] at hpl
      have hmb := Int.mul_nonneg hxy.1.1 hd.1
      have htl := turnTo_length sw ((m : Int) / sw) xs m k
      refine run_skip ?_
      refine k10 _ _ ?_
      refine run_seq fun K13 k13 => ?_
      refine run_block ?_
      refine run_drawn [15] (fun x => Below (w9.drew).heap.size (w9.drew) x) ?_ Tf.mixed (by kernel_rfl) (fun _ _ _ h => h)
      have hs14 := hs9.drew
      have hS15 := Below.refl (w9.drew).heap.size (w9.drew)
      refine Drw.a 0 rfl (by kernel_rfl) (Yv.move rfl) ?_
      refine Drw.a 1 rfl (by kernel_rfl) (Yv.move rfl) ?_
      refine Drw.a 2 rfl (by kernel_rfl) (Yv.move rfl) ?_
      refine Drw.a 3 rfl (by kernel_rfl) (Yv.rem rfl rfl (by omega) (by omega)) ?_
      refine Drw.a 4 rfl (by kernel_rfl) (Yv.move rfl) ?_
      refine Drw.a 5 rfl (by kernel_rfl) (Yv.mul rfl rfl (by omega)) ?_
      refine Drw.a 6 rfl (by kernel_rfl) (Yv.move rfl) ?_
      refine Drw.a 7 rfl (by kernel_rfl) (Yv.move rfl) ?_
      refine Drw.a 8 rfl (by kernel_rfl) (Yv.quo rfl rfl (by omega) (by omega) (by omega)) ?_
      refine Drw.a 9 rfl (by kernel_rfl) (Yv.add rfl rfl (by omega)) ?_
      refine Drw.a 10 rfl (by kernel_rfl) (Yv.move rfl) ?_
      refine Drw.a 11 rfl (by kernel_rfl) (Yv.move rfl) ?_
      refine Drw.a 12 rfl (by kernel_rfl) (Yv.idx L22 rfl rfl ((hs14.rd hr).isSome (i := (k : Int)) (by omega) (by omega)) (by omega) (by omega)) ?_
      refine Drw.l 13 rfl (by kernel_rfl) hS15 (Yv.load A5 rfl (fun _ hq_ => (((hs14.grow hq_).rd hr).u8 (by omega) (by omega)))) ?_
      have g16 := gi_bytes (xs := xs) hx (k : Int)
      refine Drw.a 14 rfl (by kernel_rfl) (Yv.idx L22 rfl rfl ((hs14.rdRow 0 rfl).isSome (i := (((k : Int) % sw) * ((m : Int) / sw)) + ((k : Int) / sw)) (by omega) (by omega)) (by omega) (by omega)) ?_
      refine Drw.one 15 rfl (by kernel_rfl) (Step.storeRow (vs := [.int .u8 (gi xs (k : Int))]) 0 hs14 rfl rfl rfl rfl S5 (by have hl_ := (hs14.rdRow 0 rfl).len; show ((((k : Int) % sw) * ((m : Int) / sw)) + ((k : Int) / sw)).toNat * 1 + 1 ≤ _; omega) (Nat.succ_pos _) rfl (fun w17 hs17 => ?_) True.intro)
      refine ⟨fun h => absurd h (by decide), ?_⟩
      have hs17_ := u8s_put (xs := turnTo sw ((m : Int) / sw) xs m k) (i := ((((k : Int) % sw) * ((m : Int) / sw)) + ((k : Int) / sw)).toNat * 1) (v := gi xs (k : Int)) (by have hl_ := (hs14.rdRow 0 rfl).len; rw [u8s_length] at hl_; omega)
      simp only [Nat.mul_one] at hs17_
      replace hs17 : HS w [.row (some ⟨b5, 0, none⟩) m m (u8s ((turnTo sw ((m : Int) / sw) xs m k).set (((((k : Int) % sw) * ((m : Int) / sw)) + ((k : Int) / sw)).toNat) (gi xs (k : Int)))) 5 1] w17 := by simpa only [List.set, Nat.mul_one, hs17_] using hs17
      refine Drw.done ?_ (by kernel_rfl)
      refine k13 _ _ ?_
      refine run_region ?_
      refine Ops.v (Yv.move rfl) ?_
      refine Ops.v (Yv.add rfl rfl (by omega)) ?_
      refine Ops.v (Yv.assign rfl) ?_
      refine Ops.nil ?_
      refine ⟨k + 1, _, ⟨hs17, rfl, by omega⟩, Sub.le ⟨rfl, rfl, rfl, rfl, rfl, lookI rfl (by omega), trivial⟩, by omega⟩
    · -- no
      refine run_exit ?_
      refine k7 _ _ ?_
      refine run_seq fun K18 k18 => ?_
      refine run_region ?_
      refine Ops.v (Yv.move rfl) ?_
      refine Ops.v (Yv.assign rfl) ?_
      refine Ops.nil ?_
      refine k18 _ _ ?_
      refine run_ret ?_
      refine ⟨[.slice (some ⟨b5, 0, none⟩) m m], ⟨_, _, rfl, rfl, rfl⟩, ?_⟩
      have hz := hs9.pick [0] [.row (some ⟨b5, 0, none⟩) m m (u8s (turnTo sw ((m : Int) / sw) xs m k)) 5 1] (by decide) rfl
      exact ⟨_, _, rfl, hz.to (by rw [show k = m from by omega])⟩

end Go.Proofs.Zed
