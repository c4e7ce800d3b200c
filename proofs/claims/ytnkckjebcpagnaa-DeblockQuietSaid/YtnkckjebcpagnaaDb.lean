/- The walks of the program's functions of chapter 22 (deblock): each comes to what the plain function says. -/
import Derived.Test.YtnkckjebcpagnaaZt
import Derived.Test.YtnkckjebcpagnaaDa
set_option linter.unusedVariables false
set_option linter.unusedSimpArgs false
namespace Go.Proofs.Zed
open Go Go.RowKit Tf
attribute [local irreducible] Try.prog

theorem far_fun {w : World} {a b : Int} (ha : 0 ≤ a ∧ a ≤ 255) (hb : 0 ≤ b ∧ b ≤ 255) : Fun Try.prog 139 [.int .u8 a, .int .u8 b] w fun v w' => v = .int .i64 (farF a b) ∧ w = w' := by
  refine fun_run (m := 16) (rs := [.tmp 4]) Try.func139 rfl rfl rfl rfl rfl ?_
  have hs0 := HS.start w
  refine run_seq fun K1 k1 => ?_
  refine run_region ?_
  refine Ops.v (Yv.assign rfl) ?_
  refine Ops.nil ?_
  refine k1 _ _ ?_
  refine run_seq fun K2 k2 => ?_
  refine run_region ?_
  refine Ops.v (Yv.move rfl) ?_
  refine Ops.v (Yv.toInt U3 V5 rfl (by omega)) ?_
  refine Ops.v (Yv.move rfl) ?_
  refine Ops.v (Yv.toInt U3 V5 rfl (by omega)) ?_
  refine Ops.v (Yv.sub rfl rfl (by omega)) ?_
  refine Ops.v (Yv.move rfl) ?_
  refine Ops.v (Yv.toInt U3 V5 rfl (by omega)) ?_
  refine Ops.v (Yv.move rfl) ?_
  refine Ops.v (Yv.toInt U3 V5 rfl (by omega)) ?_
  refine Ops.v (Yv.sub rfl rfl (by omega)) ?_
  refine Ops.v (Yv.max rfl rfl) ?_
  refine Ops.v (Yv.assign rfl) ?_
  refine Ops.nil ?_
  refine k2 _ _ ?_
  refine run_ret ?_
  refine ⟨[.int .i64 (max (a - b) (b - a))], ⟨_, _, rfl, rfl, rfl⟩, ?_⟩
  exact ⟨rfl, rfl⟩

theorem clip_fun {w : World} {x a b : Int} : Fun Try.prog 142 [.int .i64 x, .int .i64 a, .int .i64 b] w fun v w' => v = .int .i64 (clipF x a b) ∧ w = w' := by
  refine fun_run (m := 12) (rs := [.tmp 6]) Try.func142 rfl rfl rfl rfl rfl ?_
  have hs0 := HS.start w
  refine run_seq fun K1 k1 => ?_
  refine run_region ?_
  refine Ops.v (Yv.assign rfl) ?_
  refine Ops.nil ?_
  refine k1 _ _ ?_
  refine run_seq fun K2 k2 => ?_
  refine run_region ?_
  refine Ops.v (Yv.move rfl) ?_
  refine Ops.v (Yv.move rfl) ?_
  refine Ops.v (Yv.max rfl rfl) ?_
  refine Ops.v (Yv.move rfl) ?_
  refine Ops.v (Yv.min rfl rfl) ?_
  refine Ops.v (Yv.assign rfl) ?_
  refine Ops.nil ?_
  refine k2 _ _ ?_
  refine run_ret ?_
  refine ⟨[.int .i64 (min (max x a) b)], ⟨_, _, rfl, rfl, rfl⟩, ?_⟩
  exact ⟨rfl, rfl⟩

theorem within_fun {w : World} {n a b : Int} : Fun Try.prog 53 [.int .i64 n, .int .i64 a, .int .i64 b] w fun v w' => v = .bool (decide (a ≤ n ∧ n ≤ b)) ∧ w = w' := by
  refine fun_run (m := 15) (rs := [.tmp 6]) Try.func53 rfl rfl rfl rfl rfl ?_
  have hs0 := HS.start w
  refine run_seq fun K1 k1 => ?_
  refine run_region ?_
  refine Ops.v (Yv.assign rfl) ?_
  refine Ops.nil ?_
  refine k1 _ _ ?_
  refine run_seq fun K2 k2 => ?_
  refine Run.cut (fun e_ w_ => w = w_ ∧ Le [(0, .int .i64 n), (1, .int .i64 a), (2, .int .i64 b), (6, .bool (decide ((a ≤ n) ∧ (n ≤ b))))] e_) ?_ ?_
  · -- region 1: its ways meet again
    refine run_region ?_
    refine Ops.v (Yv.move rfl) ?_
    refine Ops.v (Yv.move rfl) ?_
    refine Ops.v (Yv.ge rfl rfl) ?_
    refine Ops.dec (fun h3 => ?_) (fun h3 => ?_)
    · -- yes
      refine Ops.v (Yv.move rfl) ?_
      refine Ops.vg ⟨_, rfl, rfl⟩ (Yv.move rfl) ?_
      refine Ops.vg ⟨_, rfl, rfl⟩ (Yv.move rfl) ?_
      refine Ops.vg ⟨_, rfl, rfl⟩ (Yv.le rfl rfl) ?_
      refine Ops.v (Yv.pick1 rfl rfl) ?_
      refine Ops.v (Yv.assign rfl) ?_
      refine Ops.nil ?_
      refine ⟨rfl, Sub.le ⟨rfl, rfl, rfl, lookB rfl (by first | (simp only [h3, ne_eq, not_true_eq_false, not_false_eq_true, or_true, true_or, or_false, false_or, and_true, true_and, and_false, false_and, decide_true, decide_false, or_self, and_self, Bool.decide_eq_true]; done) | simp [h3]), trivial⟩⟩
    · -- no
      refine Ops.v (Yv.move rfl) ?_
      refine Ops.skip ⟨_, rfl, rfl⟩ ?_
      refine Ops.skip ⟨_, rfl, rfl⟩ ?_
      refine Ops.skip ⟨_, rfl, rfl⟩ ?_
      refine Ops.v (Yv.pick0 rfl rfl) ?_
      refine Ops.v (Yv.assign rfl) ?_
      refine Ops.nil ?_
      refine ⟨rfl, Sub.le ⟨rfl, rfl, rfl, lookB rfl (by first | (simp only [h3, ne_eq, not_true_eq_false, not_false_eq_true, or_true, true_or, or_false, false_or, and_true, true_and, and_false, false_and, decide_true, decide_false, or_self, and_self, Bool.decide_eq_true]; done) | simp [h3]), trivial⟩⟩
  rintro e4 _ ⟨rfl, he4⟩
  refine k2 _ _ ?_
  refine Run.le he4 ?_
  refine run_ret ?_
  refine ⟨[.bool (decide ((a ≤ n) ∧ (n ≤ b)))], ⟨_, _, rfl, rfl, rfl⟩, ?_⟩
  exact ⟨rfl, rfl⟩

theorem line_p_fun {w : World} {A : Option Addr} {c : Nat} {xs : List Int} {half : Int} (hr : Rd w A xs.length 1 (u8s xs)) (hx : Bytes xs) {i : Int} (h0 : 0 ≤ half - 1 - i) (h1 : half - 1 - i < xs.length) (hh : 0 ≤ half ∧ half ≤ 1000) : Fun Try.prog 140 [.agg #[.slice A xs.length c, .int .i64 half], .int .i64 i] w fun v w' => v = .int .u8 (pF xs half i) ∧ HS w [] w' := by
  refine fun_run (m := 14) (rs := [.tmp 4]) Try.func140 rfl rfl rfl rfl rfl ?_
  have hs0 := HS.start w
  have hbig := hr.big
  refine run_seq fun K1 k1 => ?_
  refine run_region ?_
  refine Ops.s (Step.box (cs := [.slice A xs.length c, .int .i64 half]) hs0 rfl rfl (fun b2 w3 hs3 hb3 => ?_) True.intro (by rfl))
  refine Ops.v (Yv.assign rfl) ?_
  refine Ops.nil ?_
  refine k1 _ _ ?_
  refine run_seq fun K5 k5 => ?_
  refine run_region ?_
  refine Ops.v (Yv.fld F115_0 rfl) ?_
  refine Ops.v (Yv.load A23 rfl (now (hs3.cell 0 rfl 0 rfl))) ?_
  refine Ops.v (Yv.fld F115_1 rfl) ?_
  refine Ops.v (Yv.load A3 rfl (now (hs3.cell 0 rfl 1 rfl))) ?_
  refine Ops.v (Yv.sub rfl rfl (by omega)) ?_
  refine Ops.v (Yv.move rfl) ?_
  refine Ops.v (Yv.sub rfl rfl (by omega)) ?_
  refine Ops.v (Yv.idx L23 rfl rfl ((hs3.rd hr).isSome (i := (half - 1) - i) (by omega) (by omega)) (by omega) (by omega)) ?_
  refine Ops.v (Yv.load A5 rfl (now ((hs3.rd hr).u8 (by omega) (by omega)))) ?_
  have g6 := gi_bytes (xs := xs) hx ((half - 1) - i)
  refine Ops.v (Yv.assign rfl) ?_
  have g6 := gi_bytes (xs := xs) hx ((half - 1) - i)
  refine Ops.nil ?_
  refine k5 _ _ ?_
  refine run_ret ?_
  refine ⟨[.int .u8 (gi xs ((half - 1) - i))], ⟨_, _, rfl, rfl, rfl⟩, ?_⟩
  exact ⟨rfl, hs3.pick [] _ (by decide) rfl⟩

theorem line_q_fun {w : World} {A : Option Addr} {c : Nat} {xs : List Int} {half : Int} (hr : Rd w A xs.length 1 (u8s xs)) (hx : Bytes xs) {i : Int} (h0 : 0 ≤ half + i) (h1 : half + i < xs.length) (hh : 0 ≤ half ∧ half ≤ 1000) : Fun Try.prog 141 [.agg #[.slice A xs.length c, .int .i64 half], .int .i64 i] w fun v w' => v = .int .u8 (qF xs half i) ∧ HS w [] w' := by
  refine fun_run (m := 13) (rs := [.tmp 4]) Try.func141 rfl rfl rfl rfl rfl ?_
  have hs0 := HS.start w
  have hbig := hr.big
  refine run_seq fun K1 k1 => ?_
  refine run_region ?_
  refine Ops.s (Step.box (cs := [.slice A xs.length c, .int .i64 half]) hs0 rfl rfl (fun b2 w3 hs3 hb3 => ?_) True.intro (by rfl))
  refine Ops.v (Yv.assign rfl) ?_
  refine Ops.nil ?_
  refine k1 _ _ ?_
  refine run_seq fun K5 k5 => ?_
  refine run_region ?_
  refine Ops.v (Yv.fld F115_0 rfl) ?_
  refine Ops.v (Yv.load A23 rfl (now (hs3.cell 0 rfl 0 rfl))) ?_
  refine Ops.v (Yv.fld F115_1 rfl) ?_
  refine Ops.v (Yv.load A3 rfl (now (hs3.cell 0 rfl 1 rfl))) ?_
  refine Ops.v (Yv.move rfl) ?_
  refine Ops.v (Yv.add rfl rfl (by omega)) ?_
  refine Ops.v (Yv.idx L23 rfl rfl ((hs3.rd hr).isSome (i := half + i) (by omega) (by omega)) (by omega) (by omega)) ?_
  refine Ops.v (Yv.load A5 rfl (now ((hs3.rd hr).u8 (by omega) (by omega)))) ?_
  have g6 := gi_bytes (xs := xs) hx (half + i)
  refine Ops.v (Yv.assign rfl) ?_
  have g6 := gi_bytes (xs := xs) hx (half + i)
  refine Ops.nil ?_
  refine k5 _ _ ?_
  refine run_ret ?_
  refine ⟨[.int .u8 (gi xs (half + i))], ⟨_, _, rfl, rfl, rfl⟩, ?_⟩
  exact ⟨rfl, hs3.pick [] _ (by decide) rfl⟩

theorem line_rough_fun {w : World} {A : Option Addr} {c : Nat} {xs : List Int} {half : Int} (hr : Rd w A xs.length 1 (u8s xs)) (hx : Bytes xs) {li ed th : Int} (hh : 2 ≤ half ∧ half ≤ 7) (hl : (xs.length : Int) = 2 * half) : Fun Try.prog 102 [.agg #[.slice A xs.length c, .int .i64 half], .agg #[.int .i64 li, .int .i64 ed, .int .i64 th]] w fun v w' => v = .bool (roughF xs half li ed) ∧ HS w [] w' := by
  refine fun_run (m := 57) (rs := [.tmp 4]) Try.func102 rfl rfl rfl rfl rfl ?_
  have hs0 := HS.start w
  refine run_seq fun K1 k1 => ?_
  refine run_region ?_
  refine Ops.s (Step.box (cs := [.slice A xs.length c, .int .i64 half]) hs0 rfl rfl (fun b2 w3 hs3 hb3 => ?_) True.intro (by rfl))
  refine Ops.s (Step.box (cs := [.int .i64 li, .int .i64 ed, .int .i64 th]) hs3 rfl rfl (fun b5 w6 hs6 hb6 => ?_) True.intro (by rfl))
  refine Ops.v (Yv.assign rfl) ?_
  refine Ops.nil ?_
  refine k1 _ _ ?_
  refine run_seq fun K8 k8 => ?_
  refine run_region ?_
  refine Ops.v (Yv.fld F115_0 rfl) ?_
  refine Ops.v (Yv.load A23 rfl (now (hs6.cell 1 rfl 0 rfl))) ?_
  refine Ops.v (Yv.len (by rw [L23]; rfl) rfl) ?_
  refine Ops.v (Yv.quo rfl rfl (by omega) (by omega) (by omega)) ?_
  refine Ops.v (Yv.min rfl rfl) ?_
  refine Ops.v (Yv.assign rfl) ?_
  refine Ops.nil ?_
  refine k8 _ _ ?_
  refine run_seq fun K9 k9 => ?_
  refine run_seq fun K10 k10 => ?_
  refine run_region ?_
  refine Ops.v (Yv.assign rfl) ?_
  refine Ops.nil ?_
  refine k10 _ _ ?_
  refine run_block ?_
  refine Run.sub [(0, _), (1, _), (2, _), (3, _), (5, _), (6, _)] ⟨rfl, rfl, rfl, rfl, rfl, rfl, trivial⟩ ?_
  refine run_loop (σ := Nat) (fun k e_ w_ => HS w [.blk b5 [.int .i64 li, .int .i64 ed, .int .i64 th] 111, .blk b2 [.slice A xs.length c, .int .i64 half] 115] w_ ∧ e_ = [(0, .agg #[.slice A xs.length c, .int .i64 half]), (1, .agg #[.int .i64 li, .int .i64 ed, .int .i64 th]), (2, .pointer (some ⟨b2, 0, none⟩)), (3, .pointer (some ⟨b5, 0, none⟩)), (5, .int .i64 (min ((xs.length : Int) / 2) 4)), (6, .int .i64 (k : Int))] ∧ 1 ≤ k ∧ (k : Int) ≤ min ((xs.length : Int) / 2) 4 ∧ roughTo xs half li (k - 1) = false)
    (fun k => 8 - k) 1 ?_ ?_
  · -- at the start
    refine ⟨hs6, rfl, by omega, by omega, rfl⟩
  · -- a round
    rintro k _ w11 ⟨hs11, rfl, f1, f2, f3⟩
    refine run_seq fun K12 k12 => ?_
    refine run_seq fun K13 k13 => ?_
    refine run_region ?_
    refine Ops.v (Yv.move rfl) ?_
    refine Ops.v (Yv.move rfl) ?_
    refine Ops.v (Yv.lt rfl rfl) ?_
    refine Ops.nil ?_
    refine k13 _ _ ?_
    refine run_ifp rfl (fun h14 => ?_) (fun h14 => ?_)
    · -- yes (k : Int) < (min ((xs.length : Int) / 2) 4)
      refine run_skip ?_
      refine k12 _ _ ?_
      refine run_seq fun K15 k15 => ?_
      refine run_block ?_
      refine run_seq fun K16 k16 => ?_
      refine Run.cut (fun e_ w_ => HS w [.blk b5 [.int .i64 li, .int .i64 ed, .int .i64 th] 111, .blk b2 [.slice A xs.length c, .int .i64 half] 115] w_ ∧ Le [(0, .agg #[.slice A xs.length c, .int .i64 half]), (1, .agg #[.int .i64 li, .int .i64 ed, .int .i64 th]), (2, .pointer (some ⟨b2, 0, none⟩)), (3, .pointer (some ⟨b5, 0, none⟩)), (5, .int .i64 (min ((xs.length : Int) / 2) 4)), (6, .int .i64 (k : Int)), (14, .bool (decide ((k : Int) < (min ((xs.length : Int) / 2) 4)))), (40, .bool (decide ((li < (farF (pF xs half (k : Int)) (pF xs half ((k : Int) - 1)))) ∨ (li < (farF (qF xs half (k : Int)) (qF xs half ((k : Int) - 1)))))))] e_) ?_ ?_
      · -- region 5: its ways meet again
        refine run_drawn [] (fun x => Below (w11.drew).heap.size (w11.drew) x) ?_ Tf.mixed (by kernel_rfl) (fun _ _ _ h => h)
        have hs17 := hs11.drew
        have hS18 := Below.refl (w11.drew).heap.size (w11.drew)
        refine Drw.l 0 rfl (by kernel_rfl) hS18 (Yv.loadn (cs := [.slice A xs.length c, .int .i64 half]) A115 S115 rfl (fun _ hq_ => ((hs17.grow hq_).cells 1 rfl 0 2))) ?_
        refine Drw.a 1 rfl (by kernel_rfl) (Yv.move rfl) ?_
        refine Drw.l 3 rfl (by kernel_rfl) hS18 (Yv.loadn (cs := [.slice A xs.length c, .int .i64 half]) A115 S115 rfl (fun _ hq_ => ((hs17.grow hq_).cells 1 rfl 0 2))) ?_
        refine Drw.a 4 rfl (by kernel_rfl) (Yv.move rfl) ?_
        refine Drw.a 5 rfl (by kernel_rfl) (Yv.sub rfl rfl (by omega)) ?_
        refine Drw.a 8 rfl (by kernel_rfl) (Yv.fld F111_0 rfl) ?_
        refine Drw.l 9 rfl (by kernel_rfl) hS18 (Yv.load A3 rfl (fun _ hq_ => ((hs17.grow hq_).cell 0 rfl 0 rfl))) ?_
        refine Drw.one 2 rfl (by kernel_rfl) (Step.call rfl rfl (line_p_fun (hs17.rd hr) hx (by omega) (by omega) (by omega)) (?_) True.intro (by rfl))
        rintro _ w20 ⟨rfl, hs20⟩
        have hS21 := HS.keepS hS18 (Nat.le_refl _) hs20
        refine ⟨fun _ _ => hS21, ?_⟩
        replace hs20 := hs17.call hs20
        have g19 := pF_bytes hx half (k : Int)
        refine Drw.one 6 rfl (by kernel_rfl) (Step.call rfl rfl (line_p_fun (hs20.rd hr) hx (by omega) (by omega) (by omega)) (?_) True.intro (by rfl))
        rintro _ w23 ⟨rfl, hs23⟩
        have hS24 := HS.keepS hS21 (Nat.le_refl _) hs23
        refine ⟨fun _ _ => hS24, ?_⟩
        replace hs23 := hs20.call hs23
        have g22 := pF_bytes hx half ((k : Int) - 1)
        refine Drw.one 7 rfl (by kernel_rfl) (Step.call rfl rfl (far_fun (by omega) (by omega)) (?_) True.intro (by rfl))
        rintro _ _ ⟨rfl, rfl⟩
        refine ⟨fun _ h => h, ?_⟩
        have g25 := farF_bd (pF xs half (k : Int)) (pF xs half ((k : Int) - 1))
        refine Drw.a 10 rfl (by kernel_rfl) (Yv.gt rfl rfl) ?_
        refine Drw.dec (fun h27 => ?_) (fun h27 => ?_)
        · -- yes
          refine Drw.a 11 rfl (by kernel_rfl) (Yv.move rfl) ?_
          refine Drw.no 12 rfl (by kernel_rfl) ?_ ⟨_, rfl, rfl⟩
          refine Drw.no 13 rfl (by kernel_rfl) ?_ ⟨_, rfl, rfl⟩
          refine Drw.no 14 rfl (by kernel_rfl) ?_ ⟨_, rfl, rfl⟩
          refine Drw.no 15 rfl (by kernel_rfl) ?_ ⟨_, rfl, rfl⟩
          refine Drw.no 16 rfl (by kernel_rfl) ?_ ⟨_, rfl, rfl⟩
          refine Drw.no 17 rfl (by kernel_rfl) ?_ ⟨_, rfl, rfl⟩
          refine Drw.no 18 rfl (by kernel_rfl) ?_ ⟨_, rfl, rfl⟩
          refine Drw.no 19 rfl (by kernel_rfl) ?_ ⟨_, rfl, rfl⟩
          refine Drw.no 20 rfl (by kernel_rfl) ?_ ⟨_, rfl, rfl⟩
          refine Drw.no 21 rfl (by kernel_rfl) ?_ ⟨_, rfl, rfl⟩
          refine Drw.no 22 rfl (by kernel_rfl) ?_ ⟨_, rfl, rfl⟩
          refine Drw.a 23 rfl (by kernel_rfl) (Yv.pick1 rfl rfl) ?_
          refine Drw.done ?_ (by kernel_rfl)
          refine ⟨hs23, Sub.le ⟨rfl, rfl, rfl, rfl, rfl, rfl, rfl, lookB rfl (by first | (simp only [h27, ne_eq, not_true_eq_false, not_false_eq_true, or_true, true_or, or_false, false_or, and_true, true_and, and_false, false_and, decide_true, decide_false, or_self, and_self, Bool.decide_eq_true]; done) | simp [h27]), trivial⟩⟩
        · -- no
          refine Drw.a 11 rfl (by kernel_rfl) (Yv.move rfl) ?_
          refine Drw.l 12 rfl (by kernel_rfl) hS24 (Yv.loadn (cs := [.slice A xs.length c, .int .i64 half]) A115 S115 rfl (fun _ hq_ => ((hs17.grow hq_).cells 1 rfl 0 2))) ?_ ⟨_, rfl, rfl⟩
          refine Drw.a 13 rfl (by kernel_rfl) (Yv.move rfl) ?_ ⟨_, rfl, rfl⟩
          refine Drw.l 15 rfl (by kernel_rfl) hS24 (Yv.loadn (cs := [.slice A xs.length c, .int .i64 half]) A115 S115 rfl (fun _ hq_ => ((hs17.grow hq_).cells 1 rfl 0 2))) ?_ ⟨_, rfl, rfl⟩
          refine Drw.a 16 rfl (by kernel_rfl) (Yv.move rfl) ?_ ⟨_, rfl, rfl⟩
          refine Drw.a 17 rfl (by kernel_rfl) (Yv.sub rfl rfl (by omega)) ?_ ⟨_, rfl, rfl⟩
          refine Drw.a 20 rfl (by kernel_rfl) (Yv.fld F111_0 rfl) ?_ ⟨_, rfl, rfl⟩
          refine Drw.l 21 rfl (by kernel_rfl) hS24 (Yv.load A3 rfl (fun _ hq_ => ((hs17.grow hq_).cell 0 rfl 0 rfl))) ?_ ⟨_, rfl, rfl⟩
          refine Drw.one 14 rfl (by kernel_rfl) (Step.call rfl rfl (line_q_fun (hs23.rd hr) hx (by omega) (by omega) (by omega)) (?_) ⟨_, rfl, rfl⟩ (by rfl))
          rintro _ w29 ⟨rfl, hs29⟩
          have hS30 := HS.keepS hS24 (Nat.le_refl _) hs29
          refine ⟨fun _ _ => hS30, ?_⟩
          replace hs29 := hs23.call hs29
          have g28 := qF_bytes hx half (k : Int)
          refine Drw.one 18 rfl (by kernel_rfl) (Step.call rfl rfl (line_q_fun (hs29.rd hr) hx (by omega) (by omega) (by omega)) (?_) ⟨_, rfl, rfl⟩ (by rfl))
          rintro _ w32 ⟨rfl, hs32⟩
          have hS33 := HS.keepS hS30 (Nat.le_refl _) hs32
          refine ⟨fun _ _ => hS33, ?_⟩
          replace hs32 := hs29.call hs32
          have g31 := qF_bytes hx half ((k : Int) - 1)
          refine Drw.one 19 rfl (by kernel_rfl) (Step.call rfl rfl (far_fun (by omega) (by omega)) (?_) ⟨_, rfl, rfl⟩ (by rfl))
          rintro _ _ ⟨rfl, rfl⟩
          refine ⟨fun _ h => h, ?_⟩
          have g34 := farF_bd (qF xs half (k : Int)) (qF xs half ((k : Int) - 1))
          refine Drw.a 22 rfl (by kernel_rfl) (Yv.gt rfl rfl) ?_ ⟨_, rfl, rfl⟩
          refine Drw.a 23 rfl (by kernel_rfl) (Yv.pick0 rfl rfl) ?_
          refine Drw.done ?_ (by kernel_rfl)
          refine ⟨hs32, Sub.le ⟨rfl, rfl, rfl, rfl, rfl, rfl, rfl, lookB rfl (by first | (simp only [h27, ne_eq, not_true_eq_false, not_false_eq_true, or_true, true_or, or_false, false_or, and_true, true_and, and_false, false_and, decide_true, decide_false, or_self, and_self, Bool.decide_eq_true]; done) | simp [h27]), trivial⟩⟩
      rintro e42 w42 ⟨hs42, he42⟩
      refine k16 _ _ ?_
      refine Run.le he42 ?_
      refine run_ifp rfl (fun h43 => ?_) (fun h43 => ?_)
      · -- yes (li < (farF (pF xs half (k : Int)) (pF xs half ((k : Int) - 1)))) ∨ (li < (farF (qF xs half (k : Int)) (qF xs half ((k : Int) - 1))))
        refine run_seq fun K44 k44 => ?_
        refine run_region ?_
        refine Ops.v (Yv.assign rfl) ?_
        refine Ops.nil ?_
        refine k44 _ _ ?_
        refine run_ret ?_
        refine ⟨[.bool true], ⟨_, _, rfl, rfl, rfl⟩, ?_⟩
        refine ⟨?_, hs42.pick [] _ (by decide) rfl⟩
        show Value.bool true = .bool _
        rw [rough_yes (k := k) (by omega) (by omega) (decide_eq_true h43)]
      · -- no
        refine run_skip ?_
        refine k15 _ _ ?_
        refine run_region ?_
        refine Ops.v (Yv.move rfl) ?_
        refine Ops.v (Yv.add rfl rfl (by omega)) ?_
        refine Ops.v (Yv.assign rfl) ?_
        refine Ops.nil ?_
        refine ⟨k + 1, _, ⟨hs42, rfl, by omega, by omega, rough_next f1 f3 (decide_eq_false h43)⟩, Sub.le ⟨rfl, rfl, rfl, rfl, rfl, lookI rfl (by omega), trivial⟩, by omega⟩
    · -- no
      refine run_exit ?_
      refine k9 _ _ ?_
      refine run_seq fun K45 k45 => ?_
      refine run_drawn [] (fun x => Below (w11.drew).heap.size (w11.drew) x) ?_ Tf.mixed (by kernel_rfl) (fun _ _ _ h => h)
      have hs46 := hs11.drew
      have hS47 := Below.refl (w11.drew).heap.size (w11.drew)
      refine Drw.l 0 rfl (by kernel_rfl) hS47 (Yv.loadn (cs := [.slice A xs.length c, .int .i64 half]) A115 S115 rfl (fun _ hq_ => ((hs46.grow hq_).cells 1 rfl 0 2))) ?_
      refine Drw.l 2 rfl (by kernel_rfl) hS47 (Yv.loadn (cs := [.slice A xs.length c, .int .i64 half]) A115 S115 rfl (fun _ hq_ => ((hs46.grow hq_).cells 1 rfl 0 2))) ?_
      refine Drw.l 6 rfl (by kernel_rfl) hS47 (Yv.loadn (cs := [.slice A xs.length c, .int .i64 half]) A115 S115 rfl (fun _ hq_ => ((hs46.grow hq_).cells 1 rfl 0 2))) ?_
      refine Drw.l 8 rfl (by kernel_rfl) hS47 (Yv.loadn (cs := [.slice A xs.length c, .int .i64 half]) A115 S115 rfl (fun _ hq_ => ((hs46.grow hq_).cells 1 rfl 0 2))) ?_
      refine Drw.a 13 rfl (by kernel_rfl) (Yv.fld F111_1 rfl) ?_
      refine Drw.l 14 rfl (by kernel_rfl) hS47 (Yv.load A3 rfl (fun _ hq_ => ((hs46.grow hq_).cell 0 rfl 1 rfl))) ?_
      refine Drw.one 1 rfl (by kernel_rfl) (Step.call rfl rfl (line_p_fun (hs46.rd hr) hx (by omega) (by omega) (by omega)) (?_) True.intro (by rfl))
      rintro _ w49 ⟨rfl, hs49⟩
      have hS50 := HS.keepS hS47 (Nat.le_refl _) hs49
      refine ⟨fun _ _ => hS50, ?_⟩
      replace hs49 := hs46.call hs49
      have g48 := pF_bytes hx half (0 : Int)
      refine Drw.one 3 rfl (by kernel_rfl) (Step.call rfl rfl (line_q_fun (hs49.rd hr) hx (by omega) (by omega) (by omega)) (?_) True.intro (by rfl))
      rintro _ w52 ⟨rfl, hs52⟩
      have hS53 := HS.keepS hS50 (Nat.le_refl _) hs52
      refine ⟨fun _ _ => hS53, ?_⟩
      replace hs52 := hs49.call hs52
      have g51 := qF_bytes hx half (0 : Int)
      refine Drw.one 4 rfl (by kernel_rfl) (Step.call rfl rfl (far_fun (by omega) (by omega)) (?_) True.intro (by rfl))
      rintro _ _ ⟨rfl, rfl⟩
      refine ⟨fun _ h => h, ?_⟩
      have g54 := farF_bd (pF xs half (0 : Int)) (qF xs half (0 : Int))
      refine Drw.a 5 rfl (by kernel_rfl) (Yv.mul rfl rfl (by omega)) ?_
      refine Drw.one 7 rfl (by kernel_rfl) (Step.call rfl rfl (line_p_fun (hs52.rd hr) hx (by omega) (by omega) (by omega)) (?_) True.intro (by rfl))
      rintro _ w57 ⟨rfl, hs57⟩
      have hS58 := HS.keepS hS53 (Nat.le_refl _) hs57
      refine ⟨fun _ _ => hS58, ?_⟩
      replace hs57 := hs52.call hs57
      have g56 := pF_bytes hx half (1 : Int)
      refine Drw.one 9 rfl (by kernel_rfl) (Step.call rfl rfl (line_q_fun (hs57.rd hr) hx (by omega) (by omega) (by omega)) (?_) True.intro (by rfl))
      rintro _ w60 ⟨rfl, hs60⟩
      have hS61 := HS.keepS hS58 (Nat.le_refl _) hs60
      refine ⟨fun _ _ => hS61, ?_⟩
      replace hs60 := hs57.call hs60
      have g59 := qF_bytes hx half (1 : Int)
      refine Drw.one 10 rfl (by kernel_rfl) (Step.call rfl rfl (far_fun (by omega) (by omega)) (?_) True.intro (by rfl))
      rintro _ _ ⟨rfl, rfl⟩
      refine ⟨fun _ h => h, ?_⟩
      have g62 := farF_bd (pF xs half (1 : Int)) (qF xs half (1 : Int))
      refine Drw.a 11 rfl (by kernel_rfl) (Yv.quo rfl rfl (by omega) (by omega) (by omega)) ?_
      refine Drw.a 12 rfl (by kernel_rfl) (Yv.add rfl rfl (by omega)) ?_
      refine Drw.a 15 rfl (by kernel_rfl) (Yv.gt rfl rfl) ?_
      refine Drw.a 16 rfl (by kernel_rfl) (Yv.assign rfl) ?_
      refine Drw.done ?_ (by kernel_rfl)
      refine k45 _ _ ?_
      refine run_ret ?_
      refine ⟨[.bool (decide (ed < (((2 : Int) * (farF (pF xs half (0 : Int)) (qF xs half (0 : Int)))) + ((farF (pF xs half (1 : Int)) (qF xs half (1 : Int))) / 2))))], ⟨_, _, rfl, rfl, rfl⟩, ?_⟩
      refine ⟨?_, hs60.pick [] _ (by decide) rfl⟩
      show Value.bool _ = .bool _
      rw [rough_no (k := k) (by omega) f3]

theorem line_flat_fun {w : World} {A : Option Addr} {c : Nat} {xs : List Int} {half : Int} (hr : Rd w A xs.length 1 (u8s xs)) (hx : Bytes xs) {a b : Int} (hh : 2 ≤ half ∧ half ≤ 7) (hl : (xs.length : Int) = 2 * half) (ha : 0 ≤ a) (hb : b < half) : Fun Try.prog 103 [.agg #[.slice A xs.length c, .int .i64 half], .int .i64 a, .int .i64 b] w fun v w' => v = .bool (flatF xs half a b) ∧ HS w [] w' := by
  refine fun_run (m := 30) (rs := [.tmp 6]) Try.func103 rfl rfl rfl rfl rfl ?_
  have hs0 := HS.start w
  refine run_seq fun K1 k1 => ?_
  refine run_region ?_
  refine Ops.s (Step.box (cs := [.slice A xs.length c, .int .i64 half]) hs0 rfl rfl (fun b2 w3 hs3 hb3 => ?_) True.intro (by rfl))
  refine Ops.v (Yv.assign rfl) ?_
  refine Ops.nil ?_
  refine k1 _ _ ?_
  refine run_seq fun K5 k5 => ?_
  refine run_seq fun K6 k6 => ?_
  refine run_region ?_
  refine Ops.v (Yv.move rfl) ?_
  refine Ops.v (Yv.assign rfl) ?_
  refine Ops.nil ?_
  refine k6 _ _ ?_
  refine run_block ?_
  refine Run.sub [(0, _), (1, _), (2, _), (3, _), (7, _)] ⟨rfl, rfl, rfl, rfl, rfl, trivial⟩ ?_
  refine run_loop (σ := Nat) (fun k e_ w_ => HS w [.blk b2 [.slice A xs.length c, .int .i64 half] 115] w_ ∧ e_ = [(0, .agg #[.slice A xs.length c, .int .i64 half]), (1, .int .i64 a), (2, .int .i64 b), (3, .pointer (some ⟨b2, 0, none⟩)), (7, .int .i64 (a + (k : Int)))] ∧ k ≤ (b + 1 - a).toNat ∧ flatTo xs half a k = true)
    (fun k => (b + 1 - a).toNat - k) 0 ?_ ?_
  · -- at the start
    refine ⟨hs3, by simp, by omega, rfl⟩
  · -- a round
    rintro k _ w7 ⟨hs7, rfl, f1, f2⟩
    refine run_seq fun K8 k8 => ?_
    refine run_seq fun K9 k9 => ?_
    refine run_region ?_
    refine Ops.v (Yv.move rfl) ?_
    refine Ops.v (Yv.move rfl) ?_
    refine Ops.v (Yv.le rfl rfl) ?_
    refine Ops.nil ?_
    refine k9 _ _ ?_
    refine run_ifp rfl (fun h10 => ?_) (fun h10 => ?_)
    · -- yes (a + (k : Int)) ≤ b
      refine run_skip ?_
      refine k8 _ _ ?_
      refine run_seq fun K11 k11 => ?_
      refine run_block ?_
      refine run_seq fun K12 k12 => ?_
      refine Run.cut (fun e_ w_ => HS w [.blk b2 [.slice A xs.length c, .int .i64 half] 115] w_ ∧ Le [(0, .agg #[.slice A xs.length c, .int .i64 half]), (1, .int .i64 a), (2, .int .i64 b), (3, .pointer (some ⟨b2, 0, none⟩)), (7, .int .i64 (a + (k : Int))), (11, .bool (decide ((a + (k : Int)) ≤ b))), (29, .bool (decide (((1 : Int) < (farF (pF xs half (a + (k : Int))) (pF xs half (0 : Int)))) ∨ ((1 : Int) < (farF (qF xs half (a + (k : Int))) (qF xs half (0 : Int)))))))] e_) ?_ ?_
      · -- region 4: its ways meet again
        refine run_drawn [] (fun x => Below (w7.drew).heap.size (w7.drew) x) ?_ Tf.mixed (by kernel_rfl) (fun _ _ _ h => h)
        have hs13 := hs7.drew
        have hS14 := Below.refl (w7.drew).heap.size (w7.drew)
        refine Drw.l 0 rfl (by kernel_rfl) hS14 (Yv.loadn (cs := [.slice A xs.length c, .int .i64 half]) A115 S115 rfl (fun _ hq_ => ((hs13.grow hq_).cells 0 rfl 0 2))) ?_
        refine Drw.a 1 rfl (by kernel_rfl) (Yv.move rfl) ?_
        refine Drw.l 3 rfl (by kernel_rfl) hS14 (Yv.loadn (cs := [.slice A xs.length c, .int .i64 half]) A115 S115 rfl (fun _ hq_ => ((hs13.grow hq_).cells 0 rfl 0 2))) ?_
        refine Drw.one 2 rfl (by kernel_rfl) (Step.call rfl rfl (line_p_fun (hs13.rd hr) hx (by omega) (by omega) (by omega)) (?_) True.intro (by rfl))
        rintro _ w16 ⟨rfl, hs16⟩
        have hS17 := HS.keepS hS14 (Nat.le_refl _) hs16
        refine ⟨fun _ _ => hS17, ?_⟩
        replace hs16 := hs13.call hs16
        have g15 := pF_bytes hx half (a + (k : Int))
        refine Drw.one 4 rfl (by kernel_rfl) (Step.call rfl rfl (line_p_fun (hs16.rd hr) hx (by omega) (by omega) (by omega)) (?_) True.intro (by rfl))
        rintro _ w19 ⟨rfl, hs19⟩
        have hS20 := HS.keepS hS17 (Nat.le_refl _) hs19
        refine ⟨fun _ _ => hS20, ?_⟩
        replace hs19 := hs16.call hs19
        have g18 := pF_bytes hx half (0 : Int)
        refine Drw.one 5 rfl (by kernel_rfl) (Step.call rfl rfl (far_fun (by omega) (by omega)) (?_) True.intro (by rfl))
        rintro _ _ ⟨rfl, rfl⟩
        refine ⟨fun _ h => h, ?_⟩
        have g21 := farF_bd (pF xs half (a + (k : Int))) (pF xs half (0 : Int))
        refine Drw.a 6 rfl (by kernel_rfl) (Yv.gt rfl rfl) ?_
        refine Drw.dec (fun h23 => ?_) (fun h23 => ?_)
        · -- yes
          refine Drw.a 7 rfl (by kernel_rfl) (Yv.move rfl) ?_
          refine Drw.no 8 rfl (by kernel_rfl) ?_ ⟨_, rfl, rfl⟩
          refine Drw.no 9 rfl (by kernel_rfl) ?_ ⟨_, rfl, rfl⟩
          refine Drw.no 10 rfl (by kernel_rfl) ?_ ⟨_, rfl, rfl⟩
          refine Drw.no 11 rfl (by kernel_rfl) ?_ ⟨_, rfl, rfl⟩
          refine Drw.no 12 rfl (by kernel_rfl) ?_ ⟨_, rfl, rfl⟩
          refine Drw.no 13 rfl (by kernel_rfl) ?_ ⟨_, rfl, rfl⟩
          refine Drw.no 14 rfl (by kernel_rfl) ?_ ⟨_, rfl, rfl⟩
          refine Drw.a 15 rfl (by kernel_rfl) (Yv.pick1 rfl rfl) ?_
          refine Drw.done ?_ (by kernel_rfl)
          refine ⟨hs19, Sub.le ⟨rfl, rfl, rfl, rfl, rfl, rfl, lookB rfl (by first | (simp only [h23, ne_eq, not_true_eq_false, not_false_eq_true, or_true, true_or, or_false, false_or, and_true, true_and, and_false, false_and, decide_true, decide_false, or_self, and_self, Bool.decide_eq_true]; done) | simp [h23]), trivial⟩⟩
        · -- no
          refine Drw.a 7 rfl (by kernel_rfl) (Yv.move rfl) ?_
          refine Drw.l 8 rfl (by kernel_rfl) hS20 (Yv.loadn (cs := [.slice A xs.length c, .int .i64 half]) A115 S115 rfl (fun _ hq_ => ((hs13.grow hq_).cells 0 rfl 0 2))) ?_ ⟨_, rfl, rfl⟩
          refine Drw.a 9 rfl (by kernel_rfl) (Yv.move rfl) ?_ ⟨_, rfl, rfl⟩
          refine Drw.l 11 rfl (by kernel_rfl) hS20 (Yv.loadn (cs := [.slice A xs.length c, .int .i64 half]) A115 S115 rfl (fun _ hq_ => ((hs13.grow hq_).cells 0 rfl 0 2))) ?_ ⟨_, rfl, rfl⟩
          refine Drw.one 10 rfl (by kernel_rfl) (Step.call rfl rfl (line_q_fun (hs19.rd hr) hx (by omega) (by omega) (by omega)) (?_) ⟨_, rfl, rfl⟩ (by rfl))
          rintro _ w25 ⟨rfl, hs25⟩
          have hS26 := HS.keepS hS20 (Nat.le_refl _) hs25
          refine ⟨fun _ _ => hS26, ?_⟩
          replace hs25 := hs19.call hs25
          have g24 := qF_bytes hx half (a + (k : Int))
          refine Drw.one 12 rfl (by kernel_rfl) (Step.call rfl rfl (line_q_fun (hs25.rd hr) hx (by omega) (by omega) (by omega)) (?_) ⟨_, rfl, rfl⟩ (by rfl))
          rintro _ w28 ⟨rfl, hs28⟩
          have hS29 := HS.keepS hS26 (Nat.le_refl _) hs28
          refine ⟨fun _ _ => hS29, ?_⟩
          replace hs28 := hs25.call hs28
          have g27 := qF_bytes hx half (0 : Int)
          refine Drw.one 13 rfl (by kernel_rfl) (Step.call rfl rfl (far_fun (by omega) (by omega)) (?_) ⟨_, rfl, rfl⟩ (by rfl))
          rintro _ _ ⟨rfl, rfl⟩
          refine ⟨fun _ h => h, ?_⟩
          have g30 := farF_bd (qF xs half (a + (k : Int))) (qF xs half (0 : Int))
          refine Drw.a 14 rfl (by kernel_rfl) (Yv.gt rfl rfl) ?_ ⟨_, rfl, rfl⟩
          refine Drw.a 15 rfl (by kernel_rfl) (Yv.pick0 rfl rfl) ?_
          refine Drw.done ?_ (by kernel_rfl)
          refine ⟨hs28, Sub.le ⟨rfl, rfl, rfl, rfl, rfl, rfl, lookB rfl (by first | (simp only [h23, ne_eq, not_true_eq_false, not_false_eq_true, or_true, true_or, or_false, false_or, and_true, true_and, and_false, false_and, decide_true, decide_false, or_self, and_self, Bool.decide_eq_true]; done) | simp [h23]), trivial⟩⟩
      rintro e38 w38 ⟨hs38, he38⟩
      refine k12 _ _ ?_
      refine Run.le he38 ?_
      refine run_ifp rfl (fun h39 => ?_) (fun h39 => ?_)
      · -- yes ((1 : Int) < (farF (pF xs half (a + (k : Int))) (pF xs half (0 : Int)))) ∨ ((1 : Int) < (farF (qF xs half (a + (k : Int))) (qF xs half (0 : Int))))
        refine run_seq fun K40 k40 => ?_
        refine run_region ?_
        refine Ops.v (Yv.assign rfl) ?_
        refine Ops.nil ?_
        refine k40 _ _ ?_
        refine run_ret ?_
        refine ⟨[.bool false], ⟨_, _, rfl, rfl, rfl⟩, ?_⟩
        refine ⟨?_, hs38.pick [] _ (by decide) rfl⟩
        show Value.bool false = .bool _
        unfold flatF
        rw [flatTo_false (k := k) (decide_eq_false (fun hn => hn h39)) _ (by omega)]
      · -- no
        refine run_skip ?_
        refine k11 _ _ ?_
        refine run_region ?_
        refine Ops.v (Yv.move rfl) ?_
        refine Ops.v (Yv.add rfl rfl (by omega)) ?_
        refine Ops.v (Yv.assign rfl) ?_
        refine Ops.nil ?_
        refine ⟨k + 1, _, ⟨hs38, rfl, by omega, (by unfold flatTo flatAt; rw [f2, decide_eq_true h39]; rfl)⟩, Sub.le ⟨rfl, rfl, rfl, rfl, lookI rfl (by omega), trivial⟩, by omega⟩
    · -- no
      refine run_exit ?_
      refine k5 _ _ ?_
      refine run_seq fun K41 k41 => ?_
      refine run_region ?_
      refine Ops.v (Yv.assign rfl) ?_
      refine Ops.nil ?_
      refine k41 _ _ ?_
      refine run_ret ?_
      refine ⟨[.bool true], ⟨_, _, rfl, rfl, rfl⟩, ?_⟩
      refine ⟨?_, hs7.pick [] _ (by decide) rfl⟩
      show Value.bool true = .bool _
      unfold flatF
      rw [show (b + 1 - a).toNat = k from by omega, f2]

theorem clone_fun {w : World} {A : Option Addr} {m c : Nat} {xs : List Int} (hr : Rd w A m 1 (u8s xs)) (hm : m ≤ 140737488355328) : Fun Try.prog 54 [.slice A m c] w fun v w' => ∃ A' c', v = .slice A' m c' ∧ HS w [.row A' m c' (u8s xs) 5 1] w' := by
  refine fun_run (m := 8) (rs := [.tmp 2]) Try.func54 rfl rfl rfl rfl rfl ?_
  have hs0 := HS.start w
  refine run_seq fun K1 k1 => ?_
  refine run_region ?_
  refine Ops.v (Yv.assign rfl) ?_
  refine Ops.nil ?_
  refine k1 _ _ ?_
  refine run_seq fun K2 k2 => ?_
  refine run_seq fun K3 k3 => ?_
  refine run_region ?_
  refine Ops.v (Yv.move rfl) ?_
  refine Ops.v (Yv.eqNil (by rw [L23]; rfl) rfl rfl) ?_
  refine Ops.nil ?_
  refine k3 _ _ ?_
  refine run_if rfl (fun h4 => ?_) (fun h4 => ?_)
  · -- yes Option.isNone A
    refine run_seq fun K5 k5 => ?_
    refine run_region ?_
    refine Ops.v (Yv.assign rfl) ?_
    refine Ops.nil ?_
    refine k5 _ _ ?_
    refine run_ret ?_
    refine ⟨[.slice none 0 0], ⟨_, _, rfl, rfl, rfl⟩, ?_⟩
    have h0 : m = 0 := by
      rcases Nat.eq_zero_or_pos m with h | h
      · exact h
      · have := hr.some_ h
        rw [Option.isNone_iff_eq_none.1 h4] at this
        cases this
    have hx0 : xs = [] := List.eq_nil_of_length_eq_zero (by have := hr.len; rw [u8s_length] at this; omega)
    subst h0 hx0
    exact ⟨none, 0, rfl, hs0.nilRow 5 1⟩
  · -- no
    refine run_skip ?_
    refine k2 _ _ ?_
    refine run_seq fun K6 k6 => ?_
    refine run_region ?_
    refine Ops.s (Step.lit0 hs0 L23 (fun b8 w7 hs7 hb7 => ?_) True.intro (by rfl))
    refine Ops.v (Yv.move rfl) ?_
    refine Ops.s (Step.append0 0 hs7 rfl rfl L23 Z5 rfl (by decide) rfl (hs7.rd hr) (u8s_one _) (by omega) (by decide) (fun Ad11 c12 w10 hs10 => ?_) True.intro (by rfl))
    replace hs10 : HS w [.row Ad11 m c12 (u8s xs) 5 1] w10 := by simpa only [List.set, u8s_append] using hs10
    refine Ops.v (Yv.assign rfl) ?_
    refine Ops.nil ?_
    refine k6 _ _ ?_
    refine run_ret ?_
    refine ⟨[.slice Ad11 m c12], ⟨_, _, rfl, rfl, rfl⟩, ?_⟩
    exact ⟨_, _, rfl, hs10.pick [0] _ (by decide) rfl⟩

theorem wide_fun {w : World} {A : Option Addr} {c : Nat} {xs : List Int} {half : Int} (hr : Rd w A xs.length 1 (u8s xs)) (hx : Bytes xs) {n mid sh : Int} (hh : 2 ≤ half ∧ half ≤ 7) (hl : (xs.length : Int) = 2 * half) (hn : 0 ≤ n ∧ n + 1 ≤ half) (hmid : 0 ≤ mid ∧ mid ≤ n) (hsh : sh = 3 ∨ sh = 4) : Fun Try.prog 104 [.agg #[.slice A xs.length c, .int .i64 half], .int .i64 n, .int .i64 mid, .int .i64 sh] w fun v w' => ∃ A' c', v = .slice A' xs.length c' ∧ HS w [.row A' xs.length c' (u8s (wideF xs half n mid sh)) 5 1] w' := by
  refine fun_run (m := 73) (rs := [.tmp 8]) Try.func104 rfl rfl rfl rfl rfl ?_
  have hs0 := HS.start w
  have hp1 : (2 : Int) ^ (sh - 1).toNat = 4 ∨ (2 : Int) ^ (sh - 1).toNat = 8 := by rcases hsh with rfl | rfl <;> decide
  refine run_seq fun K1 k1 => ?_
  refine run_region ?_
  refine Ops.s (Step.box (cs := [.slice A xs.length c, .int .i64 half]) hs0 rfl rfl (fun b2 w3 hs3 hb3 => ?_) True.intro (by rfl))
  refine Ops.v (Yv.assign rfl) ?_
  refine Ops.nil ?_
  refine k1 _ _ ?_
  refine run_seq fun K5 k5 => ?_
  refine run_region ?_
  refine Ops.v (Yv.fld F115_0 rfl) ?_
  refine Ops.v (Yv.load A23 rfl (now (hs3.cell 0 rfl 0 rfl))) ?_
  refine Ops.s (Step.call rfl rfl (clone_fun (hs3.rd hr) (by omega)) (?_) True.intro (by rfl))
  rintro _ w9 ⟨Ad6, c7, rfl, hs9⟩
  replace hs9 := hs3.call hs9
  refine Ops.v (Yv.assign rfl) ?_
  refine Ops.nil ?_
  refine k5 _ _ ?_
  refine run_seq fun K10 k10 => ?_
  refine run_seq fun K11 k11 => ?_
  refine run_region ?_
  refine Ops.v (Yv.move rfl) ?_
  refine Ops.v (Yv.neg rfl (by omega)) ?_
  refine Ops.v (Yv.assign rfl) ?_
  refine Ops.nil ?_
  refine k11 _ _ ?_
  refine run_block ?_
  refine Run.sub [(0, _), (1, _), (2, _), (3, _), (4, _), (8, _), (9, _), (10, _)] ⟨rfl, rfl, rfl, rfl, rfl, rfl, rfl, rfl, trivial⟩ ?_
  refine run_loop (σ := Nat) (fun k e_ w_ => HS w [.row Ad6 xs.length c7 (u8s (wideTo xs half n mid sh k)) 5 1, .blk b2 [.slice A xs.length c, .int .i64 half] 115] w_ ∧ e_ = [(0, .agg #[.slice A xs.length c, .int .i64 half]), (1, .int .i64 n), (2, .int .i64 mid), (3, .int .i64 sh), (4, .pointer (some ⟨b2, 0, none⟩)), (8, .slice none 0 0), (9, .slice Ad6 xs.length c7), (10, .int .i64 (-n + (k : Int)))] ∧ (k : Int) ≤ 2 * n)
    (fun k => (2 * n).toNat - k) 0 ?_ ?_
  · -- at the start
    refine ⟨hs9, by simp, by omega⟩
  · -- a round
    rintro k _ w12 ⟨hs12, rfl, f1⟩
    have hlk := wideTo_length xs half n mid sh k
    refine run_seq fun K13 k13 => ?_
    refine run_seq fun K14 k14 => ?_
    refine run_region ?_
    refine Ops.v (Yv.move rfl) ?_
    refine Ops.v (Yv.move rfl) ?_
    refine Ops.v (Yv.lt rfl rfl) ?_
    refine Ops.nil ?_
    refine k14 _ _ ?_
    refine run_ifp rfl (fun h15 => ?_) (fun h15 => ?_)
    · -- yes (-n + (k : Int)) < n
      refine run_skip ?_
      refine k13 _ _ ?_
      refine run_seq fun K16 k16 => ?_
      refine run_block ?_
      refine run_seq fun K17 k17 => ?_
      refine run_region ?_
      refine Ops.v (Yv.assign rfl) ?_
      refine Ops.nil ?_
      refine k17 _ _ ?_
      refine run_seq fun K18 k18 => ?_
      refine run_seq fun K19 k19 => ?_
      refine run_region ?_
      refine Ops.v (Yv.move rfl) ?_
      refine Ops.v (Yv.neg rfl (by omega)) ?_
      refine Ops.v (Yv.assign rfl) ?_
      refine Ops.nil ?_
      refine k19 _ _ ?_
      refine run_block ?_
      refine Run.sub [(0, _), (1, _), (2, _), (3, _), (4, _), (8, _), (9, _), (10, _), (11, _), (12, _), (21, _)] ⟨rfl, rfl, rfl, rfl, rfl, rfl, rfl, rfl, rfl, rfl, rfl, trivial⟩ ?_
      refine run_loop (σ := Nat) (fun q e_ w_ => HS w [.row Ad6 xs.length c7 (u8s (wideTo xs half n mid sh k)) 5 1, .blk b2 [.slice A xs.length c, .int .i64 half] 115] w_ ∧ e_ = [(0, .agg #[.slice A xs.length c, .int .i64 half]), (1, .int .i64 n), (2, .int .i64 mid), (3, .int .i64 sh), (4, .pointer (some ⟨b2, 0, none⟩)), (8, .slice none 0 0), (9, .slice Ad6 xs.length c7), (10, .int .i64 (-n + (k : Int))), (11, .int .i64 (sumTo xs half n mid (-n + (k : Int)) q)), (12, .int .i64 (-n + (q : Int))), (21, .bool (decide ((-n + (k : Int)) < n)))] ∧ (q : Int) ≤ 2 * n + 1)
        (fun q => (2 * n + 1).toNat - q) 0 ?_ ?_
      · -- at the start
        refine ⟨hs12, by simp [sumTo], by omega⟩
      · -- a round
        rintro q _ w20 ⟨hs20, rfl, f2⟩
        have hsum := sumTo_bd hx half n mid (-n + (k : Int)) q
        refine run_seq fun K21 k21 => ?_
        refine run_seq fun K22 k22 => ?_
        refine run_region ?_
        refine Ops.v (Yv.move rfl) ?_
        refine Ops.v (Yv.move rfl) ?_
        refine Ops.v (Yv.le rfl rfl) ?_
        refine Ops.nil ?_
        refine k22 _ _ ?_
        refine run_ifp rfl (fun h23 => ?_) (fun h23 => ?_)
        · -- yes (-n + (q : Int)) ≤ n
          refine run_skip ?_
          refine k21 _ _ ?_
          refine run_seq fun K24 k24 => ?_
          refine run_block ?_
          refine run_seq fun K25 k25 => ?_
          refine run_drawn [] (fun x => Below (w20.drew).heap.size (w20.drew) x) ?_ Tf.mixed (by kernel_rfl) (fun _ _ _ h => h)
          have hs26 := hs20.drew
          have hS27 := Below.refl (w20.drew).heap.size (w20.drew)
          refine Drw.a 0 rfl (by kernel_rfl) (Yv.fld F115_0 rfl) ?_
          refine Drw.l 1 rfl (by kernel_rfl) hS27 (Yv.load A23 rfl (fun _ hq_ => ((hs26.grow hq_).cell 1 rfl 0 rfl))) ?_
          refine Drw.a 2 rfl (by kernel_rfl) (Yv.fld F115_1 rfl) ?_
          refine Drw.l 3 rfl (by kernel_rfl) hS27 (Yv.load A3 rfl (fun _ hq_ => ((hs26.grow hq_).cell 1 rfl 1 rfl))) ?_
          refine Drw.a 4 rfl (by kernel_rfl) (Yv.move rfl) ?_
          refine Drw.a 5 rfl (by kernel_rfl) (Yv.move rfl) ?_
          refine Drw.a 6 rfl (by kernel_rfl) (Yv.add rfl rfl (by omega)) ?_
          refine Drw.a 7 rfl (by kernel_rfl) (Yv.move rfl) ?_
          refine Drw.a 8 rfl (by kernel_rfl) (Yv.neg rfl (by omega)) ?_
          refine Drw.a 9 rfl (by kernel_rfl) (Yv.sub rfl rfl (by omega)) ?_
          refine Drw.a 10 rfl (by kernel_rfl) (Yv.move rfl) ?_
          refine Drw.one 11 rfl (by kernel_rfl) (Step.call rfl rfl (clip_fun) (?_) True.intro (by rfl))
          rintro _ _ ⟨rfl, rfl⟩
          refine ⟨fun _ h => h, ?_⟩
          have g28 : clipF ((-n + (k : Int)) + (-n + (q : Int))) ((-n) - 1) n = min (max ((-n + (k : Int)) + (-n + (q : Int))) ((-n) - 1)) n := rfl
          refine Drw.a 12 rfl (by kernel_rfl) (Yv.add rfl rfl (by omega)) ?_
          refine Drw.a 13 rfl (by kernel_rfl) (Yv.idx L23 rfl rfl ((hs26.rd hr).isSome (i := half + (clipF ((-n + (k : Int)) + (-n + (q : Int))) ((-n) - 1) n)) (by omega) (by omega)) (by omega) (by omega)) ?_
          refine Drw.l 14 rfl (by kernel_rfl) hS27 (Yv.load A5 rfl (fun _ hq_ => (((hs26.grow hq_).rd hr).u8 (by omega) (by omega)))) ?_
          have g30 := gi_bytes (xs := xs) hx (half + (clipF ((-n + (k : Int)) + (-n + (q : Int))) ((-n) - 1) n))
          refine Drw.a 15 rfl (by kernel_rfl) (Yv.toInt U3 V5 rfl (by omega)) ?_
          refine Drw.a 16 rfl (by kernel_rfl) (Yv.assign rfl) ?_
          refine Drw.done ?_ (by kernel_rfl)
          refine k25 _ _ ?_
          refine run_seq fun K31 k31 => ?_
          refine run_region ?_
          refine Ops.v (Yv.move rfl) ?_
          refine Ops.v (Yv.move rfl) ?_
          refine Ops.v (Yv.add rfl rfl (by omega)) ?_
          refine Ops.v (Yv.assign rfl) ?_
          refine Ops.nil ?_
          refine k31 _ _ ?_
          refine run_seq fun K32 k32 => ?_
          refine run_region ?_
          refine Ops.v (Yv.move rfl) ?_
          refine Ops.v (Yv.move rfl) ?_
          refine Ops.v (Yv.neg rfl (by omega)) ?_
          refine Ops.v (Yv.move rfl) ?_
          refine Ops.s (Step.call rfl rfl (within_fun) (?_) True.intro (by rfl))
          rintro _ _ ⟨rfl, rfl⟩
          refine Ops.nil ?_
          refine k32 _ _ ?_
          refine run_ifp rfl (fun h34 => ?_) (fun h34 => ?_)
          · -- yes (-mid) ≤ (-n + (q : Int)) ∧ (-n + (q : Int)) ≤ mid
            refine run_region ?_
            refine Ops.v (Yv.move rfl) ?_
            refine Ops.v (Yv.move rfl) ?_
            refine Ops.v (Yv.add rfl rfl (by omega)) ?_
            refine Ops.v (Yv.assign rfl) ?_
            refine Ops.nil ?_
            refine k24 _ _ ?_
            refine run_region ?_
            refine Ops.v (Yv.move rfl) ?_
            refine Ops.v (Yv.add rfl rfl (by omega)) ?_
            refine Ops.v (Yv.assign rfl) ?_
            refine Ops.nil ?_
            refine ⟨q + 1, _, ⟨hs26, rfl, by omega⟩, Sub.le ⟨rfl, rfl, rfl, rfl, rfl, rfl, rfl, rfl, lookI rfl (by first | exact (if_pos h34).symm | exact (if_neg h34).symm), lookI rfl (by omega), rfl, trivial⟩, by omega⟩
          · -- no
            refine run_skip ?_
            refine k24 _ _ ?_
            refine run_region ?_
            refine Ops.v (Yv.move rfl) ?_
            refine Ops.v (Yv.add rfl rfl (by omega)) ?_
            refine Ops.v (Yv.assign rfl) ?_
            refine Ops.nil ?_
            refine ⟨q + 1, _, ⟨hs26, rfl, by omega⟩, Sub.le ⟨rfl, rfl, rfl, rfl, rfl, rfl, rfl, rfl, lookI rfl (by first | exact (if_pos h34).symm | exact (if_neg h34).symm), lookI rfl (by omega), rfl, trivial⟩, by omega⟩
        · -- no
          refine run_exit ?_
          have hq : q = (2 * n + 1).toNat := by omega
          refine k18 _ _ ?_
          refine run_drawn [14] (fun x => Below (w20.drew).heap.size (w20.drew) x) ?_ Tf.mixed (by kernel_rfl) (fun _ _ _ h => h)
          have hs35 := hs20.drew
          have hS36 := Below.refl (w20.drew).heap.size (w20.drew)
          refine Drw.a 0 rfl (by kernel_rfl) (Yv.move rfl) ?_
          refine Drw.a 1 rfl (by kernel_rfl) (Yv.fld F115_1 rfl) ?_
          refine Drw.l 2 rfl (by kernel_rfl) hS36 (Yv.load A3 rfl (fun _ hq_ => ((hs35.grow hq_).cell 1 rfl 1 rfl))) ?_
          refine Drw.a 3 rfl (by kernel_rfl) (Yv.move rfl) ?_
          refine Drw.a 4 rfl (by kernel_rfl) (Yv.add rfl rfl (by omega)) ?_
          refine Drw.a 5 rfl (by kernel_rfl) (Yv.move rfl) ?_
          refine Drw.a 6 rfl (by kernel_rfl) (Yv.move rfl) ?_
          refine Drw.a 7 rfl (by kernel_rfl) (Yv.sub rfl rfl (by omega)) ?_
          refine Drw.a 8 rfl (by kernel_rfl) (Yv.shl rfl rfl ((sh - 1).toNat) (by first | rfl | omega) (by omega) (by omega)) ?_
          refine Drw.a 9 rfl (by kernel_rfl) (Yv.add rfl rfl (by omega)) ?_
          refine Drw.a 10 rfl (by kernel_rfl) (Yv.move rfl) ?_
          refine Drw.a 11 rfl (by kernel_rfl) (Yv.shr rfl rfl sh.toNat (by first | rfl | omega) (by omega)) ?_
          refine Drw.a 12 rfl (by kernel_rfl) (Yv.toU8 U5 V3 rfl) ?_
          refine Drw.a 13 rfl (by kernel_rfl) (Yv.idx L23 rfl rfl ((hs35.rdRow 0 rfl).isSome (i := half + (-n + (k : Int))) (by omega) (by omega)) (by omega) (by omega)) ?_
          refine Drw.one 14 rfl (by kernel_rfl) (Step.storeRow (vs := [.int .u8 ((((sumTo xs half n mid (-n + (k : Int)) q) + (1 * 2 ^ ((sh - 1).toNat))) / 2 ^ sh.toNat) % 256)]) 0 hs35 rfl rfl rfl rfl S5 (by have hl_ := (hs35.rdRow 0 rfl).len; show (half + (-n + (k : Int))).toNat * 1 + 1 ≤ _; omega) (Nat.succ_pos _) rfl (fun w37 hs37 => ?_) True.intro)
          refine ⟨fun h => absurd h (by decide), ?_⟩
          have hs37_ := u8s_put (xs := wideTo xs half n mid sh k) (i := (half + (-n + (k : Int))).toNat * 1) (v := (((sumTo xs half n mid (-n + (k : Int)) q) + (1 * 2 ^ ((sh - 1).toNat))) / 2 ^ sh.toNat) % 256) (by have hl_ := (hs35.rdRow 0 rfl).len; rw [u8s_length] at hl_; omega)
          simp only [Nat.mul_one] at hs37_
          replace hs37 : HS w [.row Ad6 xs.length c7 (u8s ((wideTo xs half n mid sh k).set ((half + (-n + (k : Int))).toNat) ((((sumTo xs half n mid (-n + (k : Int)) q) + (1 * 2 ^ ((sh - 1).toNat))) / 2 ^ sh.toNat) % 256))) 5 1, .blk b2 [.slice A xs.length c, .int .i64 half] 115] w37 := by simpa only [List.set, Nat.mul_one, hs37_] using hs37
          refine Drw.done ?_ (by kernel_rfl)
          refine k16 _ _ ?_
          refine run_region ?_
          refine Ops.v (Yv.move rfl) ?_
          refine Ops.v (Yv.add rfl rfl (by omega)) ?_
          refine Ops.v (Yv.assign rfl) ?_
          refine Ops.nil ?_
          refine ⟨k + 1, _, ⟨(hs37.to (by rw [hq]; rfl)), rfl, by omega⟩, Sub.le ⟨rfl, rfl, rfl, rfl, rfl, rfl, rfl, lookI rfl (by omega), trivial⟩, by omega⟩
    · -- no
      refine run_exit ?_
      refine k10 _ _ ?_
      refine run_seq fun K38 k38 => ?_
      refine run_region ?_
      refine Ops.v (Yv.move rfl) ?_
      refine Ops.v (Yv.assign rfl) ?_
      refine Ops.nil ?_
      refine k38 _ _ ?_
      refine run_ret ?_
      refine ⟨[.slice Ad6 xs.length c7], ⟨_, _, rfl, rfl, rfl⟩, ?_⟩
      have hk : k = (2 * n).toNat := by omega
      have hz := hs12.pick [0] [.row Ad6 xs.length c7 (u8s (wideTo xs half n mid sh k)) 5 1] (by decide) rfl
      exact ⟨_, _, rfl, hz.to (by unfold wideF; rw [hk])⟩

theorem bounds_fun {w : World} {lv sh : Int} (hl : 0 ≤ lv ∧ lv ≤ 63) (hs : 0 ≤ sh ∧ sh ≤ 7) : Fun Try.prog 55 [.int .i64 lv, .int .i64 sh] w fun v w' => v = .agg #[.int .i64 (limitF lv sh), .int .i64 (edgeF lv sh), .int .i64 (thrF lv)] ∧ HS w [] w' := by
  refine fun_run (m := 34) (rs := [.cell 4 111]) Try.func55 rfl rfl rfl rfl rfl ?_
  have hs0 := HS.start w
  refine run_seq fun K1 k1 => ?_
  refine run_region ?_
  refine Ops.s (Step.alloc (cs := [.int .i64 0, .int .i64 0, .int .i64 0]) hs0 Z111 rfl (fun b2 w3 hs3 hb3 => ?_) True.intro (by rfl))
  refine Ops.nil ?_
  refine k1 _ _ ?_
  refine run_seq fun K5 k5 => ?_
  refine run_region ?_
  refine Ops.v (Yv.move rfl) ?_
  refine Ops.v (Yv.assign rfl) ?_
  refine Ops.nil ?_
  refine k5 _ _ ?_
  refine run_seq fun K6 k6 => ?_
  refine run_block ?_
  refine run_seq fun K7 k7 => ?_
  refine run_region ?_
  refine Ops.v (Yv.move rfl) ?_
  refine Ops.v (Yv.gt rfl rfl) ?_
  refine Ops.v (Yv.assign rfl) ?_
  refine Ops.nil ?_
  refine k7 _ _ ?_
  refine run_ifp rfl (fun h8 => ?_) (fun h8 => ?_)
  · -- yes (4 : Int) < sh
    refine run_region ?_
    refine Ops.v (Yv.move rfl) ?_
    refine Ops.v (Yv.shr rfl rfl 2 (by first | rfl | omega) (by omega)) ?_
    refine Ops.v (Yv.move rfl) ?_
    refine Ops.v (Yv.sub rfl rfl (by omega)) ?_
    refine Ops.v (Yv.min rfl rfl) ?_
    refine Ops.v (Yv.assign rfl) ?_
    refine Ops.nil ?_
    refine k6 _ _ ?_
    refine run_seq fun K9 k9 => ?_
    refine run_region ?_
    refine Ops.v (Yv.move rfl) ?_
    refine Ops.v (Yv.max rfl rfl) ?_
    refine Ops.v (Yv.assign rfl) ?_
    refine Ops.nil ?_
    refine k9 _ _ ?_
    refine run_seq fun K10 k10 => ?_
    refine run_region ?_
    refine Ops.v (Yv.move rfl) ?_
    refine Ops.v (Yv.move rfl) ?_
    refine Ops.v (Yv.add rfl rfl (by omega)) ?_
    refine Ops.v (Yv.mul rfl rfl (by omega)) ?_
    refine Ops.v (Yv.move rfl) ?_
    refine Ops.v (Yv.add rfl rfl (by omega)) ?_
    refine Ops.v (Yv.move rfl) ?_
    refine Ops.v (Yv.shr rfl rfl 4 (by first | rfl | omega) (by omega)) ?_
    refine Ops.v (Yv.buildS (cs := #[.int .i64 (max (min (lv / 2 ^ 2) ((9 : Int) - sh)) 1), .int .i64 (((2 : Int) * (lv + 2)) + (max (min (lv / 2 ^ 2) ((9 : Int) - sh)) 1)), .int .i64 (lv / 2 ^ 4)]) T111 rfl rfl) ?_
    refine Ops.s (Step.store (vs := [.int .i64 (max (min (lv / 2 ^ 2) ((9 : Int) - sh)) 1), .int .i64 (((2 : Int) * (lv + 2)) + (max (min (lv / 2 ^ 2) ((9 : Int) - sh)) 1)), .int .i64 (lv / 2 ^ 4)]) 0 hs3 rfl rfl rfl rfl S111 (Nat.le_of_ble_eq_true rfl) rfl (fun w11 hs11 => ?_) True.intro)
    replace hs11 : HS _ [.blk _ [_, _, _] _] _ := hs11
    refine Ops.nil ?_
    refine k10 _ _ ?_
    refine run_ret ?_
    refine ⟨[.agg #[.int .i64 (max (min (lv / 2 ^ 2) ((9 : Int) - sh)) 1), .int .i64 (((2 : Int) * (lv + 2)) + (max (min (lv / 2 ^ 2) ((9 : Int) - sh)) 1)), .int .i64 (lv / 2 ^ 4)]], ⟨_, _, _, rfl, rfl, run_loadn (cs := [.int .i64 (max (min (lv / 2 ^ 2) ((9 : Int) - sh)) 1), .int .i64 (((2 : Int) * (lv + 2)) + (max (min (lv / 2 ^ 2) ((9 : Int) - sh)) 1)), .int .i64 (lv / 2 ^ 4)]) A111 S111 (hs11.cells 0 rfl 0 3), rfl⟩, ?_⟩
    refine ⟨?_, hs11.pick [] _ (by decide) rfl⟩
    simp [limitF, edgeF, thrF, h8]
  · -- no
    refine run_seq fun K12 k12 => ?_
    refine run_region ?_
    refine Ops.v (Yv.move rfl) ?_
    refine Ops.v (Yv.gt rfl rfl) ?_
    refine Ops.v (Yv.assign rfl) ?_
    refine Ops.nil ?_
    refine k12 _ _ ?_
    refine run_ifp rfl (fun h13 => ?_) (fun h13 => ?_)
    · -- yes (0 : Int) < sh
      refine run_region ?_
      refine Ops.v (Yv.move rfl) ?_
      refine Ops.v (Yv.shr rfl rfl 1 (by first | rfl | omega) (by omega)) ?_
      refine Ops.v (Yv.move rfl) ?_
      refine Ops.v (Yv.sub rfl rfl (by omega)) ?_
      refine Ops.v (Yv.min rfl rfl) ?_
      refine Ops.v (Yv.assign rfl) ?_
      refine Ops.nil ?_
      refine k6 _ _ ?_
      refine run_seq fun K14 k14 => ?_
      refine run_region ?_
      refine Ops.v (Yv.move rfl) ?_
      refine Ops.v (Yv.max rfl rfl) ?_
      refine Ops.v (Yv.assign rfl) ?_
      refine Ops.nil ?_
      refine k14 _ _ ?_
      refine run_seq fun K15 k15 => ?_
      refine run_region ?_
      refine Ops.v (Yv.move rfl) ?_
      refine Ops.v (Yv.move rfl) ?_
      refine Ops.v (Yv.add rfl rfl (by omega)) ?_
      refine Ops.v (Yv.mul rfl rfl (by omega)) ?_
      refine Ops.v (Yv.move rfl) ?_
      refine Ops.v (Yv.add rfl rfl (by omega)) ?_
      refine Ops.v (Yv.move rfl) ?_
      refine Ops.v (Yv.shr rfl rfl 4 (by first | rfl | omega) (by omega)) ?_
      refine Ops.v (Yv.buildS (cs := #[.int .i64 (max (min (lv / 2 ^ 1) ((9 : Int) - sh)) 1), .int .i64 (((2 : Int) * (lv + 2)) + (max (min (lv / 2 ^ 1) ((9 : Int) - sh)) 1)), .int .i64 (lv / 2 ^ 4)]) T111 rfl rfl) ?_
      refine Ops.s (Step.store (vs := [.int .i64 (max (min (lv / 2 ^ 1) ((9 : Int) - sh)) 1), .int .i64 (((2 : Int) * (lv + 2)) + (max (min (lv / 2 ^ 1) ((9 : Int) - sh)) 1)), .int .i64 (lv / 2 ^ 4)]) 0 hs3 rfl rfl rfl rfl S111 (Nat.le_of_ble_eq_true rfl) rfl (fun w16 hs16 => ?_) True.intro)
      replace hs16 : HS _ [.blk _ [_, _, _] _] _ := hs16
      refine Ops.nil ?_
      refine k15 _ _ ?_
      refine run_ret ?_
      refine ⟨[.agg #[.int .i64 (max (min (lv / 2 ^ 1) ((9 : Int) - sh)) 1), .int .i64 (((2 : Int) * (lv + 2)) + (max (min (lv / 2 ^ 1) ((9 : Int) - sh)) 1)), .int .i64 (lv / 2 ^ 4)]], ⟨_, _, _, rfl, rfl, run_loadn (cs := [.int .i64 (max (min (lv / 2 ^ 1) ((9 : Int) - sh)) 1), .int .i64 (((2 : Int) * (lv + 2)) + (max (min (lv / 2 ^ 1) ((9 : Int) - sh)) 1)), .int .i64 (lv / 2 ^ 4)]) A111 S111 (hs16.cells 0 rfl 0 3), rfl⟩, ?_⟩
      refine ⟨?_, hs16.pick [] _ (by decide) rfl⟩
      simp [limitF, edgeF, thrF, h8, h13]
    · -- no
      refine run_skip ?_
      refine k6 _ _ ?_
      refine run_seq fun K17 k17 => ?_
      refine run_region ?_
      refine Ops.v (Yv.move rfl) ?_
      refine Ops.v (Yv.max rfl rfl) ?_
      refine Ops.v (Yv.assign rfl) ?_
      refine Ops.nil ?_
      refine k17 _ _ ?_
      refine run_seq fun K18 k18 => ?_
      refine run_region ?_
      refine Ops.v (Yv.move rfl) ?_
      refine Ops.v (Yv.move rfl) ?_
      refine Ops.v (Yv.add rfl rfl (by omega)) ?_
      refine Ops.v (Yv.mul rfl rfl (by omega)) ?_
      refine Ops.v (Yv.move rfl) ?_
      refine Ops.v (Yv.add rfl rfl (by omega)) ?_
      refine Ops.v (Yv.move rfl) ?_
      refine Ops.v (Yv.shr rfl rfl 4 (by first | rfl | omega) (by omega)) ?_
      refine Ops.v (Yv.buildS (cs := #[.int .i64 (max lv 1), .int .i64 (((2 : Int) * (lv + 2)) + (max lv 1)), .int .i64 (lv / 2 ^ 4)]) T111 rfl rfl) ?_
      refine Ops.s (Step.store (vs := [.int .i64 (max lv 1), .int .i64 (((2 : Int) * (lv + 2)) + (max lv 1)), .int .i64 (lv / 2 ^ 4)]) 0 hs3 rfl rfl rfl rfl S111 (Nat.le_of_ble_eq_true rfl) rfl (fun w19 hs19 => ?_) True.intro)
      replace hs19 : HS _ [.blk _ [_, _, _] _] _ := hs19
      refine Ops.nil ?_
      refine k18 _ _ ?_
      refine run_ret ?_
      refine ⟨[.agg #[.int .i64 (max lv 1), .int .i64 (((2 : Int) * (lv + 2)) + (max lv 1)), .int .i64 (lv / 2 ^ 4)]], ⟨_, _, _, rfl, rfl, run_loadn (cs := [.int .i64 (max lv 1), .int .i64 (((2 : Int) * (lv + 2)) + (max lv 1)), .int .i64 (lv / 2 ^ 4)]) A111 S111 (hs19.cells 0 rfl 0 3), rfl⟩, ?_⟩
      refine ⟨?_, hs19.pick [] _ (by decide) rfl⟩
      simp [limitF, edgeF, thrF, h8, h13]

theorem reach_fun {w : World} {r : Int} {co : Bool} : Fun Try.prog 56 [.int .i64 r, .bool co] w fun v w' => v = .int .i64 (tapsF r co) ∧ w = w' := by
  refine fun_run (m := 13) (rs := [.tmp 4]) Try.func56 rfl rfl rfl rfl rfl ?_
  have hs0 := HS.start w
  refine run_seq fun K1 k1 => ?_
  refine run_region ?_
  refine Ops.v (Yv.assign rfl) ?_
  refine Ops.nil ?_
  refine k1 _ _ ?_
  refine run_seq fun K2 k2 => ?_
  refine run_block ?_
  refine run_seq fun K3 k3 => ?_
  refine run_region ?_
  refine Ops.v (Yv.move rfl) ?_
  refine Ops.v (Yv.lt rfl rfl) ?_
  refine Ops.v (Yv.assign rfl) ?_
  refine Ops.nil ?_
  refine k3 _ _ ?_
  refine run_ifp rfl (fun h4 => ?_) (fun h4 => ?_)
  · -- yes r < (8 : Int)
    refine run_seq fun K5 k5 => ?_
    refine run_region ?_
    refine Ops.v (Yv.assign rfl) ?_
    refine Ops.nil ?_
    refine k5 _ _ ?_
    refine run_ret ?_
    refine ⟨[.int .i64 4], ⟨_, _, rfl, rfl, rfl⟩, ?_⟩
    refine ⟨?_, rfl⟩
    simp [tapsF, h4]
  · -- no
    refine run_seq fun K6 k6 => ?_
    refine run_region ?_
    refine Ops.v (Yv.move rfl) ?_
    refine Ops.v (Yv.assign rfl) ?_
    refine Ops.nil ?_
    refine k6 _ _ ?_
    refine run_if rfl (fun h7 => ?_) (fun h7 => ?_)
    · -- yes co
      refine run_seq fun K8 k8 => ?_
      refine run_region ?_
      refine Ops.v (Yv.assign rfl) ?_
      refine Ops.nil ?_
      refine k8 _ _ ?_
      refine run_ret ?_
      refine ⟨[.int .i64 6], ⟨_, _, rfl, rfl, rfl⟩, ?_⟩
      refine ⟨?_, rfl⟩
      simp [tapsF, h4, h7]
    · -- no
      refine run_seq fun K9 k9 => ?_
      refine run_region ?_
      refine Ops.v (Yv.move rfl) ?_
      refine Ops.v (Yv.lt rfl rfl) ?_
      refine Ops.v (Yv.assign rfl) ?_
      refine Ops.nil ?_
      refine k9 _ _ ?_
      refine run_ifp rfl (fun h10 => ?_) (fun h10 => ?_)
      · -- yes r < (16 : Int)
        refine run_seq fun K11 k11 => ?_
        refine run_region ?_
        refine Ops.v (Yv.assign rfl) ?_
        refine Ops.nil ?_
        refine k11 _ _ ?_
        refine run_ret ?_
        refine ⟨[.int .i64 8], ⟨_, _, rfl, rfl, rfl⟩, ?_⟩
        refine ⟨?_, rfl⟩
        simp [tapsF, h4, h7, h10]
      · -- no
        refine run_skip ?_
        refine k2 _ _ ?_
        refine run_seq fun K12 k12 => ?_
        refine run_region ?_
        refine Ops.v (Yv.assign rfl) ?_
        refine Ops.nil ?_
        refine k12 _ _ ?_
        refine run_ret ?_
        refine ⟨[.int .i64 14], ⟨_, _, rfl, rfl, rfl⟩, ?_⟩
        refine ⟨?_, rfl⟩
        simp [tapsF, h4, h7, h10]

theorem narrow1_fun {w : World} {x : Int} : Fun Try.prog 143 [.int .i64 x] w fun v w' => v = .int .i64 (byteF x) ∧ w = w' := by
  refine fun_run (m := 5) (rs := [.tmp 2]) Try.func143 rfl rfl rfl rfl rfl ?_
  have hs0 := HS.start w
  refine run_seq fun K1 k1 => ?_
  refine run_region ?_
  refine Ops.v (Yv.assign rfl) ?_
  refine Ops.nil ?_
  refine k1 _ _ ?_
  refine run_seq fun K2 k2 => ?_
  refine run_region ?_
  refine Ops.v (Yv.move rfl) ?_
  refine Ops.s (Step.call rfl rfl (clip_fun) (?_) True.intro (by rfl))
  rintro _ _ ⟨rfl, rfl⟩
  have g3 : clipF x ((-128) : Int) (127 : Int) = min (max x ((-128) : Int)) (127 : Int) := rfl
  refine Ops.v (Yv.assign rfl) ?_
  refine Ops.nil ?_
  refine k2 _ _ ?_
  refine run_ret ?_
  refine ⟨[.int .i64 (clipF x ((-128) : Int) (127 : Int))], ⟨_, _, rfl, rfl, rfl⟩, ?_⟩
  exact ⟨rfl, rfl⟩

theorem narrow2_fun {w0 w : World} {H : List Ent} {A : Option Addr} {m c b2 b3 : Nat} {S : Value} {xs : List Int} {half i x : Int} (hs0 : HS w0 (.blk b2 [.slice A m c] 23 :: .row A m c (u8s xs) 5 1 :: .blk b3 [S, .int .i64 half] 115 :: H) w) (h0 : 0 ≤ half + i ∧ half ≤ 1000 ∧ i ≤ 1000) (h1 : half + i < m) : Fun Try.prog 144 [.int .i64 i, .int .i64 x, .pointer (some ⟨b2, 0, none⟩), .pointer (some ⟨b3, 0, none⟩)] w fun v w' => v = .tuple #[] ∧ HS w0 (.blk b2 [.slice A m c] 23 :: .row A m c (u8s (setF xs half i x)) 5 1 :: .blk b3 [S, .int .i64 half] 115 :: H) w' := by
  refine fun_run (m := 15) (rs := []) Try.func144 rfl rfl rfl rfl rfl ?_
  refine run_drawn [9] (fun x => Below (w.drew).heap.size (w.drew) x) ?_ Tf.mixed (by kernel_rfl) (fun _ _ _ h => h)
  have hs1 := hs0.drew
  have hS2 := Below.refl (w.drew).heap.size (w.drew)
  refine Drw.l 0 rfl (by kernel_rfl) hS2 (Yv.load A23 rfl (fun _ hq_ => ((hs1.grow hq_).cell 0 rfl 0 rfl))) ?_
  refine Drw.a 1 rfl (by kernel_rfl) (Yv.fld F115_1 rfl) ?_
  refine Drw.l 2 rfl (by kernel_rfl) hS2 (Yv.load A3 rfl (fun _ hq_ => ((hs1.grow hq_).cell 2 rfl 1 rfl))) ?_
  refine Drw.a 3 rfl (by kernel_rfl) (Yv.move rfl) ?_
  refine Drw.a 4 rfl (by kernel_rfl) (Yv.add rfl rfl (by omega)) ?_
  refine Drw.a 5 rfl (by kernel_rfl) (Yv.move rfl) ?_
  refine Drw.one 6 rfl (by kernel_rfl) (Step.call rfl rfl (clip_fun) (?_) True.intro (by rfl))
  rintro _ _ ⟨rfl, rfl⟩
  refine ⟨fun _ h => h, ?_⟩
  have g3 : clipF x (0 : Int) (255 : Int) = min (max x (0 : Int)) (255 : Int) := rfl
  refine Drw.a 7 rfl (by kernel_rfl) (Yv.toByte U5 V3 rfl (by omega)) ?_
  refine Drw.a 8 rfl (by kernel_rfl) (Yv.idx L23 rfl rfl ((hs1.rdRow 1 rfl).isSome (i := half + i) (by omega) (by omega)) (by omega) (by omega)) ?_
  refine Drw.one 9 rfl (by kernel_rfl) (Step.storeRow (vs := [.int .u8 (clipF x (0 : Int) (255 : Int))]) 1 hs1 rfl rfl rfl rfl S5 (by have hl_ := (hs1.rdRow 1 rfl).len; show (half + i).toNat * 1 + 1 ≤ _; omega) (Nat.succ_pos _) rfl (fun w5 hs5 => ?_) True.intro)
  refine ⟨fun h => absurd h (by decide), ?_⟩
  have hs5_ := u8s_put (xs := xs) (i := (half + i).toNat * 1) (v := clipF x (0 : Int) (255 : Int)) (by have hl_ := (hs1.rdRow 1 rfl).len; rw [u8s_length] at hl_; omega)
  simp only [Nat.mul_one] at hs5_
  replace hs5 : HS w0 (.blk b2 [.slice A m c] 23 :: .row A m c (u8s (xs.set ((half + i).toNat) (clipF x (0 : Int) (255 : Int)))) 5 1 :: .blk b3 [S, .int .i64 half] 115 :: H) w5 := by simpa only [List.set, Nat.mul_one, hs5_] using hs5
  refine Drw.done ?_ (by kernel_rfl)
  refine ⟨[], rfl, ?_⟩
  exact ⟨rfl, hs5⟩

theorem narrow_fun {w : World} {A : Option Addr} {c : Nat} {xs : List Int} {half : Int} (hr : Rd w A xs.length 1 (u8s xs)) (hx : Bytes xs) {li ed th : Int} (hh : 2 ≤ half ∧ half ≤ 7) (hl : (xs.length : Int) = 2 * half) : Fun Try.prog 105 [.agg #[.slice A xs.length c, .int .i64 half], .agg #[.int .i64 li, .int .i64 ed, .int .i64 th]] w fun v w' => ∃ A' c', v = .slice A' xs.length c' ∧ HS w [.row A' xs.length c' (u8s (narrowF xs half th)) 5 1] w' := by
  refine fun_run (m := 99) (rs := [.tmp 4]) Try.func105 rfl rfl rfl rfl rfl ?_
  have hs0 := HS.start w
  refine run_seq fun K1 k1 => ?_
  refine run_region ?_
  refine Ops.s (Step.box (cs := [.slice A xs.length c, .int .i64 half]) hs0 rfl rfl (fun b2 w3 hs3 hb3 => ?_) True.intro (by rfl))
  refine Ops.s (Step.box (cs := [.int .i64 li, .int .i64 ed, .int .i64 th]) hs3 rfl rfl (fun b5 w6 hs6 hb6 => ?_) True.intro (by rfl))
  refine Ops.v (Yv.assign rfl) ?_
  refine Ops.nil ?_
  refine k1 _ _ ?_
  refine run_seq fun K8 k8 => ?_
  refine run_region ?_
  refine Ops.v (Yv.assign rfl) ?_
  refine Ops.nil ?_
  refine k8 _ _ ?_
  refine run_seq fun K9 k9 => ?_
  refine run_drawn [] (fun x => Below (w6.drew).heap.size (w6.drew) x) ?_ Tf.mixed (by kernel_rfl) (fun _ _ _ h => h)
  have hs10 := hs6.drew
  have hS11 := Below.refl (w6.drew).heap.size (w6.drew)
  refine Drw.l 0 rfl (by kernel_rfl) hS11 (Yv.loadn (cs := [.slice A xs.length c, .int .i64 half]) A115 S115 rfl (fun _ hq_ => ((hs10.grow hq_).cells 1 rfl 0 2))) ?_
  refine Drw.l 3 rfl (by kernel_rfl) hS11 (Yv.loadn (cs := [.slice A xs.length c, .int .i64 half]) A115 S115 rfl (fun _ hq_ => ((hs10.grow hq_).cells 1 rfl 0 2))) ?_
  refine Drw.l 6 rfl (by kernel_rfl) hS11 (Yv.loadn (cs := [.slice A xs.length c, .int .i64 half]) A115 S115 rfl (fun _ hq_ => ((hs10.grow hq_).cells 1 rfl 0 2))) ?_
  refine Drw.l 9 rfl (by kernel_rfl) hS11 (Yv.loadn (cs := [.slice A xs.length c, .int .i64 half]) A115 S115 rfl (fun _ hq_ => ((hs10.grow hq_).cells 1 rfl 0 2))) ?_
  refine Drw.one 1 rfl (by kernel_rfl) (Step.call rfl rfl (line_p_fun (hs10.rd hr) hx (by omega) (by omega) (by omega)) (?_) True.intro (by rfl))
  rintro _ w13 ⟨rfl, hs13⟩
  have hS14 := HS.keepS hS11 (Nat.le_refl _) hs13
  refine ⟨fun _ _ => hS14, ?_⟩
  replace hs13 := hs10.call hs13
  have g12 := pF_bytes hx half (1 : Int)
  refine Drw.a 2 rfl (by kernel_rfl) (Yv.toInt U3 V5 rfl (by omega)) ?_
  refine Drw.one 4 rfl (by kernel_rfl) (Step.call rfl rfl (line_p_fun (hs13.rd hr) hx (by omega) (by omega) (by omega)) (?_) True.intro (by rfl))
  rintro _ w16 ⟨rfl, hs16⟩
  have hS17 := HS.keepS hS14 (Nat.le_refl _) hs16
  refine ⟨fun _ _ => hS17, ?_⟩
  replace hs16 := hs13.call hs16
  have g15 := pF_bytes hx half (0 : Int)
  refine Drw.a 5 rfl (by kernel_rfl) (Yv.toInt U3 V5 rfl (by omega)) ?_
  refine Drw.one 7 rfl (by kernel_rfl) (Step.call rfl rfl (line_q_fun (hs16.rd hr) hx (by omega) (by omega) (by omega)) (?_) True.intro (by rfl))
  rintro _ w19 ⟨rfl, hs19⟩
  have hS20 := HS.keepS hS17 (Nat.le_refl _) hs19
  refine ⟨fun _ _ => hS20, ?_⟩
  replace hs19 := hs16.call hs19
  have g18 := qF_bytes hx half (0 : Int)
  refine Drw.a 8 rfl (by kernel_rfl) (Yv.toInt U3 V5 rfl (by omega)) ?_
  refine Drw.one 10 rfl (by kernel_rfl) (Step.call rfl rfl (line_q_fun (hs19.rd hr) hx (by omega) (by omega) (by omega)) (?_) True.intro (by rfl))
  rintro _ w22 ⟨rfl, hs22⟩
  have hS23 := HS.keepS hS20 (Nat.le_refl _) hs22
  refine ⟨fun _ _ => hS23, ?_⟩
  replace hs22 := hs19.call hs22
  have g21 := qF_bytes hx half (1 : Int)
  refine Drw.a 11 rfl (by kernel_rfl) (Yv.toInt U3 V5 rfl (by omega)) ?_
  refine Drw.a 12 rfl (by kernel_rfl) (Yv.assign rfl) ?_
  refine Drw.a 13 rfl (by kernel_rfl) (Yv.assign rfl) ?_
  refine Drw.a 14 rfl (by kernel_rfl) (Yv.assign rfl) ?_
  refine Drw.a 15 rfl (by kernel_rfl) (Yv.assign rfl) ?_
  refine Drw.done ?_ (by kernel_rfl)
  refine k9 _ _ ?_
  refine run_seq fun K24 k24 => ?_
  refine Run.cut (fun e_ w_ => HS w [.blk b5 [.int .i64 li, .int .i64 ed, .int .i64 th] 111, .blk b2 [.slice A xs.length c, .int .i64 half] 115] w_ ∧ Le [(0, .agg #[.slice A xs.length c, .int .i64 half]), (1, .agg #[.int .i64 li, .int .i64 ed, .int .i64 th]), (2, .pointer (some ⟨b2, 0, none⟩)), (3, .pointer (some ⟨b5, 0, none⟩)), (4, .slice none 0 0), (5, .func (.func 143) #[] #[]), (6, .int .i64 (pF xs half (1 : Int))), (7, .int .i64 (pF xs half (0 : Int))), (8, .int .i64 (qF xs half (0 : Int))), (9, .int .i64 (qF xs half (1 : Int))), (10, .bool (decide ((th < (farF (pF xs half (1 : Int)) (pF xs half (0 : Int)))) ∨ (th < (farF (qF xs half (1 : Int)) (qF xs half (0 : Int)))))))] e_) ?_ ?_
  · -- region 3: its ways meet again
    refine run_drawn [] (fun x => Below (w22.drew).heap.size (w22.drew) x) ?_ Tf.mixed (by kernel_rfl) (fun _ _ _ h => h)
    have hs25 := hs22.drew
    have hS26 := Below.refl (w22.drew).heap.size (w22.drew)
    refine Drw.l 0 rfl (by kernel_rfl) hS26 (Yv.loadn (cs := [.slice A xs.length c, .int .i64 half]) A115 S115 rfl (fun _ hq_ => ((hs25.grow hq_).cells 1 rfl 0 2))) ?_
    refine Drw.l 2 rfl (by kernel_rfl) hS26 (Yv.loadn (cs := [.slice A xs.length c, .int .i64 half]) A115 S115 rfl (fun _ hq_ => ((hs25.grow hq_).cells 1 rfl 0 2))) ?_
    refine Drw.a 5 rfl (by kernel_rfl) (Yv.fld F111_2 rfl) ?_
    refine Drw.l 6 rfl (by kernel_rfl) hS26 (Yv.load A3 rfl (fun _ hq_ => ((hs25.grow hq_).cell 0 rfl 2 rfl))) ?_
    refine Drw.one 1 rfl (by kernel_rfl) (Step.call rfl rfl (line_p_fun (hs25.rd hr) hx (by omega) (by omega) (by omega)) (?_) True.intro (by rfl))
    rintro _ w28 ⟨rfl, hs28⟩
    have hS29 := HS.keepS hS26 (Nat.le_refl _) hs28
    refine ⟨fun _ _ => hS29, ?_⟩
    replace hs28 := hs25.call hs28
    have g27 := pF_bytes hx half (1 : Int)
    refine Drw.one 3 rfl (by kernel_rfl) (Step.call rfl rfl (line_p_fun (hs28.rd hr) hx (by omega) (by omega) (by omega)) (?_) True.intro (by rfl))
    rintro _ w31 ⟨rfl, hs31⟩
    have hS32 := HS.keepS hS29 (Nat.le_refl _) hs31
    refine ⟨fun _ _ => hS32, ?_⟩
    replace hs31 := hs28.call hs31
    have g30 := pF_bytes hx half (0 : Int)
    refine Drw.one 4 rfl (by kernel_rfl) (Step.call rfl rfl (far_fun (by omega) (by omega)) (?_) True.intro (by rfl))
    rintro _ _ ⟨rfl, rfl⟩
    refine ⟨fun _ h => h, ?_⟩
    have g33 := farF_bd (pF xs half (1 : Int)) (pF xs half (0 : Int))
    refine Drw.a 7 rfl (by kernel_rfl) (Yv.gt rfl rfl) ?_
    refine Drw.dec (fun h35 => ?_) (fun h35 => ?_)
    · -- yes
      refine Drw.a 8 rfl (by kernel_rfl) (Yv.move rfl) ?_
      refine Drw.no 9 rfl (by kernel_rfl) ?_ ⟨_, rfl, rfl⟩
      refine Drw.no 10 rfl (by kernel_rfl) ?_ ⟨_, rfl, rfl⟩
      refine Drw.no 11 rfl (by kernel_rfl) ?_ ⟨_, rfl, rfl⟩
      refine Drw.no 12 rfl (by kernel_rfl) ?_ ⟨_, rfl, rfl⟩
      refine Drw.no 13 rfl (by kernel_rfl) ?_ ⟨_, rfl, rfl⟩
      refine Drw.no 14 rfl (by kernel_rfl) ?_ ⟨_, rfl, rfl⟩
      refine Drw.no 15 rfl (by kernel_rfl) ?_ ⟨_, rfl, rfl⟩
      refine Drw.no 16 rfl (by kernel_rfl) ?_ ⟨_, rfl, rfl⟩
      refine Drw.a 17 rfl (by kernel_rfl) (Yv.pick1 rfl rfl) ?_
      refine Drw.a 18 rfl (by kernel_rfl) (Yv.assign rfl) ?_
      refine Drw.done ?_ (by kernel_rfl)
      refine ⟨hs31, Sub.le ⟨rfl, rfl, rfl, rfl, rfl, rfl, rfl, rfl, rfl, rfl, lookB rfl (by first | (simp only [h35, ne_eq, not_true_eq_false, not_false_eq_true, or_true, true_or, or_false, false_or, and_true, true_and, and_false, false_and, decide_true, decide_false, or_self, and_self, Bool.decide_eq_true]; done) | simp [h35]), trivial⟩⟩
    · -- no
      refine Drw.a 8 rfl (by kernel_rfl) (Yv.move rfl) ?_
      refine Drw.l 9 rfl (by kernel_rfl) hS32 (Yv.loadn (cs := [.slice A xs.length c, .int .i64 half]) A115 S115 rfl (fun _ hq_ => ((hs25.grow hq_).cells 1 rfl 0 2))) ?_ ⟨_, rfl, rfl⟩
      refine Drw.l 11 rfl (by kernel_rfl) hS32 (Yv.loadn (cs := [.slice A xs.length c, .int .i64 half]) A115 S115 rfl (fun _ hq_ => ((hs25.grow hq_).cells 1 rfl 0 2))) ?_ ⟨_, rfl, rfl⟩
      refine Drw.a 14 rfl (by kernel_rfl) (Yv.fld F111_2 rfl) ?_ ⟨_, rfl, rfl⟩
      refine Drw.l 15 rfl (by kernel_rfl) hS32 (Yv.load A3 rfl (fun _ hq_ => ((hs25.grow hq_).cell 0 rfl 2 rfl))) ?_ ⟨_, rfl, rfl⟩
      refine Drw.one 10 rfl (by kernel_rfl) (Step.call rfl rfl (line_q_fun (hs31.rd hr) hx (by omega) (by omega) (by omega)) (?_) ⟨_, rfl, rfl⟩ (by rfl))
      rintro _ w37 ⟨rfl, hs37⟩
      have hS38 := HS.keepS hS32 (Nat.le_refl _) hs37
      refine ⟨fun _ _ => hS38, ?_⟩
      replace hs37 := hs31.call hs37
      have g36 := qF_bytes hx half (1 : Int)
      refine Drw.one 12 rfl (by kernel_rfl) (Step.call rfl rfl (line_q_fun (hs37.rd hr) hx (by omega) (by omega) (by omega)) (?_) ⟨_, rfl, rfl⟩ (by rfl))
      rintro _ w40 ⟨rfl, hs40⟩
      have hS41 := HS.keepS hS38 (Nat.le_refl _) hs40
      refine ⟨fun _ _ => hS41, ?_⟩
      replace hs40 := hs37.call hs40
      have g39 := qF_bytes hx half (0 : Int)
      refine Drw.one 13 rfl (by kernel_rfl) (Step.call rfl rfl (far_fun (by omega) (by omega)) (?_) ⟨_, rfl, rfl⟩ (by rfl))
      rintro _ _ ⟨rfl, rfl⟩
      refine ⟨fun _ h => h, ?_⟩
      have g42 := farF_bd (qF xs half (1 : Int)) (qF xs half (0 : Int))
      refine Drw.a 16 rfl (by kernel_rfl) (Yv.gt rfl rfl) ?_ ⟨_, rfl, rfl⟩
      refine Drw.a 17 rfl (by kernel_rfl) (Yv.pick0 rfl rfl) ?_
      refine Drw.a 18 rfl (by kernel_rfl) (Yv.assign rfl) ?_
      refine Drw.done ?_ (by kernel_rfl)
      refine ⟨hs40, Sub.le ⟨rfl, rfl, rfl, rfl, rfl, rfl, rfl, rfl, rfl, rfl, lookB rfl (by first | (simp only [h35, ne_eq, not_true_eq_false, not_false_eq_true, or_true, true_or, or_false, false_or, and_true, true_and, and_false, false_and, decide_true, decide_false, or_self, and_self, Bool.decide_eq_true]; done) | simp [h35]), trivial⟩⟩
  rintro e50 w50 ⟨hs50, he50⟩
  refine k24 _ _ ?_
  refine Run.le he50 ?_
  refine run_seq fun K51 k51 => ?_
  refine run_region ?_
  refine Ops.v (Yv.assign rfl) ?_
  refine Ops.nil ?_
  refine k51 _ _ ?_
  refine run_seq fun K52 k52 => ?_
  refine run_seq fun K53 k53 => ?_
  refine run_region ?_
  refine Ops.v (Yv.move rfl) ?_
  refine Ops.nil ?_
  refine k53 _ _ ?_
  refine run_ifp rfl (fun h54 => ?_) (fun h54 => ?_)
  · -- yes (th < (farF (pF xs half (1 : Int)) (pF xs half (0 : Int)))) ∨ (th < (farF (qF xs half (1 : Int)) (qF xs half (0 : Int))))
    refine run_region ?_
    refine Ops.v (Yv.move rfl) ?_
    refine Ops.v (Yv.move rfl) ?_
    refine Ops.v (Yv.move rfl) ?_
    refine Ops.v (Yv.sub rfl rfl (by omega)) ?_
    refine Ops.s (Step.call rfl rfl (narrow1_fun) (?_) True.intro (by rfl))
    rintro _ _ ⟨rfl, rfl⟩
    have g55 := byteF_bd ((pF xs half (1 : Int)) - (qF xs half (1 : Int)))
    refine Ops.v (Yv.assign rfl) ?_
    refine Ops.nil ?_
    refine k52 _ _ ?_
    refine run_seq fun K57 k57 => ?_
    refine run_region ?_
    refine Ops.v (Yv.move rfl) ?_
    refine Ops.v (Yv.move rfl) ?_
    refine Ops.v (Yv.move rfl) ?_
    refine Ops.v (Yv.move rfl) ?_
    refine Ops.v (Yv.sub rfl rfl (by omega)) ?_
    refine Ops.v (Yv.mul rfl rfl (by omega)) ?_
    refine Ops.v (Yv.add rfl rfl (by omega)) ?_
    refine Ops.s (Step.call rfl rfl (narrow1_fun) (?_) True.intro (by rfl))
    rintro _ _ ⟨rfl, rfl⟩
    have g58 := byteF_bd ((byteF ((pF xs half (1 : Int)) - (qF xs half (1 : Int)))) + ((3 : Int) * ((qF xs half (0 : Int)) - (pF xs half (0 : Int)))))
    refine Ops.v (Yv.assign rfl) ?_
    refine Ops.nil ?_
    refine k57 _ _ ?_
    refine run_seq fun K60 k60 => ?_
    refine run_region ?_
    refine Ops.v (Yv.move rfl) ?_
    refine Ops.v (Yv.move rfl) ?_
    refine Ops.v (Yv.add rfl rfl (by omega)) ?_
    refine Ops.s (Step.call rfl rfl (narrow1_fun) (?_) True.intro (by rfl))
    rintro _ _ ⟨rfl, rfl⟩
    have g61 := byteF_bd ((byteF ((byteF ((pF xs half (1 : Int)) - (qF xs half (1 : Int)))) + ((3 : Int) * ((qF xs half (0 : Int)) - (pF xs half (0 : Int)))))) + 4)
    refine Ops.v (Yv.shr rfl rfl 3 (by first | rfl | omega) (by omega)) ?_
    refine Ops.v (Yv.assign rfl) ?_
    refine Ops.nil ?_
    refine k60 _ _ ?_
    refine run_seq fun K63 k63 => ?_
    refine run_region ?_
    refine Ops.v (Yv.fld F115_0 rfl) ?_
    refine Ops.v (Yv.load A23 rfl (now (hs50.cell 1 rfl 0 rfl))) ?_
    refine Ops.s (Step.call rfl rfl (clone_fun (hs50.rd hr) (by omega)) (?_) True.intro (by rfl))
    rintro _ w67 ⟨Ad64, c65, rfl, hs67⟩
    replace hs67 := hs50.call hs67
    refine Ops.s (Step.alloc (cs := [.slice none 0 0]) hs67 Z23 rfl (fun b68 w69 hs69 hb69 => ?_) True.intro (by rfl))
    refine Ops.s (Step.store (vs := [.slice Ad64 xs.length c65]) 0 hs69 rfl rfl rfl rfl S23 (Nat.le_of_ble_eq_true rfl) rfl (fun w71 hs71 => ?_) True.intro)
    replace hs71 : HS _ [.blk _ [_] _, .row _ _ _ _ _ _, .blk _ [_, _, _] _, .blk _ [_, _] _] _ := hs71
    refine Ops.nil ?_
    refine k63 _ _ ?_
    refine run_seq fun K72 k72 => ?_
    refine run_region ?_
    refine Ops.v (Yv.func (first := []) (cap := _) rfl rfl) ?_
    refine Ops.v (Yv.assign rfl) ?_
    refine Ops.nil ?_
    refine k72 _ _ ?_
    refine run_seq fun K73 k73 => ?_
    refine run_region ?_
    refine Ops.v (Yv.move rfl) ?_
    refine Ops.v (Yv.move rfl) ?_
    refine Ops.v (Yv.move rfl) ?_
    refine Ops.v (Yv.sub rfl rfl (by omega)) ?_
    refine Ops.s (Step.call rfl rfl (narrow2_fun (hs71.pick [0, 1, 3, 2] [.blk b68 [.slice Ad64 xs.length c65] 23, .row Ad64 xs.length c65 (u8s xs) 5 1, .blk b2 [.slice A xs.length c, .int .i64 half] 115, .blk b5 [.int .i64 li, .int .i64 ed, .int .i64 th] 111] (by decide) rfl) (by omega) (by omega)) (?_) True.intro (by rfl))
    rintro _ w74 ⟨rfl, hs74⟩
    refine Ops.nil ?_
    refine k73 _ _ ?_
    refine run_seq fun K75 k75 => ?_
    refine run_region ?_
    refine Ops.v (Yv.move rfl) ?_
    refine Ops.v (Yv.move rfl) ?_
    refine Ops.v (Yv.move rfl) ?_
    refine Ops.v (Yv.move rfl) ?_
    refine Ops.v (Yv.add rfl rfl (by omega)) ?_
    refine Ops.s (Step.call rfl rfl (narrow1_fun) (?_) True.intro (by rfl))
    rintro _ _ ⟨rfl, rfl⟩
    have g76 := byteF_bd ((byteF ((byteF ((pF xs half (1 : Int)) - (qF xs half (1 : Int)))) + ((3 : Int) * ((qF xs half (0 : Int)) - (pF xs half (0 : Int)))))) + 3)
    refine Ops.v (Yv.shr rfl rfl 3 (by first | rfl | omega) (by omega)) ?_
    refine Ops.v (Yv.add rfl rfl (by omega)) ?_
    refine Ops.s (Step.call rfl rfl (narrow2_fun (hs74.pick [0, 1, 2, 3] [.blk b68 [.slice Ad64 xs.length c65] 23, .row Ad64 xs.length c65 (u8s (setF xs half 0 ((qF xs half (0 : Int)) - ((byteF ((byteF ((byteF ((pF xs half (1 : Int)) - (qF xs half (1 : Int)))) + ((3 : Int) * ((qF xs half (0 : Int)) - (pF xs half (0 : Int)))))) + 4)) / 2 ^ 3)))) 5 1, .blk b2 [.slice A xs.length c, .int .i64 half] 115, .blk b5 [.int .i64 li, .int .i64 ed, .int .i64 th] 111] (by decide) rfl) (by omega) (by omega)) (?_) True.intro (by rfl))
    rintro _ w78 ⟨rfl, hs78⟩
    refine Ops.nil ?_
    refine k75 _ _ ?_
    refine run_seq fun K79 k79 => ?_
    refine run_seq fun K80 k80 => ?_
    refine run_region ?_
    refine Ops.v (Yv.move rfl) ?_
    refine Ops.v (Yv.notp rfl) ?_
    refine Ops.nil ?_
    refine k80 _ _ ?_
    refine run_ifp rfl (fun hx => absurd h54 hx) (fun _ => ?_)
    refine run_skip ?_
    refine k79 _ _ ?_
    refine run_seq fun K81 k81 => ?_
    refine run_region ?_
    refine Ops.v (Yv.load A23 rfl (now (hs78.cell 0 rfl 0 rfl))) ?_
    refine Ops.v (Yv.assign rfl) ?_
    refine Ops.nil ?_
    refine k81 _ _ ?_
    refine run_ret ?_
    refine ⟨[.slice Ad64 xs.length c65], ⟨_, _, rfl, rfl, rfl⟩, ?_⟩
    have hst : steepF xs half th = true := decide_eq_true h54
    have hz := hs78.pick [1] [.row Ad64 xs.length c65 (u8s (setF (setF xs half 0 ((qF xs half (0 : Int)) - ((byteF ((byteF ((byteF ((pF xs half (1 : Int)) - (qF xs half (1 : Int)))) + ((3 : Int) * ((qF xs half (0 : Int)) - (pF xs half (0 : Int)))))) + 4)) / 2 ^ 3))) half (-1) ((pF xs half (0 : Int)) + ((byteF ((byteF ((byteF ((pF xs half (1 : Int)) - (qF xs half (1 : Int)))) + ((3 : Int) * ((qF xs half (0 : Int)) - (pF xs half (0 : Int)))))) + 3)) / 2 ^ 3)))) 5 1] (by decide) rfl
    exact ⟨_, _, rfl, hz.to (by simp only [narrowF, aF, fF, hst, if_true, Bool.false_eq_true, if_false])⟩
  · -- no
    refine run_skip ?_
    refine k52 _ _ ?_
    refine run_seq fun K82 k82 => ?_
    refine run_region ?_
    refine Ops.v (Yv.move rfl) ?_
    refine Ops.v (Yv.move rfl) ?_
    refine Ops.v (Yv.move rfl) ?_
    refine Ops.v (Yv.move rfl) ?_
    refine Ops.v (Yv.sub rfl rfl (by omega)) ?_
    refine Ops.v (Yv.mul rfl rfl (by omega)) ?_
    refine Ops.v (Yv.add rfl rfl (by omega)) ?_
    refine Ops.s (Step.call rfl rfl (narrow1_fun) (?_) True.intro (by rfl))
    rintro _ _ ⟨rfl, rfl⟩
    have g83 := byteF_bd ((0 : Int) + ((3 : Int) * ((qF xs half (0 : Int)) - (pF xs half (0 : Int)))))
    refine Ops.v (Yv.assign rfl) ?_
    refine Ops.nil ?_
    refine k82 _ _ ?_
    refine run_seq fun K85 k85 => ?_
    refine run_region ?_
    refine Ops.v (Yv.move rfl) ?_
    refine Ops.v (Yv.move rfl) ?_
    refine Ops.v (Yv.add rfl rfl (by omega)) ?_
    refine Ops.s (Step.call rfl rfl (narrow1_fun) (?_) True.intro (by rfl))
    rintro _ _ ⟨rfl, rfl⟩
    have g86 := byteF_bd ((byteF ((0 : Int) + ((3 : Int) * ((qF xs half (0 : Int)) - (pF xs half (0 : Int)))))) + 4)
    refine Ops.v (Yv.shr rfl rfl 3 (by first | rfl | omega) (by omega)) ?_
    refine Ops.v (Yv.assign rfl) ?_
    refine Ops.nil ?_
    refine k85 _ _ ?_
    refine run_seq fun K88 k88 => ?_
    refine run_region ?_
    refine Ops.v (Yv.fld F115_0 rfl) ?_
    refine Ops.v (Yv.load A23 rfl (now (hs50.cell 1 rfl 0 rfl))) ?_
    refine Ops.s (Step.call rfl rfl (clone_fun (hs50.rd hr) (by omega)) (?_) True.intro (by rfl))
    rintro _ w92 ⟨Ad89, c90, rfl, hs92⟩
    replace hs92 := hs50.call hs92
    refine Ops.s (Step.alloc (cs := [.slice none 0 0]) hs92 Z23 rfl (fun b93 w94 hs94 hb94 => ?_) True.intro (by rfl))
    refine Ops.s (Step.store (vs := [.slice Ad89 xs.length c90]) 0 hs94 rfl rfl rfl rfl S23 (Nat.le_of_ble_eq_true rfl) rfl (fun w96 hs96 => ?_) True.intro)
    replace hs96 : HS _ [.blk _ [_] _, .row _ _ _ _ _ _, .blk _ [_, _, _] _, .blk _ [_, _] _] _ := hs96
    refine Ops.nil ?_
    refine k88 _ _ ?_
    refine run_seq fun K97 k97 => ?_
    refine run_region ?_
    refine Ops.v (Yv.func (first := []) (cap := _) rfl rfl) ?_
    refine Ops.v (Yv.assign rfl) ?_
    refine Ops.nil ?_
    refine k97 _ _ ?_
    refine run_seq fun K98 k98 => ?_
    refine run_region ?_
    refine Ops.v (Yv.move rfl) ?_
    refine Ops.v (Yv.move rfl) ?_
    refine Ops.v (Yv.move rfl) ?_
    refine Ops.v (Yv.sub rfl rfl (by omega)) ?_
    refine Ops.s (Step.call rfl rfl (narrow2_fun (hs96.pick [0, 1, 3, 2] [.blk b93 [.slice Ad89 xs.length c90] 23, .row Ad89 xs.length c90 (u8s xs) 5 1, .blk b2 [.slice A xs.length c, .int .i64 half] 115, .blk b5 [.int .i64 li, .int .i64 ed, .int .i64 th] 111] (by decide) rfl) (by omega) (by omega)) (?_) True.intro (by rfl))
    rintro _ w99 ⟨rfl, hs99⟩
    refine Ops.nil ?_
    refine k98 _ _ ?_
    refine run_seq fun K100 k100 => ?_
    refine run_region ?_
    refine Ops.v (Yv.move rfl) ?_
    refine Ops.v (Yv.move rfl) ?_
    refine Ops.v (Yv.move rfl) ?_
    refine Ops.v (Yv.move rfl) ?_
    refine Ops.v (Yv.add rfl rfl (by omega)) ?_
    refine Ops.s (Step.call rfl rfl (narrow1_fun) (?_) True.intro (by rfl))
    rintro _ _ ⟨rfl, rfl⟩
    have g101 := byteF_bd ((byteF ((0 : Int) + ((3 : Int) * ((qF xs half (0 : Int)) - (pF xs half (0 : Int)))))) + 3)
    refine Ops.v (Yv.shr rfl rfl 3 (by first | rfl | omega) (by omega)) ?_
    refine Ops.v (Yv.add rfl rfl (by omega)) ?_
    refine Ops.s (Step.call rfl rfl (narrow2_fun (hs99.pick [0, 1, 2, 3] [.blk b93 [.slice Ad89 xs.length c90] 23, .row Ad89 xs.length c90 (u8s (setF xs half 0 ((qF xs half (0 : Int)) - ((byteF ((byteF ((0 : Int) + ((3 : Int) * ((qF xs half (0 : Int)) - (pF xs half (0 : Int)))))) + 4)) / 2 ^ 3)))) 5 1, .blk b2 [.slice A xs.length c, .int .i64 half] 115, .blk b5 [.int .i64 li, .int .i64 ed, .int .i64 th] 111] (by decide) rfl) (by omega) (by omega)) (?_) True.intro (by rfl))
    rintro _ w103 ⟨rfl, hs103⟩
    refine Ops.nil ?_
    refine k100 _ _ ?_
    refine run_seq fun K104 k104 => ?_
    refine run_seq fun K105 k105 => ?_
    refine run_region ?_
    refine Ops.v (Yv.move rfl) ?_
    refine Ops.v (Yv.notp rfl) ?_
    refine Ops.nil ?_
    refine k105 _ _ ?_
    refine run_ifp rfl (fun _ => ?_) (fun hx => absurd h54 hx)
    refine run_seq fun K106 k106 => ?_
    refine run_region ?_
    refine Ops.v (Yv.move rfl) ?_
    refine Ops.v (Yv.add rfl rfl (by omega)) ?_
    refine Ops.v (Yv.shr rfl rfl 1 (by first | rfl | omega) (by omega)) ?_
    refine Ops.v (Yv.assign rfl) ?_
    refine Ops.nil ?_
    refine k106 _ _ ?_
    refine run_seq fun K107 k107 => ?_
    refine run_region ?_
    refine Ops.v (Yv.move rfl) ?_
    refine Ops.v (Yv.move rfl) ?_
    refine Ops.v (Yv.move rfl) ?_
    refine Ops.v (Yv.sub rfl rfl (by omega)) ?_
    refine Ops.s (Step.call rfl rfl (narrow2_fun (hs103.pick [0, 1, 2, 3] [.blk b93 [.slice Ad89 xs.length c90] 23, .row Ad89 xs.length c90 (u8s (setF (setF xs half 0 ((qF xs half (0 : Int)) - ((byteF ((byteF ((0 : Int) + ((3 : Int) * ((qF xs half (0 : Int)) - (pF xs half (0 : Int)))))) + 4)) / 2 ^ 3))) half (-1) ((pF xs half (0 : Int)) + ((byteF ((byteF ((0 : Int) + ((3 : Int) * ((qF xs half (0 : Int)) - (pF xs half (0 : Int)))))) + 3)) / 2 ^ 3)))) 5 1, .blk b2 [.slice A xs.length c, .int .i64 half] 115, .blk b5 [.int .i64 li, .int .i64 ed, .int .i64 th] 111] (by decide) rfl) (by omega) (by omega)) (?_) True.intro (by rfl))
    rintro _ w108 ⟨rfl, hs108⟩
    refine Ops.nil ?_
    refine k107 _ _ ?_
    refine run_region ?_
    refine Ops.v (Yv.move rfl) ?_
    refine Ops.v (Yv.move rfl) ?_
    refine Ops.v (Yv.move rfl) ?_
    refine Ops.v (Yv.add rfl rfl (by omega)) ?_
    refine Ops.s (Step.call rfl rfl (narrow2_fun (hs108.pick [0, 1, 2, 3] [.blk b93 [.slice Ad89 xs.length c90] 23, .row Ad89 xs.length c90 (u8s (setF (setF (setF xs half 0 ((qF xs half (0 : Int)) - ((byteF ((byteF ((0 : Int) + ((3 : Int) * ((qF xs half (0 : Int)) - (pF xs half (0 : Int)))))) + 4)) / 2 ^ 3))) half (-1) ((pF xs half (0 : Int)) + ((byteF ((byteF ((0 : Int) + ((3 : Int) * ((qF xs half (0 : Int)) - (pF xs half (0 : Int)))))) + 3)) / 2 ^ 3))) half 1 ((qF xs half (1 : Int)) - ((((byteF ((byteF ((0 : Int) + ((3 : Int) * ((qF xs half (0 : Int)) - (pF xs half (0 : Int)))))) + 4)) / 2 ^ 3) + 1) / 2 ^ 1)))) 5 1, .blk b2 [.slice A xs.length c, .int .i64 half] 115, .blk b5 [.int .i64 li, .int .i64 ed, .int .i64 th] 111] (by decide) rfl) (by omega) (by omega)) (?_) True.intro (by rfl))
    rintro _ w109 ⟨rfl, hs109⟩
    refine Ops.nil ?_
    refine k104 _ _ ?_
    refine run_seq fun K110 k110 => ?_
    refine run_region ?_
    refine Ops.v (Yv.load A23 rfl (now (hs109.cell 0 rfl 0 rfl))) ?_
    refine Ops.v (Yv.assign rfl) ?_
    refine Ops.nil ?_
    refine k110 _ _ ?_
    refine run_ret ?_
    refine ⟨[.slice Ad89 xs.length c90], ⟨_, _, rfl, rfl, rfl⟩, ?_⟩
    have hst : steepF xs half th = false := decide_eq_false h54
    have hz := hs109.pick [1] [.row Ad89 xs.length c90 (u8s (setF (setF (setF (setF xs half 0 ((qF xs half (0 : Int)) - ((byteF ((byteF ((0 : Int) + ((3 : Int) * ((qF xs half (0 : Int)) - (pF xs half (0 : Int)))))) + 4)) / 2 ^ 3))) half (-1) ((pF xs half (0 : Int)) + ((byteF ((byteF ((0 : Int) + ((3 : Int) * ((qF xs half (0 : Int)) - (pF xs half (0 : Int)))))) + 3)) / 2 ^ 3))) half 1 ((qF xs half (1 : Int)) - ((((byteF ((byteF ((0 : Int) + ((3 : Int) * ((qF xs half (0 : Int)) - (pF xs half (0 : Int)))))) + 4)) / 2 ^ 3) + 1) / 2 ^ 1))) half (-2) ((pF xs half (1 : Int)) + ((((byteF ((byteF ((0 : Int) + ((3 : Int) * ((qF xs half (0 : Int)) - (pF xs half (0 : Int)))))) + 4)) / 2 ^ 3) + 1) / 2 ^ 1)))) 5 1] (by decide) rfl
    exact ⟨_, _, rfl, hz.to (by simp only [narrowF, aF, fF, hst, if_true, Bool.false_eq_true, if_false])⟩

theorem filter_fun {w : World} {A : Option Addr} {c : Nat} {xs : List Int} {half : Int} (hr : Rd w A xs.length 1 (u8s xs)) (hx : Bytes xs) {li ed th : Int} (hh : 2 ≤ half ∧ half ≤ 7) (hl : (xs.length : Int) = 2 * half) : Fun Try.prog 57 [.agg #[.slice A xs.length c, .int .i64 half], .agg #[.int .i64 li, .int .i64 ed, .int .i64 th]] w fun v w' => ∃ A' c', v = .slice A' xs.length c' ∧ HS w [.row A' xs.length c' (u8s (filterF xs half li ed th)) 5 1] w' := by
  refine fun_run (m := 46) (rs := [.tmp 4]) Try.func57 rfl rfl rfl rfl rfl ?_
  have hs0 := HS.start w
  refine run_seq fun K1 k1 => ?_
  refine run_region ?_
  refine Ops.s (Step.box (cs := [.slice A xs.length c, .int .i64 half]) hs0 rfl rfl (fun b2 w3 hs3 hb3 => ?_) True.intro (by rfl))
  refine Ops.s (Step.box (cs := [.int .i64 li, .int .i64 ed, .int .i64 th]) hs3 rfl rfl (fun b5 w6 hs6 hb6 => ?_) True.intro (by rfl))
  refine Ops.v (Yv.assign rfl) ?_
  refine Ops.nil ?_
  refine k1 _ _ ?_
  refine run_seq fun K8 k8 => ?_
  refine run_region ?_
  refine Ops.v (Yv.fld F115_0 rfl) ?_
  refine Ops.v (Yv.load A23 rfl (now (hs6.cell 1 rfl 0 rfl))) ?_
  refine Ops.v (Yv.len (by rw [L23]; rfl) rfl) ?_
  refine Ops.v (Yv.assign rfl) ?_
  refine Ops.nil ?_
  refine k8 _ _ ?_
  refine run_seq fun K9 k9 => ?_
  refine run_block ?_
  refine run_seq fun K10 k10 => ?_
  refine run_region ?_
  refine Ops.v (Yv.loadn (cs := [.slice A xs.length c, .int .i64 half]) A115 S115 rfl (now (hs6.cells 1 rfl 0 2))) ?_
  refine Ops.v (Yv.loadn (cs := [.int .i64 li, .int .i64 ed, .int .i64 th]) A111 S111 rfl (now (hs6.cells 0 rfl 0 3))) ?_
  refine Ops.s (Step.call rfl rfl (line_rough_fun (hs6.rd hr) hx (by omega) (by omega)) (?_) True.intro (by rfl))
  rintro _ w11 ⟨rfl, hs11⟩
  replace hs11 := hs6.call hs11
  refine Ops.v (Yv.assign rfl) ?_
  refine Ops.nil ?_
  refine k10 _ _ ?_
  refine run_if rfl (fun h12 => ?_) (fun h12 => ?_)
  · -- yes roughF xs half li ed
    refine run_seq fun K13 k13 => ?_
    refine run_region ?_
    refine Ops.v (Yv.fld F115_0 rfl) ?_
    refine Ops.v (Yv.load A23 rfl (now (hs11.cell 1 rfl 0 rfl))) ?_
    refine Ops.s (Step.call rfl rfl (clone_fun (hs11.rd hr) (by omega)) (?_) True.intro (by rfl))
    rintro _ w17 ⟨Ad14, c15, rfl, hs17⟩
    replace hs17 := hs11.call hs17
    refine Ops.v (Yv.assign rfl) ?_
    refine Ops.nil ?_
    refine k13 _ _ ?_
    refine run_ret ?_
    refine ⟨[.slice Ad14 xs.length c15], ⟨_, _, rfl, rfl, rfl⟩, ?_⟩
    have hz := hs17.pick [0] [.row Ad14 xs.length c15 (u8s xs) 5 1] (by decide) rfl
    exact ⟨_, _, rfl, hz.to (by unfold filterF; rw [if_pos h12])⟩
  · -- no
    refine run_seq fun K18 k18 => ?_
    refine Run.cut (fun e_ w_ => HS w [.blk b5 [.int .i64 li, .int .i64 ed, .int .i64 th] 111, .blk b2 [.slice A xs.length c, .int .i64 half] 115] w_ ∧ Le [(0, .agg #[.slice A xs.length c, .int .i64 half]), (1, .agg #[.int .i64 li, .int .i64 ed, .int .i64 th]), (2, .pointer (some ⟨b2, 0, none⟩)), (3, .pointer (some ⟨b5, 0, none⟩)), (4, .slice none 0 0), (5, .int .i64 (xs.length : Int)), (9, .bool (roughF xs half li ed)), (16, .bool (decide (((xs.length : Int) = (6 : Int)) ∧ ((flatF xs half 1 2) = true))))] e_) ?_ ?_
    · -- region 4: its ways meet again
      refine run_region ?_
      refine Ops.v (Yv.move rfl) ?_
      refine Ops.v (Yv.eq rfl rfl) ?_
      refine Ops.dec (fun h19 => ?_) (fun h19 => ?_)
      · -- yes
        refine Ops.v (Yv.move rfl) ?_
        refine Ops.vg ⟨_, rfl, rfl⟩ (Yv.loadn (cs := [.slice A xs.length c, .int .i64 half]) A115 S115 rfl (now (hs11.cells 1 rfl 0 2))) ?_
        refine Ops.s (Step.call rfl rfl (line_flat_fun (hs11.rd hr) hx (by omega) (by omega) (by omega) (by omega)) (?_) ⟨_, rfl, rfl⟩ (by rfl))
        rintro _ w20 ⟨rfl, hs20⟩
        replace hs20 := hs11.call hs20
        refine Ops.v (Yv.pick1 rfl rfl) ?_
        refine Ops.v (Yv.assign rfl) ?_
        refine Ops.nil ?_
        refine ⟨hs20, Sub.le ⟨rfl, rfl, rfl, rfl, rfl, rfl, rfl, lookB rfl (by first | (simp only [h19, ne_eq, not_true_eq_false, not_false_eq_true, or_true, true_or, or_false, false_or, and_true, true_and, and_false, false_and, decide_true, decide_false, or_self, and_self, Bool.decide_eq_true]; done) | simp [h19]), trivial⟩⟩
      · -- no
        refine Ops.v (Yv.move rfl) ?_
        refine Ops.skip ⟨_, rfl, rfl⟩ ?_
        refine Ops.skip ⟨_, rfl, rfl⟩ ?_
        refine Ops.v (Yv.pick0 rfl rfl) ?_
        refine Ops.v (Yv.assign rfl) ?_
        refine Ops.nil ?_
        refine ⟨hs11, Sub.le ⟨rfl, rfl, rfl, rfl, rfl, rfl, rfl, lookB rfl (by first | (simp only [h19, ne_eq, not_true_eq_false, not_false_eq_true, or_true, true_or, or_false, false_or, and_true, true_and, and_false, false_and, decide_true, decide_false, or_self, and_self, Bool.decide_eq_true]; done) | simp [h19]), trivial⟩⟩
    rintro e21 w21 ⟨hs21, he21⟩
    refine k18 _ _ ?_
    refine Run.le he21 ?_
    refine run_ifp rfl (fun h22 => ?_) (fun h22 => ?_)
    · -- yes ((xs.length : Int) = (6 : Int)) ∧ ((flatF xs half 1 2) = true)
      refine run_seq fun K23 k23 => ?_
      refine run_region ?_
      refine Ops.v (Yv.loadn (cs := [.slice A xs.length c, .int .i64 half]) A115 S115 rfl (now (hs21.cells 1 rfl 0 2))) ?_
      refine Ops.s (Step.call rfl rfl (wide_fun (hs21.rd hr) hx (by omega) (by omega) (by omega) (by omega) (by omega)) (?_) True.intro (by rfl))
      rintro _ w27 ⟨Ad24, c25, rfl, hs27⟩
      replace hs27 := hs21.call hs27
      refine Ops.v (Yv.assign rfl) ?_
      refine Ops.nil ?_
      refine k23 _ _ ?_
      refine run_ret ?_
      refine ⟨[.slice Ad24 xs.length c25], ⟨_, _, rfl, rfl, rfl⟩, ?_⟩
      have hz := hs27.pick [0] [.row Ad24 xs.length c25 (u8s (wideF xs half 2 1 3)) 5 1] (by decide) rfl
      exact ⟨_, _, rfl, hz.to (by unfold filterF; rw [if_neg (by rw [h12]; decide), if_pos h22])⟩
    · -- no
      refine run_seq fun K28 k28 => ?_
      refine Run.cut (fun e_ w_ => HS w [.blk b5 [.int .i64 li, .int .i64 ed, .int .i64 th] 111, .blk b2 [.slice A xs.length c, .int .i64 half] 115] w_ ∧ Le [(0, .agg #[.slice A xs.length c, .int .i64 half]), (1, .agg #[.int .i64 li, .int .i64 ed, .int .i64 th]), (2, .pointer (some ⟨b2, 0, none⟩)), (3, .pointer (some ⟨b5, 0, none⟩)), (4, .slice none 0 0), (5, .int .i64 (xs.length : Int)), (9, .bool (roughF xs half li ed)), (16, .bool (decide (((xs.length : Int) = (6 : Int)) ∧ ((flatF xs half 1 2) = true)))), (25, .bool (decide (((xs.length : Int) = (14 : Int)) ∧ ((flatF xs half 1 6) = true))))] e_) ?_ ?_
      · -- region 6: its ways meet again
        refine run_region ?_
        refine Ops.v (Yv.move rfl) ?_
        refine Ops.v (Yv.eq rfl rfl) ?_
        refine Ops.dec (fun h29 => ?_) (fun h29 => ?_)
        · -- yes
          refine Ops.v (Yv.move rfl) ?_
          refine Ops.vg ⟨_, rfl, rfl⟩ (Yv.loadn (cs := [.slice A xs.length c, .int .i64 half]) A115 S115 rfl (now (hs21.cells 1 rfl 0 2))) ?_
          refine Ops.s (Step.call rfl rfl (line_flat_fun (hs21.rd hr) hx (by omega) (by omega) (by omega) (by omega)) (?_) ⟨_, rfl, rfl⟩ (by rfl))
          rintro _ w30 ⟨rfl, hs30⟩
          replace hs30 := hs21.call hs30
          refine Ops.v (Yv.pick1 rfl rfl) ?_
          refine Ops.v (Yv.assign rfl) ?_
          refine Ops.nil ?_
          refine ⟨hs30, Sub.le ⟨rfl, rfl, rfl, rfl, rfl, rfl, rfl, rfl, lookB rfl (by first | (simp only [h29, ne_eq, not_true_eq_false, not_false_eq_true, or_true, true_or, or_false, false_or, and_true, true_and, and_false, false_and, decide_true, decide_false, or_self, and_self, Bool.decide_eq_true]; done) | simp [h29]), trivial⟩⟩
        · -- no
          refine Ops.v (Yv.move rfl) ?_
          refine Ops.skip ⟨_, rfl, rfl⟩ ?_
          refine Ops.skip ⟨_, rfl, rfl⟩ ?_
          refine Ops.v (Yv.pick0 rfl rfl) ?_
          refine Ops.v (Yv.assign rfl) ?_
          refine Ops.nil ?_
          refine ⟨hs21, Sub.le ⟨rfl, rfl, rfl, rfl, rfl, rfl, rfl, rfl, lookB rfl (by first | (simp only [h29, ne_eq, not_true_eq_false, not_false_eq_true, or_true, true_or, or_false, false_or, and_true, true_and, and_false, false_and, decide_true, decide_false, or_self, and_self, Bool.decide_eq_true]; done) | simp [h29]), trivial⟩⟩
      rintro e31 w31 ⟨hs31, he31⟩
      refine k28 _ _ ?_
      refine Run.le he31 ?_
      refine run_ifp rfl (fun h32 => ?_) (fun h32 => ?_)
      · -- yes ((xs.length : Int) = (14 : Int)) ∧ ((flatF xs half 1 6) = true)
        refine run_seq fun K33 k33 => ?_
        refine run_region ?_
        refine Ops.v (Yv.loadn (cs := [.slice A xs.length c, .int .i64 half]) A115 S115 rfl (now (hs31.cells 1 rfl 0 2))) ?_
        refine Ops.s (Step.call rfl rfl (wide_fun (hs31.rd hr) hx (by omega) (by omega) (by omega) (by omega) (by omega)) (?_) True.intro (by rfl))
        rintro _ w37 ⟨Ad34, c35, rfl, hs37⟩
        replace hs37 := hs31.call hs37
        refine Ops.v (Yv.assign rfl) ?_
        refine Ops.nil ?_
        refine k33 _ _ ?_
        refine run_ret ?_
        refine ⟨[.slice Ad34 xs.length c35], ⟨_, _, rfl, rfl, rfl⟩, ?_⟩
        have hz := hs37.pick [0] [.row Ad34 xs.length c35 (u8s (wideF xs half 6 1 4)) 5 1] (by decide) rfl
        exact ⟨_, _, rfl, hz.to (by unfold filterF; rw [if_neg (by rw [h12]; decide), if_neg h22, if_pos h32])⟩
      · -- no
        refine run_seq fun K38 k38 => ?_
        refine Run.cut (fun e_ w_ => HS w [.blk b5 [.int .i64 li, .int .i64 ed, .int .i64 th] 111, .blk b2 [.slice A xs.length c, .int .i64 half] 115] w_ ∧ Le [(0, .agg #[.slice A xs.length c, .int .i64 half]), (1, .agg #[.int .i64 li, .int .i64 ed, .int .i64 th]), (2, .pointer (some ⟨b2, 0, none⟩)), (3, .pointer (some ⟨b5, 0, none⟩)), (4, .slice none 0 0), (5, .int .i64 (xs.length : Int)), (9, .bool (roughF xs half li ed)), (16, .bool (decide (((xs.length : Int) = (6 : Int)) ∧ ((flatF xs half 1 2) = true)))), (25, .bool (decide (((xs.length : Int) = (14 : Int)) ∧ ((flatF xs half 1 6) = true)))), (34, .bool (decide (((8 : Int) ≤ (xs.length : Int)) ∧ ((flatF xs half 1 3) = true))))] e_) ?_ ?_
        · -- region 8: its ways meet again
          refine run_region ?_
          refine Ops.v (Yv.move rfl) ?_
          refine Ops.v (Yv.ge rfl rfl) ?_
          refine Ops.dec (fun h39 => ?_) (fun h39 => ?_)
          · -- yes
            refine Ops.v (Yv.move rfl) ?_
            refine Ops.vg ⟨_, rfl, rfl⟩ (Yv.loadn (cs := [.slice A xs.length c, .int .i64 half]) A115 S115 rfl (now (hs31.cells 1 rfl 0 2))) ?_
            refine Ops.s (Step.call rfl rfl (line_flat_fun (hs31.rd hr) hx (by omega) (by omega) (by omega) (by omega)) (?_) ⟨_, rfl, rfl⟩ (by rfl))
            rintro _ w40 ⟨rfl, hs40⟩
            replace hs40 := hs31.call hs40
            refine Ops.v (Yv.pick1 rfl rfl) ?_
            refine Ops.v (Yv.assign rfl) ?_
            refine Ops.nil ?_
            refine ⟨hs40, Sub.le ⟨rfl, rfl, rfl, rfl, rfl, rfl, rfl, rfl, rfl, lookB rfl (by first | (simp only [h39, ne_eq, not_true_eq_false, not_false_eq_true, or_true, true_or, or_false, false_or, and_true, true_and, and_false, false_and, decide_true, decide_false, or_self, and_self, Bool.decide_eq_true]; done) | simp [h39]), trivial⟩⟩
          · -- no
            refine Ops.v (Yv.move rfl) ?_
            refine Ops.skip ⟨_, rfl, rfl⟩ ?_
            refine Ops.skip ⟨_, rfl, rfl⟩ ?_
            refine Ops.v (Yv.pick0 rfl rfl) ?_
            refine Ops.v (Yv.assign rfl) ?_
            refine Ops.nil ?_
            refine ⟨hs31, Sub.le ⟨rfl, rfl, rfl, rfl, rfl, rfl, rfl, rfl, rfl, lookB rfl (by first | (simp only [h39, ne_eq, not_true_eq_false, not_false_eq_true, or_true, true_or, or_false, false_or, and_true, true_and, and_false, false_and, decide_true, decide_false, or_self, and_self, Bool.decide_eq_true]; done) | simp [h39]), trivial⟩⟩
        rintro e41 w41 ⟨hs41, he41⟩
        refine k38 _ _ ?_
        refine Run.le he41 ?_
        refine run_ifp rfl (fun h42 => ?_) (fun h42 => ?_)
        · -- yes ((8 : Int) ≤ (xs.length : Int)) ∧ ((flatF xs half 1 3) = true)
          refine run_seq fun K43 k43 => ?_
          refine run_region ?_
          refine Ops.v (Yv.loadn (cs := [.slice A xs.length c, .int .i64 half]) A115 S115 rfl (now (hs41.cells 1 rfl 0 2))) ?_
          refine Ops.s (Step.call rfl rfl (wide_fun (hs41.rd hr) hx (by omega) (by omega) (by omega) (by omega) (by omega)) (?_) True.intro (by rfl))
          rintro _ w47 ⟨Ad44, c45, rfl, hs47⟩
          replace hs47 := hs41.call hs47
          refine Ops.v (Yv.assign rfl) ?_
          refine Ops.nil ?_
          refine k43 _ _ ?_
          refine run_ret ?_
          refine ⟨[.slice Ad44 xs.length c45], ⟨_, _, rfl, rfl, rfl⟩, ?_⟩
          have hz := hs47.pick [0] [.row Ad44 xs.length c45 (u8s (wideF xs half 3 0 3)) 5 1] (by decide) rfl
          exact ⟨_, _, rfl, hz.to (by unfold filterF; rw [if_neg (by rw [h12]; decide), if_neg h22, if_neg h32, if_pos h42])⟩
        · -- no
          refine run_skip ?_
          refine k9 _ _ ?_
          refine run_seq fun K48 k48 => ?_
          refine run_region ?_
          refine Ops.v (Yv.loadn (cs := [.slice A xs.length c, .int .i64 half]) A115 S115 rfl (now (hs41.cells 1 rfl 0 2))) ?_
          refine Ops.v (Yv.loadn (cs := [.int .i64 li, .int .i64 ed, .int .i64 th]) A111 S111 rfl (now (hs41.cells 0 rfl 0 3))) ?_
          refine Ops.s (Step.call rfl rfl (narrow_fun (hs41.rd hr) hx (by omega) (by omega)) (?_) True.intro (by rfl))
          rintro _ w52 ⟨Ad49, c50, rfl, hs52⟩
          replace hs52 := hs41.call hs52
          refine Ops.v (Yv.assign rfl) ?_
          refine Ops.nil ?_
          refine k48 _ _ ?_
          refine run_ret ?_
          refine ⟨[.slice Ad49 xs.length c50], ⟨_, _, rfl, rfl, rfl⟩, ?_⟩
          have hz := hs52.pick [0] [.row Ad49 xs.length c50 (u8s (narrowF xs half th)) 5 1] (by decide) rfl
          exact ⟨_, _, rfl, hz.to (by unfold filterF; rw [if_neg (by rw [h12]; decide), if_neg h22, if_neg h32, if_neg h42])⟩

theorem filter_fun2 {w : World} {A : Option Addr} {m c : Nat} {xs : List Int} {half : Int} (hr : Rd w A m 1 (u8s xs)) (hx : Bytes xs) {li ed th : Int} (hh : 2 ≤ half ∧ half ≤ 7) (hl : (m : Int) = 2 * half) : Fun Try.prog 57 [.agg #[.slice A m c, .int .i64 half], .agg #[.int .i64 li, .int .i64 ed, .int .i64 th]] w fun v w' => ∃ A' c', v = .slice A' m c' ∧ HS w [.row A' m c' (u8s (filterF xs half li ed th)) 5 1] w' := by
  have hm : m = xs.length := by have := hr.len; rw [u8s_length] at this; omega
  subst hm
  exact filter_fun hr hx hh hl

theorem index_i64 {w : World} {A : Option Addr} {m c : Nat} {xs : List Int} {y : Int} (hr : Rd w A m 1 (i64s xs)) : Fun Try.prog 106 [.slice A m c, .int .i64 y] w fun v w' => ∃ i : Int, v = .int .i64 i ∧ (0 ≤ i ↔ y ∈ xs) ∧ HS w [] w' := by
  refine fun_run (m := 19) (rs := [.tmp 4]) Try.func106 rfl rfl rfl rfl rfl ?_
  have hs0 := HS.start w
  have hbig := hr.big
  have hlen : xs.length = m := by have := hr.len; rw [i64s_length] at this; omega
  refine run_seq fun K1 k1 => ?_
  refine run_region ?_
  refine Ops.v (Yv.assign rfl) ?_
  refine Ops.nil ?_
  refine k1 _ _ ?_
  refine run_seq fun K2 k2 => ?_
  refine run_seq fun K3 k3 => ?_
  refine run_region ?_
  refine Ops.v (Yv.move rfl) ?_
  refine Ops.v (Yv.len (by rw [L34]; rfl) rfl) ?_
  refine Ops.v (Yv.move rfl) ?_
  refine Ops.nil ?_
  refine k3 _ _ ?_
  refine run_block ?_
  refine Run.sub [(0, _), (1, _), (7, _), (8, _)] ⟨rfl, rfl, rfl, rfl, trivial⟩ ?_
  refine run_loop (σ := Nat) (fun k e_ w_ => HS w [] w_ ∧ e_ = [(0, .slice A m c), (1, .int .i64 y), (7, .int .i64 (m : Int)), (8, .int .i64 (k : Int))] ∧ k ≤ m ∧ ∀ j : Nat, j < k → gi xs j ≠ y)
    (fun k => m - k) 0 ?_ ?_
  · -- at the start
    refine ⟨hs0, rfl, by omega, (fun j h => by omega)⟩
  · -- a round
    rintro k _ w4 ⟨hs4, rfl, f1, f2⟩
    refine run_seq fun K5 k5 => ?_
    refine run_region ?_
    refine Ops.v (Yv.lt rfl rfl) ?_
    refine Ops.nil ?_
    refine k5 _ _ ?_
    refine run_seq fun K6 k6 => ?_
    refine run_ifp rfl (fun h7 => ?_) (fun h7 => ?_)
    · -- yes (k : Int) < (m : Int)
      refine run_skip ?_
      refine k6 _ _ ?_
      refine run_seq fun K8 k8 => ?_
      refine run_block ?_
      refine run_seq fun K9 k9 => ?_
      refine run_region ?_
      refine Ops.v (Yv.move rfl) ?_
      refine Ops.v (Yv.assign rfl) ?_
      refine Ops.nil ?_
      refine k9 _ _ ?_
      refine run_seq fun K10 k10 => ?_
      refine run_region ?_
      refine Ops.v (Yv.move rfl) ?_
      refine Ops.v (Yv.move rfl) ?_
      refine Ops.v (Yv.move rfl) ?_
      refine Ops.v (Yv.idx L34 rfl rfl ((hs4.rd hr).isSome (i := (k : Int)) (by omega) (by omega)) (by omega) (by omega)) ?_
      refine Ops.v (Yv.load A3 rfl (now ((hs4.rd hr).i64 (by omega) (by omega)))) ?_
      refine Ops.v (Yv.eq rfl rfl) ?_
      refine Ops.nil ?_
      refine k10 _ _ ?_
      refine run_ifp rfl (fun h11 => ?_) (fun h11 => ?_)
      · -- yes y = (gi xs (k : Int))
        refine run_seq fun K12 k12 => ?_
        refine run_region ?_
        refine Ops.v (Yv.move rfl) ?_
        refine Ops.v (Yv.assign rfl) ?_
        refine Ops.nil ?_
        refine k12 _ _ ?_
        refine run_ret ?_
        refine ⟨[.int .i64 (k : Int)], ⟨_, _, rfl, rfl, rfl⟩, ?_⟩
        exact ⟨_, rfl, ⟨fun _ => by rw [h11]; exact gi_mem (by omega) (by omega), fun _ => by omega⟩, hs4.pick [] _ (by decide) rfl⟩
      · -- no
        refine run_skip ?_
        refine k8 _ _ ?_
        refine run_region ?_
        refine Ops.v (Yv.add rfl rfl (by omega)) ?_
        refine Ops.v (Yv.move rfl) ?_
        refine Ops.nil ?_
        refine ⟨k + 1, _, ⟨hs4, rfl, by omega, (fun j h => by rcases Nat.lt_or_ge j k with h2 | h2; exact f2 j h2; rw [show j = k from by omega]; exact fun e => h11 e.symm)⟩, Sub.le ⟨rfl, rfl, rfl, lookI rfl (by omega), trivial⟩, by omega⟩
    · -- no
      refine run_exit ?_
      refine k2 _ _ ?_
      refine run_seq fun K13 k13 => ?_
      refine run_region ?_
      refine Ops.v (Yv.assign rfl) ?_
      refine Ops.nil ?_
      refine k13 _ _ ?_
      refine run_ret ?_
      refine ⟨[.int .i64 (-1)], ⟨_, _, rfl, rfl, rfl⟩, ?_⟩
      exact ⟨_, rfl, ⟨fun h => by omega, fun h => absurd h (not_mem_to f2 (by omega))⟩, hs4.pick [] _ (by decide) rfl⟩

theorem contains_i64 {w : World} {A : Option Addr} {m c : Nat} {xs : List Int} {y : Int} (hr : Rd w A m 1 (i64s xs)) : Fun Try.prog 58 [.slice A m c, .int .i64 y] w fun v w' => v = .bool (decide (y ∈ xs)) ∧ HS w [] w' := by
  refine fun_run (m := 9) (rs := [.tmp 4]) Try.func58 rfl rfl rfl rfl rfl ?_
  have hs0 := HS.start w
  refine run_seq fun K1 k1 => ?_
  refine run_region ?_
  refine Ops.v (Yv.assign rfl) ?_
  refine Ops.nil ?_
  refine k1 _ _ ?_
  refine run_seq fun K2 k2 => ?_
  refine run_region ?_
  refine Ops.v (Yv.move rfl) ?_
  refine Ops.v (Yv.move rfl) ?_
  refine Ops.s (Step.call rfl rfl (index_i64 (hs0.rd hr)) (?_) True.intro (by rfl))
  rintro _ w4 ⟨i3, rfl, hii3, hs4⟩
  replace hs4 := hs0.call hs4
  refine Ops.v (Yv.ge rfl rfl) ?_
  refine Ops.v (Yv.assign rfl) ?_
  refine Ops.nil ?_
  refine k2 _ _ ?_
  refine run_ret ?_
  refine ⟨[.bool (decide ((0 : Int) ≤ i3))], ⟨_, _, rfl, rfl, rfl⟩, ?_⟩
  exact ⟨by rw [decide_eq_decide.2 hii3], hs4.pick [] _ (by decide) rfl⟩

theorem index_u8 {w : World} {A : Option Addr} {m c : Nat} {xs : List Int} {y : Int} (hr : Rd w A m 1 (u8s xs)) : Fun Try.prog 138 [.slice A m c, .int .u8 y] w fun v w' => ∃ i : Int, v = .int .i64 i ∧ (0 ≤ i ↔ y ∈ xs) ∧ HS w [] w' := by
  refine fun_run (m := 19) (rs := [.tmp 4]) Try.func138 rfl rfl rfl rfl rfl ?_
  have hs0 := HS.start w
  have hbig := hr.big
  have hlen : xs.length = m := by have := hr.len; rw [u8s_length] at this; omega
  refine run_seq fun K1 k1 => ?_
  refine run_region ?_
  refine Ops.v (Yv.assign rfl) ?_
  refine Ops.nil ?_
  refine k1 _ _ ?_
  refine run_seq fun K2 k2 => ?_
  refine run_seq fun K3 k3 => ?_
  refine run_region ?_
  refine Ops.v (Yv.move rfl) ?_
  refine Ops.v (Yv.len (by rw [L23]; rfl) rfl) ?_
  refine Ops.v (Yv.move rfl) ?_
  refine Ops.nil ?_
  refine k3 _ _ ?_
  refine run_block ?_
  refine Run.sub [(0, _), (1, _), (7, _), (8, _)] ⟨rfl, rfl, rfl, rfl, trivial⟩ ?_
  refine run_loop (σ := Nat) (fun k e_ w_ => HS w [] w_ ∧ e_ = [(0, .slice A m c), (1, .int .u8 y), (7, .int .i64 (m : Int)), (8, .int .i64 (k : Int))] ∧ k ≤ m ∧ ∀ j : Nat, j < k → gi xs j ≠ y)
    (fun k => m - k) 0 ?_ ?_
  · -- at the start
    refine ⟨hs0, rfl, by omega, (fun j h => by omega)⟩
  · -- a round
    rintro k _ w4 ⟨hs4, rfl, f1, f2⟩
    refine run_seq fun K5 k5 => ?_
    refine run_region ?_
    refine Ops.v (Yv.lt rfl rfl) ?_
    refine Ops.nil ?_
    refine k5 _ _ ?_
    refine run_seq fun K6 k6 => ?_
    refine run_ifp rfl (fun h7 => ?_) (fun h7 => ?_)
    · -- yes (k : Int) < (m : Int)
      refine run_skip ?_
      refine k6 _ _ ?_
      refine run_seq fun K8 k8 => ?_
      refine run_block ?_
      refine run_seq fun K9 k9 => ?_
      refine run_region ?_
      refine Ops.v (Yv.move rfl) ?_
      refine Ops.v (Yv.assign rfl) ?_
      refine Ops.nil ?_
      refine k9 _ _ ?_
      refine run_seq fun K10 k10 => ?_
      refine run_region ?_
      refine Ops.v (Yv.move rfl) ?_
      refine Ops.v (Yv.move rfl) ?_
      refine Ops.v (Yv.move rfl) ?_
      refine Ops.v (Yv.idx L23 rfl rfl ((hs4.rd hr).isSome (i := (k : Int)) (by omega) (by omega)) (by omega) (by omega)) ?_
      refine Ops.v (Yv.load A5 rfl (now ((hs4.rd hr).u8 (by omega) (by omega)))) ?_
      refine Ops.v (Yv.eq rfl rfl) ?_
      refine Ops.nil ?_
      refine k10 _ _ ?_
      refine run_ifp rfl (fun h11 => ?_) (fun h11 => ?_)
      · -- yes y = (gi xs (k : Int))
        refine run_seq fun K12 k12 => ?_
        refine run_region ?_
        refine Ops.v (Yv.move rfl) ?_
        refine Ops.v (Yv.assign rfl) ?_
        refine Ops.nil ?_
        refine k12 _ _ ?_
        refine run_ret ?_
        refine ⟨[.int .i64 (k : Int)], ⟨_, _, rfl, rfl, rfl⟩, ?_⟩
        exact ⟨_, rfl, ⟨fun _ => by rw [h11]; exact gi_mem (by omega) (by omega), fun _ => by omega⟩, hs4.pick [] _ (by decide) rfl⟩
      · -- no
        refine run_skip ?_
        refine k8 _ _ ?_
        refine run_region ?_
        refine Ops.v (Yv.add rfl rfl (by omega)) ?_
        refine Ops.v (Yv.move rfl) ?_
        refine Ops.nil ?_
        refine ⟨k + 1, _, ⟨hs4, rfl, by omega, (fun j h => by rcases Nat.lt_or_ge j k with h2 | h2; exact f2 j h2; rw [show j = k from by omega]; exact fun e => h11 e.symm)⟩, Sub.le ⟨rfl, rfl, rfl, lookI rfl (by omega), trivial⟩, by omega⟩
    · -- no
      refine run_exit ?_
      refine k2 _ _ ?_
      refine run_seq fun K13 k13 => ?_
      refine run_region ?_
      refine Ops.v (Yv.assign rfl) ?_
      refine Ops.nil ?_
      refine k13 _ _ ?_
      refine run_ret ?_
      refine ⟨[.int .i64 (-1)], ⟨_, _, rfl, rfl, rfl⟩, ?_⟩
      exact ⟨_, rfl, ⟨fun h => by omega, fun h => absurd h (not_mem_to f2 (by omega))⟩, hs4.pick [] _ (by decide) rfl⟩

theorem contains_u8 {w : World} {A : Option Addr} {m c : Nat} {xs : List Int} {y : Int} (hr : Rd w A m 1 (u8s xs)) : Fun Try.prog 101 [.slice A m c, .int .u8 y] w fun v w' => v = .bool (decide (y ∈ xs)) ∧ HS w [] w' := by
  refine fun_run (m := 9) (rs := [.tmp 4]) Try.func101 rfl rfl rfl rfl rfl ?_
  have hs0 := HS.start w
  refine run_seq fun K1 k1 => ?_
  refine run_region ?_
  refine Ops.v (Yv.assign rfl) ?_
  refine Ops.nil ?_
  refine k1 _ _ ?_
  refine run_seq fun K2 k2 => ?_
  refine run_region ?_
  refine Ops.v (Yv.move rfl) ?_
  refine Ops.v (Yv.move rfl) ?_
  refine Ops.s (Step.call rfl rfl (index_u8 (hs0.rd hr)) (?_) True.intro (by rfl))
  rintro _ w4 ⟨i3, rfl, hii3, hs4⟩
  replace hs4 := hs0.call hs4
  refine Ops.v (Yv.ge rfl rfl) ?_
  refine Ops.v (Yv.assign rfl) ?_
  refine Ops.nil ?_
  refine k2 _ _ ?_
  refine run_ret ?_
  refine ⟨[.bool (decide ((0 : Int) ≤ i3))], ⟨_, _, rfl, rfl, rfl⟩, ?_⟩
  exact ⟨by rw [decide_eq_decide.2 hii3], hs4.pick [] _ (by decide) rfl⟩

theorem indexFunc_u8 {w : World} {A : Option Addr} {m c : Nat} {xs : List Int} {f : FuncId} {cap : List Value} {p : Int → Bool} (hr : Rd w A m 1 (u8s xs)) (hf : ∀ w1 x, x ∈ xs → HS w [] w1 → Fun Try.prog f (.int .u8 x :: cap) w1 fun v w2 => v = .bool (p x) ∧ HS w1 [] w2) : Fun Try.prog 137 [.slice A m c, .func (.func f) #[] cap.toArray] w fun v w' => ∃ i : Int, v = .int .i64 i ∧ (0 ≤ i ↔ xs.any p = true) ∧ HS w [] w' := by
  refine fun_run (m := 19) (rs := [.tmp 4]) Try.func137 rfl rfl rfl rfl rfl ?_
  have hs0 := HS.start w
  have hbig := hr.big
  have hlen : xs.length = m := by have := hr.len; rw [u8s_length] at this; omega
  refine run_seq fun K1 k1 => ?_
  refine run_region ?_
  refine Ops.v (Yv.assign rfl) ?_
  refine Ops.nil ?_
  refine k1 _ _ ?_
  refine run_seq fun K2 k2 => ?_
  refine run_seq fun K3 k3 => ?_
  refine run_region ?_
  refine Ops.v (Yv.move rfl) ?_
  refine Ops.v (Yv.len (by rw [L23]; rfl) rfl) ?_
  refine Ops.v (Yv.move rfl) ?_
  refine Ops.nil ?_
  refine k3 _ _ ?_
  refine run_block ?_
  refine Run.sub [(0, _), (1, _), (7, _), (8, _)] ⟨rfl, rfl, rfl, rfl, trivial⟩ ?_
  refine run_loop (σ := Nat) (fun k e_ w_ => HS w [] w_ ∧ e_ = [(0, .slice A m c), (1, .func (.func f) #[] cap.toArray), (7, .int .i64 (m : Int)), (8, .int .i64 (k : Int))] ∧ k ≤ m ∧ ∀ j : Nat, j < k → p (gi xs j) = false)
    (fun k => m - k) 0 ?_ ?_
  · -- at the start
    refine ⟨hs0, rfl, by omega, (fun j h => by omega)⟩
  · -- a round
    rintro k _ w4 ⟨hs4, rfl, f1, f2⟩
    refine run_seq fun K5 k5 => ?_
    refine run_region ?_
    refine Ops.v (Yv.lt rfl rfl) ?_
    refine Ops.nil ?_
    refine k5 _ _ ?_
    refine run_seq fun K6 k6 => ?_
    refine run_ifp rfl (fun h7 => ?_) (fun h7 => ?_)
    · -- yes (k : Int) < (m : Int)
      refine run_skip ?_
      refine k6 _ _ ?_
      refine run_seq fun K8 k8 => ?_
      refine run_block ?_
      refine run_seq fun K9 k9 => ?_
      refine run_region ?_
      refine Ops.v (Yv.move rfl) ?_
      refine Ops.v (Yv.assign rfl) ?_
      refine Ops.nil ?_
      refine k9 _ _ ?_
      refine run_seq fun K10 k10 => ?_
      refine run_region ?_
      refine Ops.v (Yv.move rfl) ?_
      refine Ops.v (Yv.move rfl) ?_
      refine Ops.v (Yv.move rfl) ?_
      refine Ops.v (Yv.idx L23 rfl rfl ((hs4.rd hr).isSome (i := (k : Int)) (by omega) (by omega)) (by omega) (by omega)) ?_
      refine Ops.v (Yv.load A5 rfl (now ((hs4.rd hr).u8 (by omega) (by omega)))) ?_
      refine Ops.s (Step.call rfl rfl (hf _ _ (gi_mem (by omega) (by omega)) (hs4.pick [] [] (by decide) rfl)) (?_) True.intro (by rfl))
      rintro _ w11 ⟨rfl, hs11⟩
      replace hs11 := hs4.call hs11
      refine Ops.nil ?_
      refine k10 _ _ ?_
      refine run_if rfl (fun h12 => ?_) (fun h12 => ?_)
      · -- yes p (gi xs (k : Int))
        refine run_seq fun K13 k13 => ?_
        refine run_region ?_
        refine Ops.v (Yv.move rfl) ?_
        refine Ops.v (Yv.assign rfl) ?_
        refine Ops.nil ?_
        refine k13 _ _ ?_
        refine run_ret ?_
        refine ⟨[.int .i64 (k : Int)], ⟨_, _, rfl, rfl, rfl⟩, ?_⟩
        exact ⟨_, rfl, ⟨fun _ => any_yes (by omega) (by omega) h12, fun _ => by omega⟩, hs11.pick [] _ (by decide) rfl⟩
      · -- no
        refine run_skip ?_
        refine k8 _ _ ?_
        refine run_region ?_
        refine Ops.v (Yv.add rfl rfl (by omega)) ?_
        refine Ops.v (Yv.move rfl) ?_
        refine Ops.nil ?_
        refine ⟨k + 1, _, ⟨hs11, rfl, by omega, (fun j h => by rcases Nat.lt_or_ge j k with h2 | h2; exact f2 j h2; rw [show j = k from by omega]; exact h12)⟩, Sub.le ⟨rfl, rfl, rfl, lookI rfl (by omega), trivial⟩, by omega⟩
    · -- no
      refine run_exit ?_
      refine k2 _ _ ?_
      refine run_seq fun K14 k14 => ?_
      refine run_region ?_
      refine Ops.v (Yv.assign rfl) ?_
      refine Ops.nil ?_
      refine k14 _ _ ?_
      refine run_ret ?_
      refine ⟨[.int .i64 (-1)], ⟨_, _, rfl, rfl, rfl⟩, ?_⟩
      exact ⟨_, rfl, ⟨fun h => by omega, fun h => absurd h (by rw [any_no f2 (by omega)]; decide)⟩, hs4.pick [] _ (by decide) rfl⟩

theorem containsFunc_u8 {w : World} {A : Option Addr} {m c : Nat} {xs : List Int} {f : FuncId} {cap : List Value} {p : Int → Bool} (hr : Rd w A m 1 (u8s xs)) (hf : ∀ w1 x, x ∈ xs → HS w [] w1 → Fun Try.prog f (.int .u8 x :: cap) w1 fun v w2 => v = .bool (p x) ∧ HS w1 [] w2) : Fun Try.prog 99 [.slice A m c, .func (.func f) #[] cap.toArray] w fun v w' => v = .bool (xs.any p) ∧ HS w [] w' := by
  refine fun_run (m := 9) (rs := [.tmp 4]) Try.func99 rfl rfl rfl rfl rfl ?_
  have hs0 := HS.start w
  refine run_seq fun K1 k1 => ?_
  refine run_region ?_
  refine Ops.v (Yv.assign rfl) ?_
  refine Ops.nil ?_
  refine k1 _ _ ?_
  refine run_seq fun K2 k2 => ?_
  refine run_region ?_
  refine Ops.v (Yv.move rfl) ?_
  refine Ops.v (Yv.move rfl) ?_
  refine Ops.s (Step.call rfl rfl (indexFunc_u8 (hs0.rd hr) hf) (?_) True.intro (by rfl))
  rintro _ w3 ⟨i_, rfl, hi_, hs3⟩
  replace hs3 := hs0.call hs3
  refine Ops.v (Yv.ge rfl rfl) ?_
  refine Ops.v (Yv.assign rfl) ?_
  refine Ops.nil ?_
  refine k2 _ _ ?_
  refine run_ret ?_
  refine ⟨[.bool (decide ((0 : Int) ≤ i_))], ⟨_, _, rfl, rfl, rfl⟩, ?_⟩
  exact ⟨by rw [bool_iff hi_], hs3.pick [] _ (by decide) rfl⟩

theorem may1_fun {w : World} {A : Option Addr} {m c b : Nat} {xs : List Int} {x : Int} (hc : Rd w (some ⟨b, 0, none⟩) 1 1 [.slice A m c]) (hr : Rd w A m 1 (u8s xs)) : Fun Try.prog 100 [.int .u8 x, .pointer (some ⟨b, 0, none⟩)] w fun v w' => v = .bool (decide (¬ x ∈ xs)) ∧ HS w [] w' := by
  refine fun_run (m := 8) (rs := [.tmp 3]) Try.func100 rfl rfl rfl rfl rfl ?_
  have hs0 := HS.start w
  refine run_seq fun K1 k1 => ?_
  refine run_region ?_
  refine Ops.v (Yv.assign rfl) ?_
  refine Ops.nil ?_
  refine k1 _ _ ?_
  refine run_seq fun K2 k2 => ?_
  refine run_region ?_
  refine Ops.v (Yv.load A23 rfl (now ((hs0.rd hc).at_ (j := 0) rfl))) ?_
  refine Ops.v (Yv.move rfl) ?_
  refine Ops.s (Step.call rfl rfl (contains_u8 (hs0.rd hr)) (?_) True.intro (by rfl))
  rintro _ w3 ⟨rfl, hs3⟩
  replace hs3 := hs0.call hs3
  refine Ops.v (Yv.notp rfl) ?_
  refine Ops.v (Yv.assign rfl) ?_
  refine Ops.nil ?_
  refine k2 _ _ ?_
  refine run_ret ?_
  refine ⟨[.bool (decide (¬ (x ∈ xs)))], ⟨_, _, rfl, rfl, rfl⟩, ?_⟩
  exact ⟨rfl, hs3.pick [] _ (by decide) rfl⟩

theorem sizes_fun {w : World} {a b : Int} : Fun Try.prog 96 [.int .i64 a, .int .i64 b] w fun v w' => v = .bool (decide (((1 ≤ a ∧ a ≤ 512) ∧ 1 ≤ b) ∧ b ≤ 512)) ∧ w = w' := by
  refine fun_run (m := 19) (rs := [.tmp 4]) Try.func96 rfl rfl rfl rfl rfl ?_
  have hs0 := HS.start w
  refine run_seq fun K1 k1 => ?_
  refine run_region ?_
  refine Ops.v (Yv.assign rfl) ?_
  refine Ops.nil ?_
  refine k1 _ _ ?_
  refine run_seq fun K2 k2 => ?_
  refine Run.cut (fun e_ w_ => w = w_ ∧ Le [(0, .int .i64 a), (1, .int .i64 b), (4, .bool (decide (((((1 : Int) ≤ a) ∧ (a ≤ (512 : Int))) ∧ ((1 : Int) ≤ b)) ∧ (b ≤ (512 : Int)))))] e_) ?_ ?_
  · -- region 1: its ways meet again
    refine run_region ?_
    refine Ops.v (Yv.move rfl) ?_
    refine Ops.v (Yv.ge rfl rfl) ?_
    refine Ops.dec (fun h3 => ?_) (fun h3 => ?_)
    · -- yes
      refine Ops.v (Yv.move rfl) ?_
      refine Ops.vg ⟨_, rfl, rfl⟩ (Yv.move rfl) ?_
      refine Ops.vg ⟨_, rfl, rfl⟩ (Yv.le rfl rfl) ?_
      refine Ops.dec (fun h4 => ?_) (fun h4 => ?_)
      · -- yes
        refine Ops.v (Yv.pick1 rfl rfl) ?_
        refine Ops.v (Yv.move rfl) ?_
        refine Ops.vg ⟨_, rfl, rfl⟩ (Yv.move rfl) ?_
        refine Ops.vg ⟨_, rfl, rfl⟩ (Yv.ge rfl rfl) ?_
        refine Ops.dec (fun h5 => ?_) (fun h5 => ?_)
        · -- yes
          refine Ops.v (Yv.pick1 rfl rfl) ?_
          refine Ops.v (Yv.move rfl) ?_
          refine Ops.vg ⟨_, rfl, rfl⟩ (Yv.move rfl) ?_
          refine Ops.vg ⟨_, rfl, rfl⟩ (Yv.le rfl rfl) ?_
          refine Ops.v (Yv.pick1 rfl rfl) ?_
          refine Ops.v (Yv.assign rfl) ?_
          refine Ops.nil ?_
          refine ⟨rfl, Sub.le ⟨rfl, rfl, lookB rfl (by first | (simp only [h3, h4, h5, ne_eq, not_true_eq_false, not_false_eq_true, or_true, true_or, or_false, false_or, and_true, true_and, and_false, false_and, decide_true, decide_false, or_self, and_self, Bool.decide_eq_true]; done) | simp [h3, h4, h5]), trivial⟩⟩
        · -- no
          refine Ops.v (Yv.pick1 rfl rfl) ?_
          refine Ops.v (Yv.move rfl) ?_
          refine Ops.skip ⟨_, rfl, rfl⟩ ?_
          refine Ops.skip ⟨_, rfl, rfl⟩ ?_
          refine Ops.v (Yv.pick0 rfl rfl) ?_
          refine Ops.v (Yv.assign rfl) ?_
          refine Ops.nil ?_
          refine ⟨rfl, Sub.le ⟨rfl, rfl, lookB rfl (by first | (simp only [h3, h4, h5, ne_eq, not_true_eq_false, not_false_eq_true, or_true, true_or, or_false, false_or, and_true, true_and, and_false, false_and, decide_true, decide_false, or_self, and_self, Bool.decide_eq_true]; done) | simp [h3, h4, h5]), trivial⟩⟩
      · -- no
        refine Ops.v (Yv.pick1 rfl rfl) ?_
        refine Ops.v (Yv.move rfl) ?_
        refine Ops.skip ⟨_, rfl, rfl⟩ ?_
        refine Ops.skip ⟨_, rfl, rfl⟩ ?_
        refine Ops.v (Yv.pick0 rfl rfl) ?_
        refine Ops.v (Yv.move rfl) ?_
        refine Ops.skip ⟨_, rfl, rfl⟩ ?_
        refine Ops.skip ⟨_, rfl, rfl⟩ ?_
        refine Ops.v (Yv.pick0 rfl rfl) ?_
        refine Ops.v (Yv.assign rfl) ?_
        refine Ops.nil ?_
        refine ⟨rfl, Sub.le ⟨rfl, rfl, lookB rfl (by first | (simp only [h3, h4, ne_eq, not_true_eq_false, not_false_eq_true, or_true, true_or, or_false, false_or, and_true, true_and, and_false, false_and, decide_true, decide_false, or_self, and_self, Bool.decide_eq_true]; done) | simp [h3, h4]), trivial⟩⟩
    · -- no
      refine Ops.v (Yv.move rfl) ?_
      refine Ops.skip ⟨_, rfl, rfl⟩ ?_
      refine Ops.skip ⟨_, rfl, rfl⟩ ?_
      refine Ops.v (Yv.pick0 rfl rfl) ?_
      refine Ops.v (Yv.move rfl) ?_
      refine Ops.skip ⟨_, rfl, rfl⟩ ?_
      refine Ops.skip ⟨_, rfl, rfl⟩ ?_
      refine Ops.v (Yv.pick0 rfl rfl) ?_
      refine Ops.v (Yv.move rfl) ?_
      refine Ops.skip ⟨_, rfl, rfl⟩ ?_
      refine Ops.skip ⟨_, rfl, rfl⟩ ?_
      refine Ops.v (Yv.pick0 rfl rfl) ?_
      refine Ops.v (Yv.assign rfl) ?_
      refine Ops.nil ?_
      refine ⟨rfl, Sub.le ⟨rfl, rfl, lookB rfl (by first | (simp only [h3, ne_eq, not_true_eq_false, not_false_eq_true, or_true, true_or, or_false, false_or, and_true, true_and, and_false, false_and, decide_true, decide_false, or_self, and_self, Bool.decide_eq_true]; done) | simp [h3]), trivial⟩⟩
  rintro e6 _ ⟨rfl, he6⟩
  refine k2 _ _ ?_
  refine Run.le he6 ?_
  refine run_ret ?_
  refine ⟨[.bool (decide (((((1 : Int) ≤ a) ∧ (a ≤ (512 : Int))) ∧ ((1 : Int) ≤ b)) ∧ (b ≤ (512 : Int))))], ⟨_, _, rfl, rfl, rfl⟩, ?_⟩
  exact ⟨rfl, rfl⟩

theorem check_fun {w : World} {W H : Int} {A : Option Addr} {m c : Nat} : Fun Try.prog 86 [.agg #[.int .i64 W, .int .i64 H, .slice A m c]] w fun v w' => v = .int .i64 (checkF W H m) ∧ HS w [] w' := by
  refine fun_run (m := 20) (rs := [.tmp 2]) Try.func86 rfl rfl rfl rfl rfl ?_
  have hs0 := HS.start w
  refine run_seq fun K1 k1 => ?_
  refine run_region ?_
  refine Ops.s (Step.box (cs := [.int .i64 W, .int .i64 H, .slice A m c]) hs0 rfl rfl (fun b2 w3 hs3 hb3 => ?_) True.intro (by rfl))
  refine Ops.v (Yv.assign rfl) ?_
  refine Ops.nil ?_
  refine k1 _ _ ?_
  refine run_seq fun K5 k5 => ?_
  refine run_seq fun K6 k6 => ?_
  refine Run.cut (fun e_ w_ => w3 = w_ ∧ Le [(0, .agg #[.int .i64 W, .int .i64 H, .slice A m c]), (1, .pointer (some ⟨b2, 0, none⟩)), (2, .int .i64 0), (19, .bool (decide ((¬ (((1 ≤ W ∧ W ≤ 512) ∧ 1 ≤ H) ∧ H ≤ 512)) ∨ ((m : Int) ≠ (W * H)))))] e_) ?_ ?_
  · -- region 1: its ways meet again
    refine run_region ?_
    refine Ops.v (Yv.fld F28_0 rfl) ?_
    refine Ops.v (Yv.load A3 rfl (now (hs3.cell 0 rfl 0 rfl))) ?_
    refine Ops.v (Yv.fld F28_1 rfl) ?_
    refine Ops.v (Yv.load A3 rfl (now (hs3.cell 0 rfl 1 rfl))) ?_
    refine Ops.s (Step.call rfl rfl (sizes_fun) (?_) True.intro (by rfl))
    rintro _ _ ⟨rfl, rfl⟩
    refine Ops.dec (fun h8 => ?_) (fun h8 => ?_)
    · -- yes
      refine Ops.v (Yv.not rfl) ?_
      refine Ops.v (Yv.move rfl) ?_
      refine Ops.vg ⟨_, rfl, rfl⟩ (Yv.fld F28_2 rfl) ?_
      refine Ops.vg ⟨_, rfl, rfl⟩ (Yv.load A23 rfl (now (hs3.cell 0 rfl 2 rfl))) ?_
      refine Ops.vg ⟨_, rfl, rfl⟩ (Yv.len (by rw [L23]; rfl) rfl) ?_
      refine Ops.vg ⟨_, rfl, rfl⟩ (Yv.fld F28_0 rfl) ?_
      refine Ops.vg ⟨_, rfl, rfl⟩ (Yv.load A3 rfl (now (hs3.cell 0 rfl 0 rfl))) ?_
      refine Ops.vg ⟨_, rfl, rfl⟩ (Yv.fld F28_1 rfl) ?_
      refine Ops.vg ⟨_, rfl, rfl⟩ (Yv.load A3 rfl (now (hs3.cell 0 rfl 1 rfl))) ?_
      have hWH := mul_bd (a := W) (b := H) (x := 512) (y := 512) (by omega) (by omega) (by omega) (by omega)
      refine Ops.vg ⟨_, rfl, rfl⟩ (Yv.mul rfl rfl (by omega)) ?_
      refine Ops.vg ⟨_, rfl, rfl⟩ (Yv.ne rfl rfl) ?_
      refine Ops.v (Yv.pick0 rfl rfl) ?_
      refine Ops.nil ?_
      refine ⟨rfl, Sub.le ⟨rfl, rfl, rfl, lookB rfl (by first | (simp only [h8, ne_eq, not_true_eq_false, not_false_eq_true, or_true, true_or, or_false, false_or, and_true, true_and, and_false, false_and, decide_true, decide_false, or_self, and_self, Bool.decide_eq_true]; done) | simp [h8]), trivial⟩⟩
    · -- no
      refine Ops.v (Yv.not rfl) ?_
      refine Ops.v (Yv.move rfl) ?_
      refine Ops.skip ⟨_, rfl, rfl⟩ ?_
      refine Ops.skip ⟨_, rfl, rfl⟩ ?_
      refine Ops.skip ⟨_, rfl, rfl⟩ ?_
      refine Ops.skip ⟨_, rfl, rfl⟩ ?_
      refine Ops.skip ⟨_, rfl, rfl⟩ ?_
      refine Ops.skip ⟨_, rfl, rfl⟩ ?_
      refine Ops.skip ⟨_, rfl, rfl⟩ ?_
      refine Ops.skip ⟨_, rfl, rfl⟩ ?_
      refine Ops.skip ⟨_, rfl, rfl⟩ ?_
      refine Ops.v (Yv.pick1 rfl rfl) ?_
      refine Ops.nil ?_
      refine ⟨rfl, Sub.le ⟨rfl, rfl, rfl, lookB rfl (by first | (simp only [h8, ne_eq, not_true_eq_false, not_false_eq_true, or_true, true_or, or_false, false_or, and_true, true_and, and_false, false_and, decide_true, decide_false, or_self, and_self, Bool.decide_eq_true]; done) | simp [h8]), trivial⟩⟩
  rintro e9 _ ⟨rfl, he9⟩
  refine k6 _ _ ?_
  refine Run.le he9 ?_
  refine run_ifp rfl (fun h10 => ?_) (fun h10 => ?_)
  · -- yes (¬ (((1 ≤ W ∧ W ≤ 512) ∧ 1 ≤ H) ∧ H ≤ 512)) ∨ ((m : Int) ≠ (W * H))
    refine run_seq fun K11 k11 => ?_
    refine run_region ?_
    refine Ops.v (Yv.assign rfl) ?_
    refine Ops.nil ?_
    refine k11 _ _ ?_
    refine run_ret ?_
    refine ⟨[.int .i64 2], ⟨_, _, rfl, rfl, rfl⟩, ?_⟩
    exact ⟨by rw [checkF, if_pos h10], hs3.pick [] _ (by decide) rfl⟩
  · -- no
    refine run_skip ?_
    refine k5 _ _ ?_
    refine run_seq fun K12 k12 => ?_
    refine run_region ?_
    refine Ops.v (Yv.assign rfl) ?_
    refine Ops.nil ?_
    refine k12 _ _ ?_
    refine run_ret ?_
    refine ⟨[.int .i64 0], ⟨_, _, rfl, rfl, rfl⟩, ?_⟩
    exact ⟨by rw [checkF, if_neg h10], hs3.pick [] _ (by decide) rfl⟩

theorem bring_fun {w : World} {i n : Int} (hn : n ≤ 1000000000) : Fun Try.prog 16 [.int .i64 i, .int .i64 n] w fun v w' => v = .int .i64 (bringF i n) ∧ w = w' := by
  refine fun_run (m := 16) (rs := [.tmp 4]) Try.func16 rfl rfl rfl rfl rfl ?_
  have hs0 := HS.start w
  refine run_seq fun K1 k1 => ?_
  refine run_region ?_
  refine Ops.v (Yv.assign rfl) ?_
  refine Ops.nil ?_
  refine k1 _ _ ?_
  refine run_seq fun K2 k2 => ?_
  refine run_seq fun K3 k3 => ?_
  refine run_region ?_
  refine Ops.v (Yv.move rfl) ?_
  refine Ops.v (Yv.le rfl rfl) ?_
  refine Ops.nil ?_
  refine k3 _ _ ?_
  refine run_ifp rfl (fun h4 => ?_) (fun h4 => ?_)
  · -- yes n ≤ (0 : Int)
    refine run_seq fun K5 k5 => ?_
    refine run_region ?_
    refine Ops.v (Yv.assign rfl) ?_
    refine Ops.nil ?_
    refine k5 _ _ ?_
    refine run_ret ?_
    refine ⟨[.int .i64 0], ⟨_, _, rfl, rfl, rfl⟩, ?_⟩
    exact ⟨by rw [bringF, if_pos h4], rfl⟩
  · -- no
    refine run_skip ?_
    refine k2 _ _ ?_
    refine run_seq fun K6 k6 => ?_
    refine run_region ?_
    refine Ops.v (Yv.move rfl) ?_
    refine Ops.v (Yv.move rfl) ?_
    refine Ops.v (Yv.remt rfl rfl (by omega)) ?_
    refine Ops.v (Yv.assign rfl) ?_
    refine Ops.nil ?_
    refine k6 _ _ ?_
    refine run_seq fun K7 k7 => ?_
    refine run_seq fun K8 k8 => ?_
    refine run_region ?_
    have htm := tmod_bd (i := i) (n := n) (by omega)
    refine Ops.v (Yv.move rfl) ?_
    refine Ops.v (Yv.lt rfl rfl) ?_
    refine Ops.nil ?_
    refine k8 _ _ ?_
    refine run_ifp rfl (fun h9 => ?_) (fun h9 => ?_)
    · -- yes (Int.tmod i n) < (0 : Int)
      refine run_region ?_
      refine Ops.v (Yv.move rfl) ?_
      refine Ops.v (Yv.move rfl) ?_
      refine Ops.v (Yv.add rfl rfl (by omega)) ?_
      refine Ops.v (Yv.assign rfl) ?_
      refine Ops.nil ?_
      refine k7 _ _ ?_
      refine run_seq fun K10 k10 => ?_
      refine run_region ?_
      refine Ops.v (Yv.move rfl) ?_
      refine Ops.v (Yv.assign rfl) ?_
      refine Ops.nil ?_
      refine k10 _ _ ?_
      refine run_ret ?_
      refine ⟨[.int .i64 ((Int.tmod i n) + n)], ⟨_, _, rfl, rfl, rfl⟩, ?_⟩
      exact ⟨by rw [bring_neg (by omega) h9], rfl⟩
    · -- no
      refine run_skip ?_
      refine k7 _ _ ?_
      refine run_seq fun K11 k11 => ?_
      refine run_region ?_
      refine Ops.v (Yv.move rfl) ?_
      refine Ops.v (Yv.assign rfl) ?_
      refine Ops.nil ?_
      refine k11 _ _ ?_
      refine run_ret ?_
      refine ⟨[.int .i64 (Int.tmod i n)], ⟨_, _, rfl, rfl, rfl⟩, ?_⟩
      exact ⟨by rw [bring_pos (by omega) h9], rfl⟩

theorem eqBytes_fun {w : World} {A B : Option Addr} {m1 c1 m2 c2 : Nat} {xs ys : List Int} (hr : Rd w A m1 1 (u8s xs)) (hr2 : Rd w B m2 1 (u8s ys)) : Fun Try.prog 20 [.slice A m1 c1, .slice B m2 c2] w fun v w' => v = .bool (decide (xs = ys)) ∧ HS w [] w' := by
  refine fun_run (m := 26) (rs := [.tmp 4]) Try.func20 rfl rfl rfl rfl rfl ?_
  have hs0 := HS.start w
  have hbig := hr.big
  have hlen : xs.length = m1 := by have := hr.len; rw [u8s_length] at this; omega
  have hlen2 : ys.length = m2 := by have := hr2.len; rw [u8s_length] at this; omega
  refine run_seq fun K1 k1 => ?_
  refine run_region ?_
  refine Ops.v (Yv.assign rfl) ?_
  refine Ops.nil ?_
  refine k1 _ _ ?_
  refine run_seq fun K2 k2 => ?_
  refine run_seq fun K3 k3 => ?_
  refine run_region ?_
  refine Ops.v (Yv.move rfl) ?_
  refine Ops.v (Yv.len (by rw [L23]; rfl) rfl) ?_
  refine Ops.v (Yv.move rfl) ?_
  refine Ops.v (Yv.len (by rw [L23]; rfl) rfl) ?_
  refine Ops.v (Yv.ne rfl rfl) ?_
  refine Ops.nil ?_
  refine k3 _ _ ?_
  refine run_ifp rfl (fun h4 => ?_) (fun h4 => ?_)
  · -- yes (m1 : Int) ≠ (m2 : Int)
    refine run_seq fun K5 k5 => ?_
    refine run_region ?_
    refine Ops.v (Yv.assign rfl) ?_
    refine Ops.nil ?_
    refine k5 _ _ ?_
    refine run_ret ?_
    refine ⟨[.bool false], ⟨_, _, rfl, rfl, rfl⟩, ?_⟩
    exact ⟨by rw [decide_eq_false (fun e => by subst e; omega)], hs0.pick [] _ (by decide) rfl⟩
  · -- no
    refine run_skip ?_
    refine k2 _ _ ?_
    refine run_seq fun K6 k6 => ?_
    refine run_seq fun K7 k7 => ?_
    refine run_region ?_
    refine Ops.v (Yv.assign rfl) ?_
    refine Ops.nil ?_
    refine k7 _ _ ?_
    refine run_block ?_
    refine Run.sub [(0, _), (1, _), (5, _), (10, _)] ⟨rfl, rfl, rfl, rfl, trivial⟩ ?_
    refine run_loop (σ := Nat) (fun k e_ w_ => HS w [] w_ ∧ e_ = [(0, .slice A m1 c1), (1, .slice B m2 c2), (5, .int .i64 (k : Int)), (10, .bool (decide ((m1 : Int) ≠ (m2 : Int))))] ∧ k ≤ m1 ∧ ∀ j : Nat, j < k → gi xs j = gi ys j)
      (fun k => m1 - k) 0 ?_ ?_
    · -- at the start
      refine ⟨hs0, rfl, by omega, (fun j h => by omega)⟩
    · -- a round
      rintro k _ w8 ⟨hs8, rfl, f1, f2⟩
      refine run_seq fun K9 k9 => ?_
      refine run_seq fun K10 k10 => ?_
      refine run_region ?_
      refine Ops.v (Yv.move rfl) ?_
      refine Ops.v (Yv.move rfl) ?_
      refine Ops.v (Yv.len (by rw [L23]; rfl) rfl) ?_
      refine Ops.v (Yv.lt rfl rfl) ?_
      refine Ops.nil ?_
      refine k10 _ _ ?_
      refine run_ifp rfl (fun h11 => ?_) (fun h11 => ?_)
      · -- yes (k : Int) < (m1 : Int)
        refine run_skip ?_
        refine k9 _ _ ?_
        refine run_seq fun K12 k12 => ?_
        refine run_block ?_
        refine run_seq fun K13 k13 => ?_
        refine run_drawn [] (fun x => Below (w8.drew).heap.size (w8.drew) x) ?_ Tf.mixed (by kernel_rfl) (fun _ _ _ h => h)
        have hs14 := hs8.drew
        have hS15 := Below.refl (w8.drew).heap.size (w8.drew)
        refine Drw.a 0 rfl (by kernel_rfl) (Yv.move rfl) ?_
        refine Drw.a 1 rfl (by kernel_rfl) (Yv.move rfl) ?_
        refine Drw.a 2 rfl (by kernel_rfl) (Yv.idx L23 rfl rfl ((hs14.rd hr).isSome (i := (k : Int)) (by omega) (by omega)) (by omega) (by omega)) ?_
        refine Drw.l 3 rfl (by kernel_rfl) hS15 (Yv.load A5 rfl (fun _ hq_ => (((hs14.grow hq_).rd hr).u8 (by omega) (by omega)))) ?_
        refine Drw.a 4 rfl (by kernel_rfl) (Yv.move rfl) ?_
        refine Drw.a 5 rfl (by kernel_rfl) (Yv.move rfl) ?_
        refine Drw.a 6 rfl (by kernel_rfl) (Yv.idx L23 rfl rfl ((hs14.rd hr2).isSome (i := (k : Int)) (by omega) (by omega)) (by omega) (by omega)) ?_
        refine Drw.l 7 rfl (by kernel_rfl) hS15 (Yv.load A5 rfl (fun _ hq_ => (((hs14.grow hq_).rd hr2).u8 (by omega) (by omega)))) ?_
        refine Drw.a 8 rfl (by kernel_rfl) (Yv.ne rfl rfl) ?_
        refine Drw.done ?_ (by kernel_rfl)
        refine k13 _ _ ?_
        refine run_ifp rfl (fun h16 => ?_) (fun h16 => ?_)
        · -- yes (gi xs (k : Int)) ≠ (gi ys (k : Int))
          refine run_seq fun K17 k17 => ?_
          refine run_region ?_
          refine Ops.v (Yv.assign rfl) ?_
          refine Ops.nil ?_
          refine k17 _ _ ?_
          refine run_ret ?_
          refine ⟨[.bool false], ⟨_, _, rfl, rfl, rfl⟩, ?_⟩
          exact ⟨by rw [decide_eq_false (fun e => by subst e; exact h16 rfl)], hs14.pick [] _ (by decide) rfl⟩
        · -- no
          refine run_skip ?_
          refine k12 _ _ ?_
          refine run_region ?_
          refine Ops.v (Yv.move rfl) ?_
          refine Ops.v (Yv.add rfl rfl (by omega)) ?_
          refine Ops.v (Yv.assign rfl) ?_
          refine Ops.nil ?_
          refine ⟨k + 1, _, ⟨hs14, rfl, by omega, (fun j h => by rcases Nat.lt_or_ge j k with h2 | h2; exact f2 j h2; rw [show j = k from by omega]; exact Decidable.not_not.1 h16)⟩, Sub.le ⟨rfl, rfl, lookI rfl (by omega), rfl, trivial⟩, by omega⟩
      · -- no
        refine run_exit ?_
        refine k6 _ _ ?_
        refine run_seq fun K18 k18 => ?_
        refine run_region ?_
        refine Ops.v (Yv.assign rfl) ?_
        refine Ops.nil ?_
        refine k18 _ _ ?_
        refine run_ret ?_
        refine ⟨[.bool true], ⟨_, _, rfl, rfl, rfl⟩, ?_⟩
        exact ⟨by rw [decide_eq_true (eq_to f2 (by omega) (by omega))], hs8.pick [] _ (by decide) rfl⟩

theorem edge_fun {w : World} {A : Option Addr} {c : Nat} {xs : List Int} {taps lv sh : Int} (hr : Rd w A xs.length 1 (u8s xs)) (hx : Bytes xs) : Fun Try.prog 19 [.slice A xs.length c, .int .i64 taps, .int .i64 lv, .int .i64 sh] w fun v w' => ∃ A' m' c', v = .tuple #[.slice A' m' c', .int .i64 (edgeE xs taps lv sh)] ∧ HS w [.row A' m' c' (u8s (edgeOut xs taps lv sh)) 5 1] w' := by
  refine fun_run (m := 42) (rs := [.tmp 8, .tmp 9]) Try.func19 rfl rfl rfl rfl rfl ?_
  have hs0 := HS.start w
  have hbig := hr.big
  refine run_seq fun K1 k1 => ?_
  refine run_region ?_
  refine Ops.v (Yv.assign rfl) ?_
  refine Ops.v (Yv.assign rfl) ?_
  refine Ops.nil ?_
  refine k1 _ _ ?_
  refine run_seq fun K2 k2 => ?_
  refine run_seq fun K3 k3 => ?_
  refine Run.cut (fun e_ w_ => HS w [] w_ ∧ Le [(0, .slice A xs.length c), (1, .int .i64 taps), (2, .int .i64 lv), (3, .int .i64 sh), (8, .slice none 0 0), (9, .int .i64 0), (29, .bool (decide ((((¬ (taps ∈ [4, 6, 8, 14])) ∨ ((xs.length : Int) ≠ taps)) ∨ (¬ ((0 : Int) ≤ lv ∧ lv ≤ 63))) ∨ (¬ ((0 : Int) ≤ sh ∧ sh ≤ 7)))))] e_) ?_ ?_
  · -- region 1: its ways meet again
    refine run_region ?_
    refine Ops.s (Step.lit (ps := [(0, .int .i64 4), (1, .int .i64 6), (2, .int .i64 8), (3, .int .i64 14)]) (cs := [.int .i64 4, .int .i64 6, .int .i64 8, .int .i64 14]) hs0 L34 ⟨_, Z3, rfl⟩ rfl (by decide) (by decide) (by kernel_rfl) rfl (by decide) (fun b5 w4 hs4 hb4 => ?_) True.intro (by rfl))
    replace hs4 : HS w [.row (some ⟨b5, 0, none⟩) 4 4 (i64s [4, 6, 8, 14]) 3 1] w4 := hs4
    refine Ops.v (Yv.move rfl) ?_
    refine Ops.s (Step.call rfl rfl (contains_i64 (hs4.rdRow 0 rfl)) (?_) True.intro (by rfl))
    rintro _ w7 ⟨rfl, hs7⟩
    replace hs7 := hs4.call hs7
    refine Ops.dec (fun h8 => ?_) (fun h8 => ?_)
    · -- yes
      refine Ops.v (Yv.not rfl) ?_
      refine Ops.v (Yv.move rfl) ?_
      refine Ops.vg ⟨_, rfl, rfl⟩ (Yv.move rfl) ?_
      refine Ops.vg ⟨_, rfl, rfl⟩ (Yv.len (by rw [L23]; rfl) rfl) ?_
      refine Ops.vg ⟨_, rfl, rfl⟩ (Yv.move rfl) ?_
      refine Ops.vg ⟨_, rfl, rfl⟩ (Yv.ne rfl rfl) ?_
      refine Ops.dec (fun h9 => ?_) (fun h9 => ?_)
      · -- yes
        refine Ops.v (Yv.pick0 rfl rfl) ?_
        refine Ops.v (Yv.move rfl) ?_
        refine Ops.skip ⟨_, rfl, rfl⟩ ?_
        refine Ops.skip ⟨_, rfl, rfl⟩ ?_
        refine Ops.skip ⟨_, rfl, rfl⟩ ?_
        refine Ops.v (Yv.pick1 rfl rfl) ?_
        refine Ops.v (Yv.move rfl) ?_
        refine Ops.skip ⟨_, rfl, rfl⟩ ?_
        refine Ops.skip ⟨_, rfl, rfl⟩ ?_
        refine Ops.skip ⟨_, rfl, rfl⟩ ?_
        refine Ops.v (Yv.pick1 rfl rfl) ?_
        refine Ops.nil ?_
        refine ⟨(hs7.pick [] [] (by decide) rfl), Sub.le ⟨rfl, rfl, rfl, rfl, rfl, rfl, lookB rfl (by first | (simp only [h8, h9, ne_eq, not_true_eq_false, not_false_eq_true, or_true, true_or, or_false, false_or, and_true, true_and, and_false, false_and, decide_true, decide_false, or_self, and_self, Bool.decide_eq_true]; done) | simp [h8, h9]), trivial⟩⟩
      · -- no
        refine Ops.v (Yv.pick0 rfl rfl) ?_
        refine Ops.v (Yv.move rfl) ?_
        refine Ops.vg ⟨_, rfl, rfl⟩ (Yv.move rfl) ?_
        refine Ops.s (Step.call rfl rfl (within_fun) (?_) ⟨_, rfl, rfl⟩ (by rfl))
        rintro _ _ ⟨rfl, rfl⟩
        refine Ops.dec (fun h11 => ?_) (fun h11 => ?_)
        · -- yes
          refine Ops.vg ⟨_, rfl, rfl⟩ (Yv.not rfl) ?_
          refine Ops.v (Yv.pick0 rfl rfl) ?_
          refine Ops.v (Yv.move rfl) ?_
          refine Ops.vg ⟨_, rfl, rfl⟩ (Yv.move rfl) ?_
          refine Ops.s (Step.call rfl rfl (within_fun) (?_) ⟨_, rfl, rfl⟩ (by rfl))
          rintro _ _ ⟨rfl, rfl⟩
          refine Ops.vg ⟨_, rfl, rfl⟩ (Yv.notp rfl) ?_
          refine Ops.v (Yv.pick0 rfl rfl) ?_
          refine Ops.nil ?_
          refine ⟨(hs7.pick [] [] (by decide) rfl), Sub.le ⟨rfl, rfl, rfl, rfl, rfl, rfl, lookB rfl (by first | (simp only [h8, h9, h11, ne_eq, not_true_eq_false, not_false_eq_true, or_true, true_or, or_false, false_or, and_true, true_and, and_false, false_and, decide_true, decide_false, or_self, and_self, Bool.decide_eq_true]; done) | simp [h8, h9, h11]), trivial⟩⟩
        · -- no
          refine Ops.vg ⟨_, rfl, rfl⟩ (Yv.not rfl) ?_
          refine Ops.v (Yv.pick0 rfl rfl) ?_
          refine Ops.v (Yv.move rfl) ?_
          refine Ops.skip ⟨_, rfl, rfl⟩ ?_
          refine Ops.skip ⟨_, rfl, rfl⟩ ?_
          refine Ops.skip ⟨_, rfl, rfl⟩ ?_
          refine Ops.v (Yv.pick1 rfl rfl) ?_
          refine Ops.nil ?_
          refine ⟨(hs7.pick [] [] (by decide) rfl), Sub.le ⟨rfl, rfl, rfl, rfl, rfl, rfl, lookB rfl (by first | (simp only [h8, h9, h11, ne_eq, not_true_eq_false, not_false_eq_true, or_true, true_or, or_false, false_or, and_true, true_and, and_false, false_and, decide_true, decide_false, or_self, and_self, Bool.decide_eq_true]; done) | simp [h8, h9, h11]), trivial⟩⟩
    · -- no
      refine Ops.v (Yv.not rfl) ?_
      refine Ops.v (Yv.move rfl) ?_
      refine Ops.skip ⟨_, rfl, rfl⟩ ?_
      refine Ops.skip ⟨_, rfl, rfl⟩ ?_
      refine Ops.skip ⟨_, rfl, rfl⟩ ?_
      refine Ops.skip ⟨_, rfl, rfl⟩ ?_
      refine Ops.v (Yv.pick1 rfl rfl) ?_
      refine Ops.v (Yv.move rfl) ?_
      refine Ops.skip ⟨_, rfl, rfl⟩ ?_
      refine Ops.skip ⟨_, rfl, rfl⟩ ?_
      refine Ops.skip ⟨_, rfl, rfl⟩ ?_
      refine Ops.v (Yv.pick1 rfl rfl) ?_
      refine Ops.v (Yv.move rfl) ?_
      refine Ops.skip ⟨_, rfl, rfl⟩ ?_
      refine Ops.skip ⟨_, rfl, rfl⟩ ?_
      refine Ops.skip ⟨_, rfl, rfl⟩ ?_
      refine Ops.v (Yv.pick1 rfl rfl) ?_
      refine Ops.nil ?_
      refine ⟨(hs7.pick [] [] (by decide) rfl), Sub.le ⟨rfl, rfl, rfl, rfl, rfl, rfl, lookB rfl (by first | (simp only [h8, ne_eq, not_true_eq_false, not_false_eq_true, or_true, true_or, or_false, false_or, and_true, true_and, and_false, false_and, decide_true, decide_false, or_self, and_self, Bool.decide_eq_true]; done) | simp [h8]), trivial⟩⟩
  rintro e13 w13 ⟨hs13, he13⟩
  refine k3 _ _ ?_
  refine Run.le he13 ?_
  refine run_ifp rfl (fun h14 => ?_) (fun h14 => ?_)
  · -- yes (((¬ (taps ∈ [4, 6, 8, 14])) ∨ ((xs.length : Int) ≠ taps)) ∨ (¬ ((0 : Int) ≤ lv ∧ lv ≤ 63))) ∨ (¬ ((0 : Int) ≤ sh ∧ sh ≤ 7))
    refine run_seq fun K15 k15 => ?_
    refine run_region ?_
    refine Ops.v (Yv.assign rfl) ?_
    refine Ops.v (Yv.assign rfl) ?_
    refine Ops.nil ?_
    refine k15 _ _ ?_
    refine run_ret ?_
    refine ⟨[.slice none 0 0, .int .i64 2], ⟨_, _, rfl, rfl, ⟨_, _, rfl, rfl, rfl⟩⟩, ?_⟩
    refine ⟨_, _, _, tup2 (if_pos h14).symm, ?_⟩
    exact ((hs13.pick [] [] (by decide) rfl).nilRow 5 1).to (by rw [edgeOut, if_pos h14]; rfl)
  · -- no
    have hok := edge_ok h14
    refine run_skip ?_
    refine k2 _ _ ?_
    refine run_seq fun K16 k16 => ?_
    refine run_seq fun K17 k17 => ?_
    refine run_region ?_
    refine Ops.v (Yv.move rfl) ?_
    refine Ops.v (Yv.eq rfl rfl) ?_
    refine Ops.nil ?_
    refine k17 _ _ ?_
    refine run_ifp rfl (fun h18 => ?_) (fun h18 => ?_)
    · -- yes lv = (0 : Int)
      refine run_seq fun K19 k19 => ?_
      refine run_region ?_
      refine Ops.v (Yv.move rfl) ?_
      refine Ops.s (Step.call rfl rfl (clone_fun (hs13.rd hr) (by omega)) (?_) True.intro (by rfl))
      rintro _ w23 ⟨Ad20, c21, rfl, hs23⟩
      replace hs23 := hs13.call hs23
      refine Ops.v (Yv.assign rfl) ?_
      refine Ops.v (Yv.assign rfl) ?_
      refine Ops.nil ?_
      refine k19 _ _ ?_
      refine run_ret ?_
      refine ⟨[.slice Ad20 xs.length c21, .int .i64 0], ⟨_, _, rfl, rfl, ⟨_, _, rfl, rfl, rfl⟩⟩, ?_⟩
      refine ⟨_, _, _, tup2 (if_neg h14).symm, ?_⟩
      have hz := hs23.pick [0] [.row Ad20 xs.length c21 (u8s xs) 5 1] (by decide) rfl
      exact hz.to (by rw [edgeOut, if_neg h14, if_pos h18])
    · -- no
      refine run_skip ?_
      refine k16 _ _ ?_
      refine run_seq fun K24 k24 => ?_
      refine run_region ?_
      refine Ops.v (Yv.move rfl) ?_
      refine Ops.v (Yv.move rfl) ?_
      refine Ops.v (Yv.quo rfl rfl (by omega) (by omega) (by omega)) ?_
      refine Ops.v (Yv.buildS (cs := #[.slice A xs.length c, .int .i64 (taps / 2)]) T115 rfl rfl) ?_
      refine Ops.v (Yv.move rfl) ?_
      refine Ops.v (Yv.move rfl) ?_
      refine Ops.s (Step.call rfl rfl (bounds_fun (by omega) (by omega)) (?_) True.intro (by rfl))
      rintro _ w25 ⟨rfl, hs25⟩
      replace hs25 := hs13.call hs25
      refine Ops.s (Step.call rfl rfl (filter_fun2 (hs25.rd hr) hx (by omega) (by omega)) (?_) True.intro (by rfl))
      rintro _ w29 ⟨Ad26, c27, rfl, hs29⟩
      replace hs29 := hs25.call hs29
      refine Ops.v (Yv.assign rfl) ?_
      refine Ops.v (Yv.assign rfl) ?_
      refine Ops.nil ?_
      refine k24 _ _ ?_
      refine run_ret ?_
      refine ⟨[.slice Ad26 xs.length c27, .int .i64 0], ⟨_, _, rfl, rfl, ⟨_, _, rfl, rfl, rfl⟩⟩, ?_⟩
      refine ⟨_, _, _, tup2 (if_neg h14).symm, ?_⟩
      have hz := hs29.pick [0] [.row Ad26 xs.length c27 (u8s (filterF xs (taps / 2) (limitF lv sh) (edgeF lv sh) (thrF lv))) 5 1] (by decide) rfl
      exact hz.to (by rw [edgeOut, if_neg h14, if_neg h18])

theorem may_fun {w : World} {W H : Int} {A : Option Addr} {m c : Nat} {mW mH : Int} {At Ai Aq : Option Addr} {nt ni nq ct ci cq : Nat} {tx : List Int} (ht : Rd w At nt 1 (u8s tx)) (htx : Bytes tx) : Fun Try.prog 52 [.agg #[.int .i64 W, .int .i64 H, .slice A m c], .agg #[.int .i64 mW, .int .i64 mH, .slice At nt ct, .slice Ai ni ci, .slice Aq nq cq]] w fun v w' => v = .bool (decide (mayP W H m mW mH tx nt ni nq)) ∧ HS w [] w' := by
  refine fun_run (m := 70) (rs := [.tmp 4]) Try.func52 rfl rfl rfl rfl rfl ?_
  have hs0 := HS.start w
  have hck := checkF_iff W H m
  refine run_seq fun K1 k1 => ?_
  refine run_region ?_
  refine Ops.s (Step.box (cs := [.int .i64 W, .int .i64 H, .slice A m c]) hs0 rfl rfl (fun b2 w3 hs3 hb3 => ?_) True.intro (by rfl))
  refine Ops.s (Step.box (cs := [.int .i64 mW, .int .i64 mH, .slice At nt ct, .slice Ai ni ci, .slice Aq nq cq]) hs3 rfl rfl (fun b5 w6 hs6 hb6 => ?_) True.intro (by rfl))
  refine Ops.v (Yv.assign rfl) ?_
  refine Ops.nil ?_
  refine k1 _ _ ?_
  refine run_seq fun K8 k8 => ?_
  refine run_seq fun K9 k9 => ?_
  refine Run.cut (fun e_ w_ => HS w [.blk b5 [.int .i64 mW, .int .i64 mH, .slice At nt ct, .slice Ai ni ci, .slice Aq nq cq] 37, .blk b2 [.int .i64 W, .int .i64 H, .slice A m c] 28] w_ ∧ Le [(0, .agg #[.int .i64 W, .int .i64 H, .slice A m c]), (1, .agg #[.int .i64 mW, .int .i64 mH, .slice At nt ct, .slice Ai ni ci, .slice Aq nq cq]), (2, .pointer (some ⟨b2, 0, none⟩)), (3, .pointer (some ⟨b5, 0, none⟩)), (4, .bool false), (37, .bool (decide ((((((checkF W H m) ≠ (0 : Int)) ∨ ((W % 4) ≠ (0 : Int))) ∨ ((H % 4) ≠ (0 : Int))) ∨ (mW ≠ (W / 4))) ∨ (mH ≠ (H / 4)))))] e_) ?_ ?_
  · -- region 1: its ways meet again
    refine run_region ?_
    refine Ops.v (Yv.loadn (cs := [.int .i64 W, .int .i64 H, .slice A m c]) A28 S28 rfl (now (hs6.cells 1 rfl 0 3))) ?_
    refine Ops.s (Step.call rfl rfl (check_fun) (?_) True.intro (by rfl))
    rintro _ w10 ⟨rfl, hs10⟩
    replace hs10 := hs6.call hs10
    refine Ops.v (Yv.ne rfl rfl) ?_
    refine Ops.dec (fun h11 => ?_) (fun h11 => ?_)
    · -- yes
      refine Ops.v (Yv.move rfl) ?_
      refine Ops.skip ⟨_, rfl, rfl⟩ ?_
      refine Ops.skip ⟨_, rfl, rfl⟩ ?_
      refine Ops.skip ⟨_, rfl, rfl⟩ ?_
      refine Ops.skip ⟨_, rfl, rfl⟩ ?_
      refine Ops.v (Yv.pick1 rfl rfl) ?_
      refine Ops.v (Yv.move rfl) ?_
      refine Ops.skip ⟨_, rfl, rfl⟩ ?_
      refine Ops.skip ⟨_, rfl, rfl⟩ ?_
      refine Ops.skip ⟨_, rfl, rfl⟩ ?_
      refine Ops.skip ⟨_, rfl, rfl⟩ ?_
      refine Ops.v (Yv.pick1 rfl rfl) ?_
      refine Ops.v (Yv.move rfl) ?_
      refine Ops.skip ⟨_, rfl, rfl⟩ ?_
      refine Ops.skip ⟨_, rfl, rfl⟩ ?_
      refine Ops.skip ⟨_, rfl, rfl⟩ ?_
      refine Ops.skip ⟨_, rfl, rfl⟩ ?_
      refine Ops.skip ⟨_, rfl, rfl⟩ ?_
      refine Ops.skip ⟨_, rfl, rfl⟩ ?_
      refine Ops.v (Yv.pick1 rfl rfl) ?_
      refine Ops.v (Yv.move rfl) ?_
      refine Ops.skip ⟨_, rfl, rfl⟩ ?_
      refine Ops.skip ⟨_, rfl, rfl⟩ ?_
      refine Ops.skip ⟨_, rfl, rfl⟩ ?_
      refine Ops.skip ⟨_, rfl, rfl⟩ ?_
      refine Ops.skip ⟨_, rfl, rfl⟩ ?_
      refine Ops.skip ⟨_, rfl, rfl⟩ ?_
      refine Ops.v (Yv.pick1 rfl rfl) ?_
      refine Ops.nil ?_
      refine ⟨hs10, Sub.le ⟨rfl, rfl, rfl, rfl, rfl, lookB rfl (by first | (simp only [h11, ne_eq, not_true_eq_false, not_false_eq_true, or_true, true_or, or_false, false_or, and_true, true_and, and_false, false_and, decide_true, decide_false, or_self, and_self, Bool.decide_eq_true]; done) | simp [h11]), trivial⟩⟩
    · -- no
      refine Ops.v (Yv.move rfl) ?_
      refine Ops.vg ⟨_, rfl, rfl⟩ (Yv.fld F28_0 rfl) ?_
      refine Ops.vg ⟨_, rfl, rfl⟩ (Yv.load A3 rfl (now (hs10.cell 1 rfl 0 rfl))) ?_
      refine Ops.vg ⟨_, rfl, rfl⟩ (Yv.rem rfl rfl (by omega) (by omega)) ?_
      refine Ops.vg ⟨_, rfl, rfl⟩ (Yv.ne rfl rfl) ?_
      refine Ops.dec (fun h12 => ?_) (fun h12 => ?_)
      · -- yes
        refine Ops.v (Yv.pick0 rfl rfl) ?_
        refine Ops.v (Yv.move rfl) ?_
        refine Ops.skip ⟨_, rfl, rfl⟩ ?_
        refine Ops.skip ⟨_, rfl, rfl⟩ ?_
        refine Ops.skip ⟨_, rfl, rfl⟩ ?_
        refine Ops.skip ⟨_, rfl, rfl⟩ ?_
        refine Ops.v (Yv.pick1 rfl rfl) ?_
        refine Ops.v (Yv.move rfl) ?_
        refine Ops.skip ⟨_, rfl, rfl⟩ ?_
        refine Ops.skip ⟨_, rfl, rfl⟩ ?_
        refine Ops.skip ⟨_, rfl, rfl⟩ ?_
        refine Ops.skip ⟨_, rfl, rfl⟩ ?_
        refine Ops.skip ⟨_, rfl, rfl⟩ ?_
        refine Ops.skip ⟨_, rfl, rfl⟩ ?_
        refine Ops.v (Yv.pick1 rfl rfl) ?_
        refine Ops.v (Yv.move rfl) ?_
        refine Ops.skip ⟨_, rfl, rfl⟩ ?_
        refine Ops.skip ⟨_, rfl, rfl⟩ ?_
        refine Ops.skip ⟨_, rfl, rfl⟩ ?_
        refine Ops.skip ⟨_, rfl, rfl⟩ ?_
        refine Ops.skip ⟨_, rfl, rfl⟩ ?_
        refine Ops.skip ⟨_, rfl, rfl⟩ ?_
        refine Ops.v (Yv.pick1 rfl rfl) ?_
        refine Ops.nil ?_
        refine ⟨hs10, Sub.le ⟨rfl, rfl, rfl, rfl, rfl, lookB rfl (by first | (simp only [h11, h12, ne_eq, not_true_eq_false, not_false_eq_true, or_true, true_or, or_false, false_or, and_true, true_and, and_false, false_and, decide_true, decide_false, or_self, and_self, Bool.decide_eq_true]; done) | simp [h11, h12]), trivial⟩⟩
      · -- no
        refine Ops.v (Yv.pick0 rfl rfl) ?_
        refine Ops.v (Yv.move rfl) ?_
        refine Ops.vg ⟨_, rfl, rfl⟩ (Yv.fld F28_1 rfl) ?_
        refine Ops.vg ⟨_, rfl, rfl⟩ (Yv.load A3 rfl (now (hs10.cell 1 rfl 1 rfl))) ?_
        refine Ops.vg ⟨_, rfl, rfl⟩ (Yv.rem rfl rfl (by omega) (by omega)) ?_
        refine Ops.vg ⟨_, rfl, rfl⟩ (Yv.ne rfl rfl) ?_
        refine Ops.dec (fun h13 => ?_) (fun h13 => ?_)
        · -- yes
          refine Ops.v (Yv.pick0 rfl rfl) ?_
          refine Ops.v (Yv.move rfl) ?_
          refine Ops.skip ⟨_, rfl, rfl⟩ ?_
          refine Ops.skip ⟨_, rfl, rfl⟩ ?_
          refine Ops.skip ⟨_, rfl, rfl⟩ ?_
          refine Ops.skip ⟨_, rfl, rfl⟩ ?_
          refine Ops.skip ⟨_, rfl, rfl⟩ ?_
          refine Ops.skip ⟨_, rfl, rfl⟩ ?_
          refine Ops.v (Yv.pick1 rfl rfl) ?_
          refine Ops.v (Yv.move rfl) ?_
          refine Ops.skip ⟨_, rfl, rfl⟩ ?_
          refine Ops.skip ⟨_, rfl, rfl⟩ ?_
          refine Ops.skip ⟨_, rfl, rfl⟩ ?_
          refine Ops.skip ⟨_, rfl, rfl⟩ ?_
          refine Ops.skip ⟨_, rfl, rfl⟩ ?_
          refine Ops.skip ⟨_, rfl, rfl⟩ ?_
          refine Ops.v (Yv.pick1 rfl rfl) ?_
          refine Ops.nil ?_
          refine ⟨hs10, Sub.le ⟨rfl, rfl, rfl, rfl, rfl, lookB rfl (by first | (simp only [h11, h12, h13, ne_eq, not_true_eq_false, not_false_eq_true, or_true, true_or, or_false, false_or, and_true, true_and, and_false, false_and, decide_true, decide_false, or_self, and_self, Bool.decide_eq_true]; done) | simp [h11, h12, h13]), trivial⟩⟩
        · -- no
          refine Ops.v (Yv.pick0 rfl rfl) ?_
          refine Ops.v (Yv.move rfl) ?_
          refine Ops.vg ⟨_, rfl, rfl⟩ (Yv.fld F37_0 rfl) ?_
          refine Ops.vg ⟨_, rfl, rfl⟩ (Yv.load A3 rfl (now (hs10.cell 0 rfl 0 rfl))) ?_
          refine Ops.vg ⟨_, rfl, rfl⟩ (Yv.fld F28_0 rfl) ?_
          refine Ops.vg ⟨_, rfl, rfl⟩ (Yv.load A3 rfl (now (hs10.cell 1 rfl 0 rfl))) ?_
          refine Ops.vg ⟨_, rfl, rfl⟩ (Yv.quo rfl rfl (by omega) (by omega) (by omega)) ?_
          refine Ops.vg ⟨_, rfl, rfl⟩ (Yv.ne rfl rfl) ?_
          refine Ops.dec (fun h14 => ?_) (fun h14 => ?_)
          · -- yes
            refine Ops.v (Yv.pick0 rfl rfl) ?_
            refine Ops.v (Yv.move rfl) ?_
            refine Ops.skip ⟨_, rfl, rfl⟩ ?_
            refine Ops.skip ⟨_, rfl, rfl⟩ ?_
            refine Ops.skip ⟨_, rfl, rfl⟩ ?_
            refine Ops.skip ⟨_, rfl, rfl⟩ ?_
            refine Ops.skip ⟨_, rfl, rfl⟩ ?_
            refine Ops.skip ⟨_, rfl, rfl⟩ ?_
            refine Ops.v (Yv.pick1 rfl rfl) ?_
            refine Ops.nil ?_
            refine ⟨hs10, Sub.le ⟨rfl, rfl, rfl, rfl, rfl, lookB rfl (by first | (simp only [h11, h12, h13, h14, ne_eq, not_true_eq_false, not_false_eq_true, or_true, true_or, or_false, false_or, and_true, true_and, and_false, false_and, decide_true, decide_false, or_self, and_self, Bool.decide_eq_true]; done) | simp [h11, h12, h13, h14]), trivial⟩⟩
          · -- no
            refine Ops.v (Yv.pick0 rfl rfl) ?_
            refine Ops.v (Yv.move rfl) ?_
            refine Ops.vg ⟨_, rfl, rfl⟩ (Yv.fld F37_1 rfl) ?_
            refine Ops.vg ⟨_, rfl, rfl⟩ (Yv.load A3 rfl (now (hs10.cell 0 rfl 1 rfl))) ?_
            refine Ops.vg ⟨_, rfl, rfl⟩ (Yv.fld F28_1 rfl) ?_
            refine Ops.vg ⟨_, rfl, rfl⟩ (Yv.load A3 rfl (now (hs10.cell 1 rfl 1 rfl))) ?_
            refine Ops.vg ⟨_, rfl, rfl⟩ (Yv.quo rfl rfl (by omega) (by omega) (by omega)) ?_
            refine Ops.vg ⟨_, rfl, rfl⟩ (Yv.ne rfl rfl) ?_
            refine Ops.v (Yv.pick0 rfl rfl) ?_
            refine Ops.nil ?_
            refine ⟨hs10, Sub.le ⟨rfl, rfl, rfl, rfl, rfl, lookB rfl (by first | (simp only [h11, h12, h13, h14, ne_eq, not_true_eq_false, not_false_eq_true, or_true, true_or, or_false, false_or, and_true, true_and, and_false, false_and, decide_true, decide_false, or_self, and_self, Bool.decide_eq_true]; done) | simp [h11, h12, h13, h14]), trivial⟩⟩
  rintro e15 w15 ⟨hs15, he15⟩
  refine k9 _ _ ?_
  refine Run.le he15 ?_
  refine run_ifp rfl (fun h16 => ?_) (fun h16 => ?_)
  · -- yes (((((checkF W H m) ≠ (0 : Int)) ∨ ((W % 4) ≠ (0 : Int))) ∨ ((H % 4) ≠ (0 : Int))) ∨ (mW ≠ (W / 4))) ∨ (mH ≠ (H / 4))
    refine run_seq fun K17 k17 => ?_
    refine run_region ?_
    refine Ops.v (Yv.assign rfl) ?_
    refine Ops.nil ?_
    refine k17 _ _ ?_
    refine run_ret ?_
    refine ⟨[.bool false], ⟨_, _, rfl, rfl, rfl⟩, ?_⟩
    exact ⟨by rw [decide_eq_false (mayP.bad h16)], hs15.pick [] _ (by decide) rfl⟩
  · -- no
    refine run_skip ?_
    refine k8 _ _ ?_
    refine run_seq fun K18 k18 => ?_
    refine run_region ?_
    refine Ops.v (Yv.fld F37_0 rfl) ?_
    refine Ops.v (Yv.load A3 rfl (now (hs15.cell 0 rfl 0 rfl))) ?_
    refine Ops.v (Yv.fld F37_1 rfl) ?_
    refine Ops.v (Yv.load A3 rfl (now (hs15.cell 0 rfl 1 rfl))) ?_
    have hm := mul_bd (a := mW) (b := mH) (x := 512) (y := 512) (by omega) (by omega) (by omega) (by omega)
    refine Ops.v (Yv.mul rfl rfl (by omega)) ?_
    refine Ops.v (Yv.assign rfl) ?_
    refine Ops.nil ?_
    refine k18 _ _ ?_
    refine run_seq fun K19 k19 => ?_
    refine run_region ?_
    refine Ops.s (Step.lit (ps := [(0, .int .u8 4), (1, .int .u8 8), (2, .int .u8 16), (3, .int .u8 32), (4, .int .u8 64)]) (cs := [.int .u8 4, .int .u8 8, .int .u8 16, .int .u8 32, .int .u8 64]) hs15 L23 ⟨_, Z5, rfl⟩ rfl (by decide) (by decide) (by kernel_rfl) rfl (by decide) (fun b21 w20 hs20 hb20 => ?_) True.intro (by rfl))
    replace hs20 : HS w [.row (some ⟨b21, 0, none⟩) 5 5 (u8s [4, 8, 16, 32, 64]) 5 1, .blk b5 [.int .i64 mW, .int .i64 mH, .slice At nt ct, .slice Ai ni ci, .slice Aq nq cq] 37, .blk b2 [.int .i64 W, .int .i64 H, .slice A m c] 28] w20 := hs20
    have by23 : Bytes [4, 8, 16, 32, 64] := by intro x hx_; simp only [List.mem_cons, List.not_mem_nil, or_false] at hx_; omega
    refine Ops.s (Step.alloc (cs := [.slice none 0 0]) hs20 Z23 rfl (fun b24 w25 hs25 hb25 => ?_) True.intro (by rfl))
    refine Ops.s (Step.store (vs := [.slice (some ⟨b21, 0, none⟩) 5 5]) 0 hs25 rfl rfl rfl rfl S23 (Nat.le_of_ble_eq_true rfl) rfl (fun w27 hs27 => ?_) True.intro)
    replace hs27 : HS _ [.blk _ [_] _, .row _ _ _ _ _ _, .blk _ [_, _, _, _, _] _, .blk _ [_, _, _] _] _ := hs27
    refine Ops.nil ?_
    refine k19 _ _ ?_
    refine run_seq fun K28 k28 => ?_
    refine Run.cut (fun e_ w_ => HS w [.blk b24 [.slice (some ⟨b21, 0, none⟩) 5 5] 23, .row (some ⟨b21, 0, none⟩) 5 5 (u8s [4, 8, 16, 32, 64]) 5 1, .blk b5 [.int .i64 mW, .int .i64 mH, .slice At nt ct, .slice Ai ni ci, .slice Aq nq cq] 37, .blk b2 [.int .i64 W, .int .i64 H, .slice A m c] 28] w_ ∧ Le [(0, .agg #[.int .i64 W, .int .i64 H, .slice A m c]), (1, .agg #[.int .i64 mW, .int .i64 mH, .slice At nt ct, .slice Ai ni ci, .slice Aq nq cq]), (2, .pointer (some ⟨b2, 0, none⟩)), (3, .pointer (some ⟨b5, 0, none⟩)), (4, .bool (decide (((((nt : Int) = (mW * mH)) ∧ ((ni : Int) = (mW * mH))) ∧ ((nq : Int) = (mW * mH))) ∧ ((!(List.any tx (fun x_ => decide (¬ x_ ∈ ([4, 8, 16, 32, 64] : List Int))))) = true)))), (5, .int .i64 (mW * mH)), (6, .pointer (some ⟨b24, 0, none⟩)), (37, .bool (decide ((((((checkF W H m) ≠ (0 : Int)) ∨ ((W % 4) ≠ (0 : Int))) ∨ ((H % 4) ≠ (0 : Int))) ∨ (mW ≠ (W / 4))) ∨ (mH ≠ (H / 4)))))] e_) ?_ ?_
    · -- region 5: its ways meet again
      refine run_region ?_
      refine Ops.v (Yv.fld F37_2 rfl) ?_
      refine Ops.v (Yv.load A23 rfl (now (hs27.cell 2 rfl 2 rfl))) ?_
      refine Ops.v (Yv.len (by rw [L23]; rfl) rfl) ?_
      refine Ops.v (Yv.move rfl) ?_
      refine Ops.v (Yv.eq rfl rfl) ?_
      refine Ops.dec (fun h29 => ?_) (fun h29 => ?_)
      · -- yes
        refine Ops.v (Yv.move rfl) ?_
        refine Ops.vg ⟨_, rfl, rfl⟩ (Yv.fld F37_3 rfl) ?_
        refine Ops.vg ⟨_, rfl, rfl⟩ (Yv.load A34 rfl (now (hs27.cell 2 rfl 3 rfl))) ?_
        refine Ops.vg ⟨_, rfl, rfl⟩ (Yv.len (by rw [L34]; rfl) rfl) ?_
        refine Ops.vg ⟨_, rfl, rfl⟩ (Yv.move rfl) ?_
        refine Ops.vg ⟨_, rfl, rfl⟩ (Yv.eq rfl rfl) ?_
        refine Ops.dec (fun h30 => ?_) (fun h30 => ?_)
        · -- yes
          refine Ops.v (Yv.pick1 rfl rfl) ?_
          refine Ops.v (Yv.move rfl) ?_
          refine Ops.vg ⟨_, rfl, rfl⟩ (Yv.fld F37_4 rfl) ?_
          refine Ops.vg ⟨_, rfl, rfl⟩ (Yv.load A35 rfl (now (hs27.cell 2 rfl 4 rfl))) ?_
          refine Ops.vg ⟨_, rfl, rfl⟩ (Yv.len (by rw [L35]; rfl) rfl) ?_
          refine Ops.vg ⟨_, rfl, rfl⟩ (Yv.move rfl) ?_
          refine Ops.vg ⟨_, rfl, rfl⟩ (Yv.eq rfl rfl) ?_
          refine Ops.dec (fun h31 => ?_) (fun h31 => ?_)
          · -- yes
            refine Ops.v (Yv.pick1 rfl rfl) ?_
            refine Ops.v (Yv.move rfl) ?_
            refine Ops.vg ⟨_, rfl, rfl⟩ (Yv.fld F37_2 rfl) ?_
            refine Ops.vg ⟨_, rfl, rfl⟩ (Yv.load A23 rfl (now (hs27.cell 2 rfl 2 rfl))) ?_
            refine Ops.vg ⟨_, rfl, rfl⟩ (Yv.func (first := []) (cap := _) rfl rfl) ?_
            refine Ops.s (Step.call rfl rfl (containsFunc_u8 (p := fun x_ => decide (¬ x_ ∈ ([4, 8, 16, 32, 64] : List Int))) (hs27.rd ht) (fun w1 x_ _ hw_ => may1_fun ((hs27.rdBlk 0 rfl (Nat.le_of_ble_eq_true rfl)).below hw_.below) ((hs27.rdRow 1 rfl).below hw_.below))) (?_) ⟨_, rfl, rfl⟩ (by rfl))
            rintro _ w32 ⟨rfl, hs32⟩
            replace hs32 := hs27.call hs32
            refine Ops.vg ⟨_, rfl, rfl⟩ (Yv.not rfl) ?_
            refine Ops.v (Yv.pick1 rfl rfl) ?_
            refine Ops.v (Yv.assign rfl) ?_
            refine Ops.nil ?_
            refine ⟨hs32, Sub.le ⟨rfl, rfl, rfl, rfl, lookB rfl (by first | (simp only [h29, h30, h31, ne_eq, not_true_eq_false, not_false_eq_true, or_true, true_or, or_false, false_or, and_true, true_and, and_false, false_and, decide_true, decide_false, or_self, and_self, Bool.decide_eq_true]; done) | simp [h29, h30, h31]), rfl, rfl, rfl, trivial⟩⟩
          · -- no
            refine Ops.v (Yv.pick1 rfl rfl) ?_
            refine Ops.v (Yv.move rfl) ?_
            refine Ops.skip ⟨_, rfl, rfl⟩ ?_
            refine Ops.skip ⟨_, rfl, rfl⟩ ?_
            refine Ops.skip ⟨_, rfl, rfl⟩ ?_
            refine Ops.skip ⟨_, rfl, rfl⟩ ?_
            refine Ops.skip ⟨_, rfl, rfl⟩ ?_
            refine Ops.v (Yv.pick0 rfl rfl) ?_
            refine Ops.v (Yv.assign rfl) ?_
            refine Ops.nil ?_
            refine ⟨hs27, Sub.le ⟨rfl, rfl, rfl, rfl, lookB rfl (by first | (simp only [h29, h30, h31, ne_eq, not_true_eq_false, not_false_eq_true, or_true, true_or, or_false, false_or, and_true, true_and, and_false, false_and, decide_true, decide_false, or_self, and_self, Bool.decide_eq_true]; done) | simp [h29, h30, h31]), rfl, rfl, rfl, trivial⟩⟩
        · -- no
          refine Ops.v (Yv.pick1 rfl rfl) ?_
          refine Ops.v (Yv.move rfl) ?_
          refine Ops.skip ⟨_, rfl, rfl⟩ ?_
          refine Ops.skip ⟨_, rfl, rfl⟩ ?_
          refine Ops.skip ⟨_, rfl, rfl⟩ ?_
          refine Ops.skip ⟨_, rfl, rfl⟩ ?_
          refine Ops.skip ⟨_, rfl, rfl⟩ ?_
          refine Ops.v (Yv.pick0 rfl rfl) ?_
          refine Ops.v (Yv.move rfl) ?_
          refine Ops.skip ⟨_, rfl, rfl⟩ ?_
          refine Ops.skip ⟨_, rfl, rfl⟩ ?_
          refine Ops.skip ⟨_, rfl, rfl⟩ ?_
          refine Ops.skip ⟨_, rfl, rfl⟩ ?_
          refine Ops.skip ⟨_, rfl, rfl⟩ ?_
          refine Ops.v (Yv.pick0 rfl rfl) ?_
          refine Ops.v (Yv.assign rfl) ?_
          refine Ops.nil ?_
          refine ⟨hs27, Sub.le ⟨rfl, rfl, rfl, rfl, lookB rfl (by first | (simp only [h29, h30, ne_eq, not_true_eq_false, not_false_eq_true, or_true, true_or, or_false, false_or, and_true, true_and, and_false, false_and, decide_true, decide_false, or_self, and_self, Bool.decide_eq_true]; done) | simp [h29, h30]), rfl, rfl, rfl, trivial⟩⟩
      · -- no
        refine Ops.v (Yv.move rfl) ?_
        refine Ops.skip ⟨_, rfl, rfl⟩ ?_
        refine Ops.skip ⟨_, rfl, rfl⟩ ?_
        refine Ops.skip ⟨_, rfl, rfl⟩ ?_
        refine Ops.skip ⟨_, rfl, rfl⟩ ?_
        refine Ops.skip ⟨_, rfl, rfl⟩ ?_
        refine Ops.v (Yv.pick0 rfl rfl) ?_
        refine Ops.v (Yv.move rfl) ?_
        refine Ops.skip ⟨_, rfl, rfl⟩ ?_
        refine Ops.skip ⟨_, rfl, rfl⟩ ?_
        refine Ops.skip ⟨_, rfl, rfl⟩ ?_
        refine Ops.skip ⟨_, rfl, rfl⟩ ?_
        refine Ops.skip ⟨_, rfl, rfl⟩ ?_
        refine Ops.v (Yv.pick0 rfl rfl) ?_
        refine Ops.v (Yv.move rfl) ?_
        refine Ops.skip ⟨_, rfl, rfl⟩ ?_
        refine Ops.skip ⟨_, rfl, rfl⟩ ?_
        refine Ops.skip ⟨_, rfl, rfl⟩ ?_
        refine Ops.skip ⟨_, rfl, rfl⟩ ?_
        refine Ops.skip ⟨_, rfl, rfl⟩ ?_
        refine Ops.v (Yv.pick0 rfl rfl) ?_
        refine Ops.v (Yv.assign rfl) ?_
        refine Ops.nil ?_
        refine ⟨hs27, Sub.le ⟨rfl, rfl, rfl, rfl, lookB rfl (by first | (simp only [h29, ne_eq, not_true_eq_false, not_false_eq_true, or_true, true_or, or_false, false_or, and_true, true_and, and_false, false_and, decide_true, decide_false, or_self, and_self, Bool.decide_eq_true]; done) | simp [h29]), rfl, rfl, rfl, trivial⟩⟩
    rintro e33 w33 ⟨hs33, he33⟩
    refine k28 _ _ ?_
    refine Run.le he33 ?_
    refine run_ret ?_
    refine ⟨[.bool (decide (((((nt : Int) = (mW * mH)) ∧ ((ni : Int) = (mW * mH))) ∧ ((nq : Int) = (mW * mH))) ∧ ((!(List.any tx (fun x_ => decide (¬ x_ ∈ ([4, 8, 16, 32, 64] : List Int))))) = true)))], ⟨_, _, rfl, rfl, rfl⟩, ?_⟩
    exact ⟨congrArg Value.bool (decide_eq_decide.2 (and_iff_right h16).symm), hs33.pick [] _ (by decide) rfl⟩

end Go.Proofs.Zed
