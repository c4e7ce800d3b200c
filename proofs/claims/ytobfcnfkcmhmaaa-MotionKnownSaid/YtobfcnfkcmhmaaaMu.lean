/- The walks of subpel (chapter 14): sums, and the samples that are asked for. -/
import Derived.Test.YtobfcnfkcmhmaaaMt
set_option linter.unusedVariables false
set_option linter.unusedSimpArgs false
namespace Go.Proofs.Zed
open Go Go.RowKit Tf
attribute [local irreducible] Try.prog

theorem sum_fun {w : World} {T : List Int} {n : Int} : Fun Try.prog 53 [.agg #[.int .i64 (gi T 0), .int .i64 (gi T 1), .int .i64 (gi T 2), .int .i64 (gi T 3), .int .i64 (gi T 4), .int .i64 (gi T 5), .int .i64 (gi T 6), .int .i64 (gi T 7)], .int .i64 n] w fun v w' => ∃ bn bt, v = .func (.func 67) #[] #[.pointer (some ⟨bn, 0, none⟩), .pointer (some ⟨bt, 0, none⟩)] ∧ HS w [.blk bn [.int .i64 n] 3, .blk bt [.int .i64 (gi T 0), .int .i64 (gi T 1), .int .i64 (gi T 2), .int .i64 (gi T 3), .int .i64 (gi T 4), .int .i64 (gi T 5), .int .i64 (gi T 6), .int .i64 (gi T 7)] 81] w' := by
  refine fun_run (m := 6) (rs := [.tmp 4]) Try.func53 rfl rfl rfl rfl rfl ?_
  have hs0 := HS.start w
  refine run_seq fun K1 k1 => ?_
  refine run_region ?_
  refine Ops.s (Step.box (cs := [.int .i64 (gi T 0), .int .i64 (gi T 1), .int .i64 (gi T 2), .int .i64 (gi T 3), .int .i64 (gi T 4), .int .i64 (gi T 5), .int .i64 (gi T 6), .int .i64 (gi T 7)]) hs0 rfl rfl (fun b2 w3 hs3 hb3 => ?_) True.intro (by rfl))
  refine Ops.s (Step.box (cs := [.int .i64 n]) hs3 rfl rfl (fun b5 w6 hs6 hb6 => ?_) True.intro (by rfl))
  refine Ops.v (Yv.assign rfl) ?_
  refine Ops.nil ?_
  refine k1 _ _ ?_
  refine run_seq fun K8 k8 => ?_
  refine run_region ?_
  refine Ops.v (Yv.func (first := []) (cap := _) rfl rfl) ?_
  refine Ops.v (Yv.assign rfl) ?_
  refine Ops.nil ?_
  refine k8 _ _ ?_
  refine run_ret ?_
  refine ⟨[.func (.func 67) #[] #[.pointer (some ⟨b5, 0, none⟩), .pointer (some ⟨b2, 0, none⟩)]], ⟨_, _, rfl, rfl, rfl⟩, ?_⟩
  have hz := hs6.pick [0, 1] [.blk b5 [.int .i64 n] 3, .blk b2 [.int .i64 (gi T 0), .int .i64 (gi T 1), .int .i64 (gi T 2), .int .i64 (gi T 3), .int .i64 (gi T 4), .int .i64 (gi T 5), .int .i64 (gi T 6), .int .i64 (gi T 7)] 81] (by decide) rfl
  exact ⟨_, _, rfl, hz⟩

theorem sum1_fun {w : World} {f : FuncId} {cap : List Value} {bn bt : Nat} {nn : Int} {T : List Int} {F : Int → Int} (hn : Rd w (some ⟨bn, 0, none⟩) 1 1 [.int .i64 nn]) (ht : Rd w (some ⟨bt, 0, none⟩) 8 1 [.int .i64 (gi T 0), .int .i64 (gi T 1), .int .i64 (gi T 2), .int .i64 (gi T 3), .int .i64 (gi T 4), .int .i64 (gi T 5), .int .i64 (gi T 6), .int .i64 (gi T 7)]) (hnn : nn = 3 ∨ nn = 11) (hT : ∀ k, -128 ≤ gi T k ∧ gi T k ≤ 128) (hF : ∀ k : Int, 0 ≤ k → k < 8 → -10000000 ≤ F k ∧ F k ≤ 10000000) (hf : ∀ w1 k, 0 ≤ k → k < 8 → HS w [] w1 → Fun Try.prog f (.int .i64 k :: cap) w1 fun v w2 => v = .int .i64 (F k) ∧ HS w1 [] w2) : Fun Try.prog 67 [.func (.func f) #[] cap.toArray, .pointer (some ⟨bn, 0, none⟩), .pointer (some ⟨bt, 0, none⟩)] w fun v w' => v = .int .i64 (tapSum T (1 * 2 ^ (nn - 1).toNat) F 8 / 2 ^ nn.toNat) ∧ HS w [] w' := by
  refine fun_run (m := 29) (rs := [.tmp 4]) Try.func67 rfl rfl rfl rfl rfl ?_
  have hs0 := HS.start w
  have hp1 : (2 : Int) ^ (nn - 1).toNat = 4 ∨ (2 : Int) ^ (nn - 1).toNat = 1024 := by rcases hnn with rfl | rfl <;> decide
  refine run_seq fun K1 k1 => ?_
  refine run_region ?_
  refine Ops.v (Yv.assign rfl) ?_
  refine Ops.nil ?_
  refine k1 _ _ ?_
  refine run_seq fun K2 k2 => ?_
  refine run_region ?_
  refine Ops.v (Yv.load A3 rfl (now ((hs0.rd hn).at_ (j := 0) rfl))) ?_
  refine Ops.v (Yv.sub rfl rfl (by omega)) ?_
  refine Ops.v (Yv.shl rfl rfl ((nn - 1).toNat) (by first | rfl | omega) (by omega) (by omega)) ?_
  refine Ops.v (Yv.assign rfl) ?_
  refine Ops.nil ?_
  refine k2 _ _ ?_
  refine run_seq fun K3 k3 => ?_
  refine run_seq fun K4 k4 => ?_
  refine run_region ?_
  refine Ops.v (Yv.loadn (cs := [.int .i64 (gi T 0), .int .i64 (gi T 1), .int .i64 (gi T 2), .int .i64 (gi T 3), .int .i64 (gi T 4), .int .i64 (gi T 5), .int .i64 (gi T 6), .int .i64 (gi T 7)]) A81 S81 rfl (now ((hs0.rd ht).cell))) ?_
  refine Ops.v (Yv.move rfl) ?_
  refine Ops.nil ?_
  refine k4 _ _ ?_
  refine run_block ?_
  refine Run.sub [(0, _), (1, _), (2, _), (4, _), (5, _), (11, _), (12, _)] ⟨rfl, rfl, rfl, rfl, rfl, rfl, rfl, trivial⟩ ?_
  refine run_loop (σ := Nat) (fun k e_ w_ => HS w [] w_ ∧ e_ = [(0, .func (.func f) #[] cap.toArray), (1, .pointer (some ⟨bn, 0, none⟩)), (2, .pointer (some ⟨bt, 0, none⟩)), (4, .int .i64 0), (5, .int .i64 (tapSum T (1 * 2 ^ (nn - 1).toNat) F k)), (11, .agg #[.int .i64 (gi T 0), .int .i64 (gi T 1), .int .i64 (gi T 2), .int .i64 (gi T 3), .int .i64 (gi T 4), .int .i64 (gi T 5), .int .i64 (gi T 6), .int .i64 (gi T 7)]), (12, .int .i64 (k : Int))] ∧ k ≤ 8)
    (fun k => 8 - k) 0 ?_ ?_
  · -- at the start
    refine ⟨hs0, rfl, by omega⟩
  · -- a round
    rintro k _ w5 ⟨hs5, rfl, f1⟩
    have hsb := tapSum_bd8 (r := 1 * 2 ^ (nn - 1).toNat) hT hF (by omega) k f1
    refine run_seq fun K6 k6 => ?_
    refine run_region ?_
    refine Ops.v (Yv.lt rfl rfl) ?_
    refine Ops.nil ?_
    refine k6 _ _ ?_
    refine run_seq fun K7 k7 => ?_
    refine run_ifp rfl (fun h8 => ?_) (fun h8 => ?_)
    · -- yes (k : Int) < (8 : Int)
      refine run_skip ?_
      refine k7 _ _ ?_
      refine run_seq fun K9 k9 => ?_
      refine run_block ?_
      refine run_seq fun K10 k10 => ?_
      refine run_region ?_
      refine Ops.v (Yv.move rfl) ?_
      refine Ops.v (Yv.elem R81 A3 rfl rfl (by omega) (by omega) (arr8_at (by omega) (by omega))) ?_
      refine Ops.v (Yv.assign rfl) ?_
      refine Ops.v (Yv.assign rfl) ?_
      refine Ops.nil ?_
      refine k10 _ _ ?_
      refine run_seq fun K11 k11 => ?_
      refine run_region ?_
      refine Ops.v (Yv.move rfl) ?_
      refine Ops.v (Yv.ne rfl rfl) ?_
      refine Ops.nil ?_
      refine k11 _ _ ?_
      refine run_ifp rfl (fun h12 => ?_) (fun h12 => ?_)
      · -- yes (gi T (k : Int)) ≠ (0 : Int)
        refine run_region ?_
        refine Ops.v (Yv.move rfl) ?_
        refine Ops.v (Yv.move rfl) ?_
        refine Ops.v (Yv.move rfl) ?_
        refine Ops.v (Yv.move rfl) ?_
        refine Ops.s (Step.call rfl rfl (hf _ _ (by omega) (by omega) (hs5.pick [] [] (by decide) rfl)) (?_) True.intro (by rfl))
        rintro _ w14 ⟨rfl, hs14⟩
        replace hs14 := hs5.call hs14
        have g13 := hF (k : Int) (by omega) (by omega)
        have g13m := abs_mul (hT (k : Int)) g13
        refine Ops.v (Yv.mul rfl rfl (by omega)) ?_
        refine Ops.v (Yv.add rfl rfl (by omega)) ?_
        refine Ops.v (Yv.assign rfl) ?_
        refine Ops.nil ?_
        refine k9 _ _ ?_
        refine run_region ?_
        refine Ops.v (Yv.add rfl rfl (by omega)) ?_
        refine Ops.v (Yv.move rfl) ?_
        refine Ops.nil ?_
        refine ⟨k + 1, _, ⟨hs14, rfl, by omega⟩, Sub.le ⟨rfl, rfl, rfl, rfl, lookI rfl (by first | rfl | exact (tapSum_skip (by omega)).symm), rfl, lookI rfl (by omega), trivial⟩, by omega⟩
      · -- no
        refine run_skip ?_
        refine k9 _ _ ?_
        refine run_region ?_
        refine Ops.v (Yv.add rfl rfl (by omega)) ?_
        refine Ops.v (Yv.move rfl) ?_
        refine Ops.nil ?_
        refine ⟨k + 1, _, ⟨hs5, rfl, by omega⟩, Sub.le ⟨rfl, rfl, rfl, rfl, lookI rfl (by first | rfl | exact (tapSum_skip (by omega)).symm), rfl, lookI rfl (by omega), trivial⟩, by omega⟩
    · -- no
      refine run_exit ?_
      refine k3 _ _ ?_
      refine run_seq fun K15 k15 => ?_
      refine run_region ?_
      refine Ops.v (Yv.move rfl) ?_
      refine Ops.v (Yv.load A3 rfl (now ((hs5.rd hn).at_ (j := 0) rfl))) ?_
      refine Ops.v (Yv.shr rfl rfl nn.toNat (by first | rfl | omega) (by omega)) ?_
      refine Ops.v (Yv.assign rfl) ?_
      refine Ops.nil ?_
      refine k15 _ _ ?_
      refine run_ret ?_
      refine ⟨[.int .i64 ((tapSum T (1 * 2 ^ (nn - 1).toNat) F k) / 2 ^ nn.toNat)], ⟨_, _, rfl, rfl, rfl⟩, ?_⟩
      exact ⟨by rw [show k = 8 from by omega], hs5.pick [] _ (by decide) rfl⟩

theorem fetch1_fun {w : World} {bl bf bp : Nat} {Al : Option Addr} {ml cl : Nat} {ls : List Int} {fr k W H : Int} {S : Value} (hbl : Rd w (some ⟨bl, 0, none⟩) 1 1 [.slice Al ml cl]) (hl : Rd w Al ml 1 (u8s ls)) (hx : Bytes ls) (hbf : Rd w (some ⟨bf, 0, none⟩) 1 1 [.int .i64 fr]) (hbp : Rd w (some ⟨bp, 0, none⟩) 3 1 [.int .i64 W, .int .i64 H, S]) (hk : 0 ≤ k ∧ k < 8) (hfr : -100000000 ≤ fr ∧ fr ≤ 100000000) (hW : 1 ≤ W) (hml : (ml : Int) = W) : Fun Try.prog 54 [.int .i64 k, .pointer (some ⟨bl, 0, none⟩), .pointer (some ⟨bf, 0, none⟩), .pointer (some ⟨bp, 0, none⟩)] w fun v w' => v = .int .i64 (gi ls (min (max (fr + k) 0) (W - 1))) ∧ HS w [] w' := by
  refine fun_run (m := 18) (rs := [.tmp 5]) Try.func54 rfl rfl rfl rfl rfl ?_
  have hs0 := HS.start w
  have hbig := hl.big
  refine run_seq fun K1 k1 => ?_
  refine run_region ?_
  refine Ops.v (Yv.assign rfl) ?_
  refine Ops.nil ?_
  refine k1 _ _ ?_
  refine run_seq fun K2 k2 => ?_
  refine run_region ?_
  refine Ops.v (Yv.load A22 rfl (now ((hs0.rd hbl).at_ (j := 0) rfl))) ?_
  refine Ops.v (Yv.load A3 rfl (now ((hs0.rd hbf).at_ (j := 0) rfl))) ?_
  refine Ops.v (Yv.move rfl) ?_
  refine Ops.v (Yv.add rfl rfl (by omega)) ?_
  refine Ops.v (Yv.max rfl rfl) ?_
  refine Ops.v (Yv.fld F24_0 rfl) ?_
  refine Ops.v (Yv.load A3 rfl (now ((hs0.rd hbp).at_ (j := 0) rfl))) ?_
  refine Ops.v (Yv.sub rfl rfl (by omega)) ?_
  refine Ops.v (Yv.min rfl rfl) ?_
  refine Ops.v (Yv.idx L22 rfl rfl ((hs0.rd hl).isSome (i := min (max (fr + k) 0) (W - 1)) (by omega) (by omega)) (by omega) (by omega)) ?_
  refine Ops.v (Yv.load A5 rfl (now ((hs0.rd hl).u8 (by omega) (by omega)))) ?_
  have g3 := gi_bytes (xs := ls) hx (min (max (fr + k) 0) (W - 1))
  refine Ops.v (Yv.toInt U3 V5 rfl (by omega)) ?_
  refine Ops.v (Yv.assign rfl) ?_
  refine Ops.nil ?_
  refine k2 _ _ ?_
  refine run_ret ?_
  refine ⟨[.int .i64 (gi ls (min (max (fr + k) 0) (W - 1)))], ⟨_, _, rfl, rfl, rfl⟩, ?_⟩
  exact ⟨rfl, hs0.pick [] _ (by decide) rfl⟩

theorem fetch2_fun {w : World} {br bj bi bq : Nat} {Ar : Option Addr} {mr cr mi ci : Nat} {cells : List Value} {rs : List Int} {jj ii k : Int} (hbr : Rd w (some ⟨br, 0, none⟩) 1 1 [.slice Ar mr cr]) (hR : Rd w Ar mr 1 cells) (hbj : Rd w (some ⟨bj, 0, none⟩) 1 1 [.int .i64 jj]) (hbi : Rd w (some ⟨bi, 0, none⟩) 1 1 [.int .i64 ii]) (hq : 0 ≤ jj + k ∧ jj + k < mr) (hb : mr ≤ 1000000) (hcell : cells[(jj + k).toNat]? = some (.slice (some ⟨bq, 0, none⟩) mi ci)) (hin : Rd w (some ⟨bq, 0, none⟩) mi 1 (i64s rs)) (hi : 0 ≤ ii ∧ ii < mi) : Fun Try.prog 55 [.int .i64 k, .pointer (some ⟨br, 0, none⟩), .pointer (some ⟨bj, 0, none⟩), .pointer (some ⟨bi, 0, none⟩)] w fun v w' => v = .int .i64 (gi rs ii) ∧ HS w [] w' := by
  refine fun_run (m := 15) (rs := [.tmp 5]) Try.func55 rfl rfl rfl rfl rfl ?_
  have hs0 := HS.start w
  have hbig := hR.big
  have hbig2 := hin.big
  refine run_seq fun K1 k1 => ?_
  refine run_region ?_
  refine Ops.v (Yv.assign rfl) ?_
  refine Ops.nil ?_
  refine k1 _ _ ?_
  refine run_seq fun K2 k2 => ?_
  refine run_drawn [] (fun x => Below (w.drew).heap.size (w.drew) x) ?_ Tf.mixed (by kernel_rfl) (fun _ _ _ h => h)
  have hs3 := hs0.drew
  have hS4 := Below.refl (w.drew).heap.size (w.drew)
  refine Drw.l 0 rfl (by kernel_rfl) hS4 (Yv.load A86 rfl (fun _ hq_ => (((hs3.grow hq_).rd hbr).at_ (j := 0) rfl))) ?_
  refine Drw.l 1 rfl (by kernel_rfl) hS4 (Yv.load A3 rfl (fun _ hq_ => (((hs3.grow hq_).rd hbj).at_ (j := 0) rfl))) ?_
  refine Drw.a 2 rfl (by kernel_rfl) (Yv.move rfl) ?_
  refine Drw.a 3 rfl (by kernel_rfl) (Yv.add rfl rfl (by omega)) ?_
  refine Drw.a 4 rfl (by kernel_rfl) (Yv.idx L86 rfl rfl ((hs3.rd hR).isSome (i := jj + k) (by omega) (by omega)) (by omega) (by omega)) ?_
  refine Drw.l 5 rfl (by kernel_rfl) hS4 (Yv.load A45 rfl (fun _ hq_ => (((hs3.grow hq_).rd hR).cell (((jj + k).toNat) * 1) _ (by rw [Nat.mul_one]; exact hcell)))) ?_
  refine Drw.l 6 rfl (by kernel_rfl) hS4 (Yv.load A3 rfl (fun _ hq_ => (((hs3.grow hq_).rd hbi).at_ (j := 0) rfl))) ?_
  refine Drw.a 7 rfl (by kernel_rfl) (Yv.idx L45 rfl rfl ((hs3.rd hin).isSome (i := ii) (by omega) (by omega)) (by omega) (by omega)) ?_
  refine Drw.l 8 rfl (by kernel_rfl) hS4 (Yv.load A3 rfl (fun _ hq_ => (((hs3.grow hq_).rd hin).i64 (by omega) (by omega)))) ?_
  refine Drw.a 9 rfl (by kernel_rfl) (Yv.assign rfl) ?_
  refine Drw.done ?_ (by kernel_rfl)
  refine k2 _ _ ?_
  refine run_ret ?_
  refine ⟨[.int .i64 (gi rs ii)], ⟨_, _, rfl, rfl, rfl⟩, ?_⟩
  exact ⟨rfl, hs3.pick [] _ (by decide) rfl⟩

end Go.Proofs.Zed
