/- The walks of what the statements of chapter 22 use themselves. -/
import Derived.Test.YtnkckjebcpagnaaDp
set_option linter.unusedVariables false
set_option linter.unusedSimpArgs false
namespace Go.Proofs.Zed
open Go Go.RowKit Tf
attribute [local irreducible] Try.prog

set_option maxHeartbeats 4000000 in
theorem awake22_fun {w : World}  : Fun Try.prog 14 [] w fun v w' => v = .bool true ∧ HS w [] w' := by
  refine fun_run (m := 47) (rs := [.tmp 0]) Try.func14 rfl rfl rfl rfl rfl ?_
  have hs0 := HS.start w
  refine run_seq fun K1 k1 => ?_
  refine run_region ?_
  refine Ops.v (Yv.assign rfl) ?_
  refine Ops.nil ?_
  refine k1 _ _ ?_
  refine run_seq fun K2 k2 => ?_
  refine run_region ?_
  refine Ops.s (Step.lit (ps := [(0, .int .u8 10), (1, .int .u8 10), (2, .int .u8 20), (3, .int .u8 20)]) (cs := [.int .u8 10, .int .u8 10, .int .u8 20, .int .u8 20]) hs0 L23 ⟨_, Z5, rfl⟩ rfl (by decide) (by decide) (by kernel_rfl) rfl (by decide) (fun b4 w3 hs3 hb3 => ?_) True.intro (by rfl))
  replace hs3 : HS w [.row (some ⟨b4, 0, none⟩) 4 4 (u8s [10, 10, 20, 20]) 5 1] w3 := hs3
  have by6 : Bytes [10, 10, 20, 20] := by intro x hx_; simp only [List.mem_cons, List.not_mem_nil, or_false] at hx_; omega
  refine Ops.s (Step.call rfl rfl (edge_fun (hs3.rdRow 0 rfl) by6) (?_) True.intro (by rfl))
  rintro _ w11 ⟨Ad7, m8, c9, rfl, hs11⟩
  replace hs11 := hs3.call hs11
  refine Ops.v (Yv.move rfl) ?_
  refine Ops.v (Yv.extract rfl rfl) ?_
  refine Ops.v (Yv.extract rfl rfl) ?_
  refine Ops.v (Yv.assign rfl) ?_
  refine Ops.v (Yv.assign rfl) ?_
  refine Ops.nil ?_
  refine k2 _ _ ?_
  refine run_seq fun K12 k12 => ?_
  refine run_region ?_
  refine Ops.s (Step.lit (ps := [(0, .int .u8 8), (1, .int .u8 8), (2, .int .u8 8), (3, .int .u8 8), (4, .int .u8 12), (5, .int .u8 12), (6, .int .u8 12), (7, .int .u8 12)]) (cs := [.int .u8 8, .int .u8 8, .int .u8 8, .int .u8 8, .int .u8 12, .int .u8 12, .int .u8 12, .int .u8 12]) hs11 L23 ⟨_, Z5, rfl⟩ rfl (by decide) (by decide) (by kernel_rfl) rfl (by decide) (fun b14 w13 hs13 hb13 => ?_) True.intro (by rfl))
  replace hs13 : HS w [.row (some ⟨b14, 0, none⟩) 8 8 (u8s [8, 8, 8, 8, 12, 12, 12, 12]) 5 1, .row Ad7 m8 c9 (u8s (edgeOut [10, 10, 20, 20] 4 32 0)) 5 1, .row (some ⟨b4, 0, none⟩) 4 4 (u8s [10, 10, 20, 20]) 5 1] w13 := hs13
  have by16 : Bytes [8, 8, 8, 8, 12, 12, 12, 12] := by intro x hx_; simp only [List.mem_cons, List.not_mem_nil, or_false] at hx_; omega
  refine Ops.s (Step.call rfl rfl (edge_fun (hs13.rdRow 0 rfl) by16) (?_) True.intro (by rfl))
  rintro _ w21 ⟨Ad17, m18, c19, rfl, hs21⟩
  replace hs21 := hs13.call hs21
  refine Ops.v (Yv.move rfl) ?_
  refine Ops.v (Yv.extract rfl rfl) ?_
  refine Ops.v (Yv.extract rfl rfl) ?_
  refine Ops.v (Yv.assign rfl) ?_
  refine Ops.v (Yv.assign rfl) ?_
  refine Ops.nil ?_
  refine k12 _ _ ?_
  refine run_seq fun K22 k22 => ?_
  refine run_region ?_
  refine Ops.s (Step.lit (ps := [(0, .int .u8 10), (1, .int .u8 10), (2, .int .u8 90), (3, .int .u8 90)]) (cs := [.int .u8 10, .int .u8 10, .int .u8 90, .int .u8 90]) hs21 L23 ⟨_, Z5, rfl⟩ rfl (by decide) (by decide) (by kernel_rfl) rfl (by decide) (fun b24 w23 hs23 hb23 => ?_) True.intro (by rfl))
  replace hs23 : HS w [.row (some ⟨b24, 0, none⟩) 4 4 (u8s [10, 10, 90, 90]) 5 1, .row Ad17 m18 c19 (u8s (edgeOut [8, 8, 8, 8, 12, 12, 12, 12] 8 63 0)) 5 1, .row (some ⟨b14, 0, none⟩) 8 8 (u8s [8, 8, 8, 8, 12, 12, 12, 12]) 5 1, .row Ad7 m8 c9 (u8s (edgeOut [10, 10, 20, 20] 4 32 0)) 5 1, .row (some ⟨b4, 0, none⟩) 4 4 (u8s [10, 10, 20, 20]) 5 1] w23 := hs23
  have by26 : Bytes [10, 10, 90, 90] := by intro x hx_; simp only [List.mem_cons, List.not_mem_nil, or_false] at hx_; omega
  refine Ops.s (Step.call rfl rfl (edge_fun (hs23.rdRow 0 rfl) by26) (?_) True.intro (by rfl))
  rintro _ w31 ⟨Ad27, m28, c29, rfl, hs31⟩
  replace hs31 := hs23.call hs31
  refine Ops.v (Yv.move rfl) ?_
  refine Ops.v (Yv.extract rfl rfl) ?_
  refine Ops.v (Yv.extract rfl rfl) ?_
  refine Ops.v (Yv.assign rfl) ?_
  refine Ops.v (Yv.assign rfl) ?_
  refine Ops.nil ?_
  refine k22 _ _ ?_
  refine run_seq fun K32 k32 => ?_
  refine Run.cut (fun e_ w_ => HS w [.row Ad27 m28 c29 (u8s (edgeOut [10, 10, 90, 90] 4 8 0)) 5 1, .row (some ⟨b24, 0, none⟩) 4 4 (u8s [10, 10, 90, 90]) 5 1, .row Ad17 m18 c19 (u8s (edgeOut [8, 8, 8, 8, 12, 12, 12, 12] 8 63 0)) 5 1, .row (some ⟨b14, 0, none⟩) 8 8 (u8s [8, 8, 8, 8, 12, 12, 12, 12]) 5 1, .row Ad7 m8 c9 (u8s (edgeOut [10, 10, 20, 20] 4 32 0)) 5 1, .row (some ⟨b4, 0, none⟩) 4 4 (u8s [10, 10, 20, 20]) 5 1] w_ ∧ Le [(0, .bool true), (1, .slice Ad7 m8 c9), (2, .int .i64 (edgeE [10, 10, 20, 20] 4 32 0)), (3, .slice Ad17 m18 c19), (4, .int .i64 (edgeE [8, 8, 8, 8, 12, 12, 12, 12] 8 63 0)), (5, .slice Ad27 m28 c29), (6, .int .i64 (edgeE [10, 10, 90, 90] 4 8 0))] e_) ?_ ?_
  · -- region 4: its ways meet again
    refine run_region ?_
    refine Ops.v (Yv.move rfl) ?_
    refine Ops.v (Yv.eq rfl rfl) ?_
    refine Ops.dec1 (of_decide_eq_true (by kernel_rfl)) ?_
    refine Ops.v (Yv.move rfl) ?_
    refine Ops.vg ⟨_, rfl, rfl⟩ (Yv.move rfl) ?_
    refine Ops.vg ⟨_, rfl, rfl⟩ (Yv.eq rfl rfl) ?_
    refine Ops.dec1 (of_decide_eq_true (by kernel_rfl)) ?_
    refine Ops.v (Yv.pick1 rfl rfl) ?_
    refine Ops.v (Yv.move rfl) ?_
    refine Ops.vg ⟨_, rfl, rfl⟩ (Yv.move rfl) ?_
    refine Ops.vg ⟨_, rfl, rfl⟩ (Yv.eq rfl rfl) ?_
    refine Ops.dec1 (of_decide_eq_true (by kernel_rfl)) ?_
    refine Ops.v (Yv.pick1 rfl rfl) ?_
    refine Ops.v (Yv.move rfl) ?_
    refine Ops.vg ⟨_, rfl, rfl⟩ (Yv.move rfl) ?_
    refine Ops.s (Step.lit (ps := [(0, .int .u8 12), (1, .int .u8 14), (2, .int .u8 16), (3, .int .u8 18)]) (cs := [.int .u8 12, .int .u8 14, .int .u8 16, .int .u8 18]) hs31 L23 ⟨_, Z5, rfl⟩ rfl (by decide) (by decide) (by kernel_rfl) rfl (by decide) (fun b34 w33 hs33 hb33 => ?_) ⟨_, rfl, rfl⟩ (by rfl))
    replace hs33 : HS w [.row (some ⟨b34, 0, none⟩) 4 4 (u8s [12, 14, 16, 18]) 5 1, .row Ad27 m28 c29 (u8s (edgeOut [10, 10, 90, 90] 4 8 0)) 5 1, .row (some ⟨b24, 0, none⟩) 4 4 (u8s [10, 10, 90, 90]) 5 1, .row Ad17 m18 c19 (u8s (edgeOut [8, 8, 8, 8, 12, 12, 12, 12] 8 63 0)) 5 1, .row (some ⟨b14, 0, none⟩) 8 8 (u8s [8, 8, 8, 8, 12, 12, 12, 12]) 5 1, .row Ad7 m8 c9 (u8s (edgeOut [10, 10, 20, 20] 4 32 0)) 5 1, .row (some ⟨b4, 0, none⟩) 4 4 (u8s [10, 10, 20, 20]) 5 1] w33 := hs33
    have by36 : Bytes [12, 14, 16, 18] := by intro x hx_; simp only [List.mem_cons, List.not_mem_nil, or_false] at hx_; omega
    refine Ops.s (Step.call rfl rfl (eqBytes_fun (hs33.rdRow 5 rfl) (hs33.rdRow 0 rfl)) (?_) ⟨_, rfl, rfl⟩ (by rfl))
    rintro _ w37 ⟨rfl, hs37⟩
    replace hs37 := hs33.call hs37
    refine Ops.dec1 (of_decide_eq_true (by kernel_rfl)) ?_
    refine Ops.v (Yv.pick1 rfl rfl) ?_
    refine Ops.v (Yv.move rfl) ?_
    refine Ops.vg ⟨_, rfl, rfl⟩ (Yv.move rfl) ?_
    refine Ops.s (Step.lit (ps := [(0, .int .u8 8), (1, .int .u8 9), (2, .int .u8 9), (3, .int .u8 10), (4, .int .u8 11), (5, .int .u8 11), (6, .int .u8 12), (7, .int .u8 12)]) (cs := [.int .u8 8, .int .u8 9, .int .u8 9, .int .u8 10, .int .u8 11, .int .u8 11, .int .u8 12, .int .u8 12]) hs37 L23 ⟨_, Z5, rfl⟩ rfl (by decide) (by decide) (by kernel_rfl) rfl (by decide) (fun b39 w38 hs38 hb38 => ?_) ⟨_, rfl, rfl⟩ (by rfl))
    replace hs38 : HS w [.row (some ⟨b39, 0, none⟩) 8 8 (u8s [8, 9, 9, 10, 11, 11, 12, 12]) 5 1, .row (some ⟨b34, 0, none⟩) 4 4 (u8s [12, 14, 16, 18]) 5 1, .row Ad27 m28 c29 (u8s (edgeOut [10, 10, 90, 90] 4 8 0)) 5 1, .row (some ⟨b24, 0, none⟩) 4 4 (u8s [10, 10, 90, 90]) 5 1, .row Ad17 m18 c19 (u8s (edgeOut [8, 8, 8, 8, 12, 12, 12, 12] 8 63 0)) 5 1, .row (some ⟨b14, 0, none⟩) 8 8 (u8s [8, 8, 8, 8, 12, 12, 12, 12]) 5 1, .row Ad7 m8 c9 (u8s (edgeOut [10, 10, 20, 20] 4 32 0)) 5 1, .row (some ⟨b4, 0, none⟩) 4 4 (u8s [10, 10, 20, 20]) 5 1] w38 := hs38
    have by41 : Bytes [8, 9, 9, 10, 11, 11, 12, 12] := by intro x hx_; simp only [List.mem_cons, List.not_mem_nil, or_false] at hx_; omega
    refine Ops.s (Step.call rfl rfl (eqBytes_fun (hs38.rdRow 4 rfl) (hs38.rdRow 0 rfl)) (?_) ⟨_, rfl, rfl⟩ (by rfl))
    rintro _ w42 ⟨rfl, hs42⟩
    replace hs42 := hs38.call hs42
    refine Ops.dec1 (of_decide_eq_true (by kernel_rfl)) ?_
    refine Ops.v (Yv.pick1 rfl rfl) ?_
    refine Ops.v (Yv.move rfl) ?_
    refine Ops.vg ⟨_, rfl, rfl⟩ (Yv.move rfl) ?_
    refine Ops.s (Step.lit (ps := [(0, .int .u8 10), (1, .int .u8 10), (2, .int .u8 90), (3, .int .u8 90)]) (cs := [.int .u8 10, .int .u8 10, .int .u8 90, .int .u8 90]) hs42 L23 ⟨_, Z5, rfl⟩ rfl (by decide) (by decide) (by kernel_rfl) rfl (by decide) (fun b44 w43 hs43 hb43 => ?_) ⟨_, rfl, rfl⟩ (by rfl))
    replace hs43 : HS w [.row (some ⟨b44, 0, none⟩) 4 4 (u8s [10, 10, 90, 90]) 5 1, .row (some ⟨b39, 0, none⟩) 8 8 (u8s [8, 9, 9, 10, 11, 11, 12, 12]) 5 1, .row (some ⟨b34, 0, none⟩) 4 4 (u8s [12, 14, 16, 18]) 5 1, .row Ad27 m28 c29 (u8s (edgeOut [10, 10, 90, 90] 4 8 0)) 5 1, .row (some ⟨b24, 0, none⟩) 4 4 (u8s [10, 10, 90, 90]) 5 1, .row Ad17 m18 c19 (u8s (edgeOut [8, 8, 8, 8, 12, 12, 12, 12] 8 63 0)) 5 1, .row (some ⟨b14, 0, none⟩) 8 8 (u8s [8, 8, 8, 8, 12, 12, 12, 12]) 5 1, .row Ad7 m8 c9 (u8s (edgeOut [10, 10, 20, 20] 4 32 0)) 5 1, .row (some ⟨b4, 0, none⟩) 4 4 (u8s [10, 10, 20, 20]) 5 1] w43 := hs43
    have by46 : Bytes [10, 10, 90, 90] := by intro x hx_; simp only [List.mem_cons, List.not_mem_nil, or_false] at hx_; omega
    refine Ops.s (Step.call rfl rfl (eqBytes_fun (hs43.rdRow 3 rfl) (hs43.rdRow 0 rfl)) (?_) ⟨_, rfl, rfl⟩ (by rfl))
    rintro _ w47 ⟨rfl, hs47⟩
    replace hs47 := hs43.call hs47
    refine Ops.dec1 (of_decide_eq_true (by kernel_rfl)) ?_
    refine Ops.v (Yv.pick1 rfl rfl) ?_
    refine Ops.v (Yv.assign rfl) ?_
    refine Ops.nil ?_
    refine ⟨(hs47.pick [3, 4, 5, 6, 7, 8] [.row Ad27 m28 c29 (u8s (edgeOut [10, 10, 90, 90] 4 8 0)) 5 1, .row (some ⟨b24, 0, none⟩) 4 4 (u8s [10, 10, 90, 90]) 5 1, .row Ad17 m18 c19 (u8s (edgeOut [8, 8, 8, 8, 12, 12, 12, 12] 8 63 0)) 5 1, .row (some ⟨b14, 0, none⟩) 8 8 (u8s [8, 8, 8, 8, 12, 12, 12, 12]) 5 1, .row Ad7 m8 c9 (u8s (edgeOut [10, 10, 20, 20] 4 32 0)) 5 1, .row (some ⟨b4, 0, none⟩) 4 4 (u8s [10, 10, 20, 20]) 5 1] (by decide) rfl), Sub.le ⟨rfl, rfl, rfl, rfl, rfl, rfl, rfl, trivial⟩⟩
  rintro e48 w48 ⟨hs48, he48⟩
  refine k32 _ _ ?_
  refine Run.le he48 ?_
  refine run_ret ?_
  refine ⟨[.bool true], ⟨_, _, rfl, rfl, rfl⟩, ?_⟩
  exact ⟨congrArg Value.bool (by kernel_rfl), hs48.pick [] _ (by decide) rfl⟩

theorem equal_fun {w : World} {A B : Option Addr} {m1 c1 m2 c2 : Nat} {xs ys : List Int} (hr : Rd w A m1 1 (u8s xs)) (hr2 : Rd w B m2 1 (u8s ys)) : Fun Try.prog 62 [.slice A m1 c1, .slice B m2 c2] w fun v w' => v = .bool (decide (xs = ys)) ∧ HS w [] w' := by
  refine fun_run (m := 26) (rs := [.tmp 4]) Try.func62 rfl rfl rfl rfl rfl ?_
  have hs0 := HS.start w
  have hbig := hr.big
  have hlen_xs : xs.length = m1 := by have := hr.len; rw [u8s_length] at this; omega
  have hlen_ys : ys.length = m2 := by have := hr2.len; rw [u8s_length] at this; omega
  refine run_seq fun K1 k1 => ?_
  refine run_region ?_
  refine Ops.v (Yv.assign rfl) ?_
  refine Ops.nil ?_
  refine k1 _ _ ?_
  refine run_seq fun K2 k2 => ?_
  refine run_seq fun K3 k3 => ?_
  refine run_region ?_
  refine Ops.v (Yv.move rfl) ?_
  refine Ops.v (Yv.len (by rw [L23]; rfl) rfl) ?_
  refine Ops.v (Yv.move rfl) ?_
  refine Ops.v (Yv.len (by rw [L23]; rfl) rfl) ?_
  refine Ops.v (Yv.ne rfl rfl) ?_
  refine Ops.nil ?_
  refine k3 _ _ ?_
  refine run_ifp rfl (fun h4 => ?_) (fun h4 => ?_)
  · -- yes (m1 : Int) ≠ (m2 : Int)
    refine run_seq fun K5 k5 => ?_
    refine run_region ?_
    refine Ops.v (Yv.assign rfl) ?_
    refine Ops.nil ?_
    refine k5 _ _ ?_
    refine run_ret ?_
    refine ⟨[.bool false], ⟨_, _, rfl, rfl, rfl⟩, ?_⟩
    exact ⟨by rw [decide_eq_false (fun e => by subst e; omega)], hs0.pick [] _ (by decide) rfl⟩
  · -- no
    refine run_skip ?_
    refine k2 _ _ ?_
    refine run_seq fun K6 k6 => ?_
    refine run_seq fun K7 k7 => ?_
    refine run_region ?_
    refine Ops.v (Yv.move rfl) ?_
    refine Ops.v (Yv.len (by rw [L23]; rfl) rfl) ?_
    refine Ops.v (Yv.move rfl) ?_
    refine Ops.nil ?_
    refine k7 _ _ ?_
    refine run_block ?_
    refine Run.sub [(0, _), (1, _), (10, _), (12, _), (13, _)] ⟨rfl, rfl, rfl, rfl, rfl, trivial⟩ ?_
    refine run_loop (σ := Nat) (fun k e_ w_ => HS w [] w_ ∧ e_ = [(0, .slice A m1 c1), (1, .slice B m2 c2), (10, .bool (decide ((m1 : Int) ≠ (m2 : Int)))), (12, .int .i64 (m1 : Int)), (13, .int .i64 (k : Int))] ∧ k ≤ m1 ∧ ∀ j : Nat, j < k → gi xs j = gi ys j)
      (fun k => m1 - k) 0 ?_ ?_
    · -- at the start
      refine ⟨hs0, rfl, by omega, (fun j h => by omega)⟩
    · -- a round
      rintro k _ w8 ⟨hs8, rfl, f1, f2⟩
      refine run_seq fun K9 k9 => ?_
      refine run_region ?_
      refine Ops.v (Yv.lt rfl rfl) ?_
      refine Ops.nil ?_
      refine k9 _ _ ?_
      refine run_seq fun K10 k10 => ?_
      refine run_ifp rfl (fun h11 => ?_) (fun h11 => ?_)
      · -- yes (k : Int) < (m1 : Int)
        refine run_skip ?_
        refine k10 _ _ ?_
        refine run_seq fun K12 k12 => ?_
        refine run_block ?_
        refine run_seq fun K13 k13 => ?_
        refine run_region ?_
        refine Ops.v (Yv.move rfl) ?_
        refine Ops.v (Yv.assign rfl) ?_
        refine Ops.nil ?_
        refine k13 _ _ ?_
        refine run_seq fun K14 k14 => ?_
        refine run_drawn [] (fun x => Below (w8.drew).heap.size (w8.drew) x) ?_ Tf.mixed (by kernel_rfl) (fun _ _ _ h => h)
        have hs15 := hs8.drew
        have hS16 := Below.refl (w8.drew).heap.size (w8.drew)
        refine Drw.a 0 rfl (by kernel_rfl) (Yv.move rfl) ?_
        refine Drw.a 1 rfl (by kernel_rfl) (Yv.move rfl) ?_
        refine Drw.a 2 rfl (by kernel_rfl) (Yv.idx L23 rfl rfl ((hs15.rd hr).isSome (i := (k : Int)) (by omega) (by omega)) (by omega) (by omega)) ?_
        refine Drw.l 3 rfl (by kernel_rfl) hS16 (Yv.load A5 rfl (fun _ hq_ => (((hs15.grow hq_).rd hr).u8 (by omega) (by omega)))) ?_
        refine Drw.a 4 rfl (by kernel_rfl) (Yv.move rfl) ?_
        refine Drw.a 5 rfl (by kernel_rfl) (Yv.move rfl) ?_
        refine Drw.a 6 rfl (by kernel_rfl) (Yv.idx L23 rfl rfl ((hs15.rd hr2).isSome (i := (k : Int)) (by omega) (by omega)) (by omega) (by omega)) ?_
        refine Drw.l 7 rfl (by kernel_rfl) hS16 (Yv.load A5 rfl (fun _ hq_ => (((hs15.grow hq_).rd hr2).u8 (by omega) (by omega)))) ?_
        refine Drw.a 8 rfl (by kernel_rfl) (Yv.ne rfl rfl) ?_
        refine Drw.done ?_ (by kernel_rfl)
        refine k14 _ _ ?_
        refine run_ifp rfl (fun h17 => ?_) (fun h17 => ?_)
        · -- yes (gi xs (k : Int)) ≠ (gi ys (k : Int))
          refine run_seq fun K18 k18 => ?_
          refine run_region ?_
          refine Ops.v (Yv.assign rfl) ?_
          refine Ops.nil ?_
          refine k18 _ _ ?_
          refine run_ret ?_
          refine ⟨[.bool false], ⟨_, _, rfl, rfl, rfl⟩, ?_⟩
          exact ⟨by rw [decide_eq_false (fun e => by subst e; exact h17 rfl)], hs15.pick [] _ (by decide) rfl⟩
        · -- no
          refine run_skip ?_
          refine k12 _ _ ?_
          refine run_region ?_
          refine Ops.v (Yv.add rfl rfl (by omega)) ?_
          refine Ops.v (Yv.move rfl) ?_
          refine Ops.nil ?_
          refine ⟨k + 1, _, ⟨hs15, rfl, by omega, (fun j h => by rcases Nat.lt_or_ge j k with h2 | h2; exact f2 j h2; rw [show j = k from by omega]; exact Decidable.not_not.1 h17)⟩, Sub.le ⟨rfl, rfl, rfl, rfl, lookI rfl (by omega), trivial⟩, by omega⟩
      · -- no
        refine run_exit ?_
        refine k6 _ _ ?_
        refine run_seq fun K19 k19 => ?_
        refine run_region ?_
        refine Ops.v (Yv.assign rfl) ?_
        refine Ops.nil ?_
        refine k19 _ _ ?_
        refine run_ret ?_
        refine ⟨[.bool true], ⟨_, _, rfl, rfl, rfl⟩, ?_⟩
        exact ⟨by rw [decide_eq_true (eq_to f2 (by omega) (by omega))], hs8.pick [] _ (by decide) rfl⟩

theorem same_fun {w : World} {W H W' H' : Int} {A B : Option Addr} {m c m2 c2 : Nat} {xs ys : List Int} (hr : Rd w A m 1 (u8s xs)) (hr2 : Rd w B m2 1 (u8s ys)) : Fun Try.prog 24 [.agg #[.int .i64 W, .int .i64 H, .slice A m c], .agg #[.int .i64 W', .int .i64 H', .slice B m2 c2]] w fun v w' => v = .bool (decide ((W = W' ∧ H = H') ∧ xs = ys)) ∧ HS w [] w' := by
  refine fun_run (m := 24) (rs := [.tmp 4]) Try.func24 rfl rfl rfl rfl rfl ?_
  have hs0 := HS.start w
  refine run_seq fun K1 k1 => ?_
  refine run_region ?_
  refine Ops.s (Step.box (cs := [.int .i64 W, .int .i64 H, .slice A m c]) hs0 rfl rfl (fun b2 w3 hs3 hb3 => ?_) True.intro (by rfl))
  refine Ops.s (Step.box (cs := [.int .i64 W', .int .i64 H', .slice B m2 c2]) hs3 rfl rfl (fun b5 w6 hs6 hb6 => ?_) True.intro (by rfl))
  refine Ops.v (Yv.assign rfl) ?_
  refine Ops.nil ?_
  refine k1 _ _ ?_
  refine run_seq fun K8 k8 => ?_
  refine Run.cut (fun e_ w_ => HS w [.blk b5 [.int .i64 W', .int .i64 H', .slice B m2 c2] 28, .blk b2 [.int .i64 W, .int .i64 H, .slice A m c] 28] w_ ∧ Le [(0, .agg #[.int .i64 W, .int .i64 H, .slice A m c]), (1, .agg #[.int .i64 W', .int .i64 H', .slice B m2 c2]), (2, .pointer (some ⟨b2, 0, none⟩)), (3, .pointer (some ⟨b5, 0, none⟩)), (4, .bool (decide (((W = W') ∧ (H = H')) ∧ (xs = ys))))] e_) ?_ ?_
  · -- region 1: its ways meet again
    refine run_region ?_
    refine Ops.v (Yv.fld F28_0 rfl) ?_
    refine Ops.v (Yv.load A3 rfl (now (hs6.cell 1 rfl 0 rfl))) ?_
    refine Ops.v (Yv.fld F28_0 rfl) ?_
    refine Ops.v (Yv.load A3 rfl (now (hs6.cell 0 rfl 0 rfl))) ?_
    refine Ops.v (Yv.eq rfl rfl) ?_
    refine Ops.dec (fun h9 => ?_) (fun h9 => ?_)
    · -- yes
      refine Ops.v (Yv.move rfl) ?_
      refine Ops.vg ⟨_, rfl, rfl⟩ (Yv.fld F28_1 rfl) ?_
      refine Ops.vg ⟨_, rfl, rfl⟩ (Yv.load A3 rfl (now (hs6.cell 1 rfl 1 rfl))) ?_
      refine Ops.vg ⟨_, rfl, rfl⟩ (Yv.fld F28_1 rfl) ?_
      refine Ops.vg ⟨_, rfl, rfl⟩ (Yv.load A3 rfl (now (hs6.cell 0 rfl 1 rfl))) ?_
      refine Ops.vg ⟨_, rfl, rfl⟩ (Yv.eq rfl rfl) ?_
      refine Ops.dec (fun h10 => ?_) (fun h10 => ?_)
      · -- yes
        refine Ops.v (Yv.pick1 rfl rfl) ?_
        refine Ops.v (Yv.move rfl) ?_
        refine Ops.vg ⟨_, rfl, rfl⟩ (Yv.fld F28_2 rfl) ?_
        refine Ops.vg ⟨_, rfl, rfl⟩ (Yv.load A23 rfl (now (hs6.cell 1 rfl 2 rfl))) ?_
        refine Ops.vg ⟨_, rfl, rfl⟩ (Yv.fld F28_2 rfl) ?_
        refine Ops.vg ⟨_, rfl, rfl⟩ (Yv.load A23 rfl (now (hs6.cell 0 rfl 2 rfl))) ?_
        refine Ops.s (Step.call rfl rfl (equal_fun (hs6.rd hr) (hs6.rd hr2)) (?_) ⟨_, rfl, rfl⟩ (by rfl))
        rintro _ w11 ⟨rfl, hs11⟩
        replace hs11 := hs6.call hs11
        refine Ops.v (Yv.pick1 rfl rfl) ?_
        refine Ops.v (Yv.assign rfl) ?_
        refine Ops.nil ?_
        refine ⟨hs11, Sub.le ⟨rfl, rfl, rfl, rfl, lookB rfl (by first | (simp only [h9, h10, ne_eq, not_true_eq_false, not_false_eq_true, or_true, true_or, or_false, false_or, and_true, true_and, and_false, false_and, decide_true, decide_false, or_self, and_self, Bool.decide_eq_true]; done) | simp [h9, h10]), trivial⟩⟩
      · -- no
        refine Ops.v (Yv.pick1 rfl rfl) ?_
        refine Ops.v (Yv.move rfl) ?_
        refine Ops.skip ⟨_, rfl, rfl⟩ ?_
        refine Ops.skip ⟨_, rfl, rfl⟩ ?_
        refine Ops.skip ⟨_, rfl, rfl⟩ ?_
        refine Ops.skip ⟨_, rfl, rfl⟩ ?_
        refine Ops.skip ⟨_, rfl, rfl⟩ ?_
        refine Ops.v (Yv.pick0 rfl rfl) ?_
        refine Ops.v (Yv.assign rfl) ?_
        refine Ops.nil ?_
        refine ⟨hs6, Sub.le ⟨rfl, rfl, rfl, rfl, lookB rfl (by first | (simp only [h9, h10, ne_eq, not_true_eq_false, not_false_eq_true, or_true, true_or, or_false, false_or, and_true, true_and, and_false, false_and, decide_true, decide_false, or_self, and_self, Bool.decide_eq_true]; done) | simp [h9, h10]), trivial⟩⟩
    · -- no
      refine Ops.v (Yv.move rfl) ?_
      refine Ops.skip ⟨_, rfl, rfl⟩ ?_
      refine Ops.skip ⟨_, rfl, rfl⟩ ?_
      refine Ops.skip ⟨_, rfl, rfl⟩ ?_
      refine Ops.skip ⟨_, rfl, rfl⟩ ?_
      refine Ops.skip ⟨_, rfl, rfl⟩ ?_
      refine Ops.v (Yv.pick0 rfl rfl) ?_
      refine Ops.v (Yv.move rfl) ?_
      refine Ops.skip ⟨_, rfl, rfl⟩ ?_
      refine Ops.skip ⟨_, rfl, rfl⟩ ?_
      refine Ops.skip ⟨_, rfl, rfl⟩ ?_
      refine Ops.skip ⟨_, rfl, rfl⟩ ?_
      refine Ops.skip ⟨_, rfl, rfl⟩ ?_
      refine Ops.v (Yv.pick0 rfl rfl) ?_
      refine Ops.v (Yv.assign rfl) ?_
      refine Ops.nil ?_
      refine ⟨hs6, Sub.le ⟨rfl, rfl, rfl, rfl, lookB rfl (by first | (simp only [h9, ne_eq, not_true_eq_false, not_false_eq_true, or_true, true_or, or_false, false_or, and_true, true_and, and_false, false_and, decide_true, decide_false, or_self, and_self, Bool.decide_eq_true]; done) | simp [h9]), trivial⟩⟩
  rintro e12 w12 ⟨hs12, he12⟩
  refine k8 _ _ ?_
  refine Run.le he12 ?_
  refine run_ret ?_
  refine ⟨[.bool (decide (((W = W') ∧ (H = H')) ∧ (xs = ys)))], ⟨_, _, rfl, rfl, rfl⟩, ?_⟩
  exact ⟨rfl, hs12.pick [] _ (by decide) rfl⟩

theorem fit22_fun {w : World} {a b : Int} {A : Option Addr} {m c : Nat} {xs : List Int} (hr : Rd w A m 1 (u8s xs)) (hx : Bytes xs) : Fun Try.prog 15 [.int .i64 a, .int .i64 b, .slice A m c] w fun v w' => ∃ A' c', v = .agg #[.int .i64 (4 + 4 * bringF a 16), .int .i64 (4 + 4 * bringF b 16), .slice A' ((4 + 4 * bringF a 16) * (4 + 4 * bringF b 16)).toNat c'] ∧ HS w [.row A' ((4 + 4 * bringF a 16) * (4 + 4 * bringF b 16)).toNat c' (u8s (fitTo xs ((4 + 4 * bringF a 16) * (4 + 4 * bringF b 16)).toNat)) 5 1] w' := by
  refine fun_run (m := 45) (rs := [.cell 6 28]) Try.func15 rfl rfl rfl rfl rfl ?_
  have hs0 := HS.start w
  have hbig := hr.big
  have hlen : xs.length = m := by have := hr.len; rw [u8s_length] at this; omega
  refine run_seq fun K1 k1 => ?_
  refine run_region ?_
  refine Ops.s (Step.alloc (cs := [.int .i64 0, .int .i64 0, .slice none 0 0]) hs0 Z28 rfl (fun b2 w3 hs3 hb3 => ?_) True.intro (by rfl))
  refine Ops.nil ?_
  refine k1 _ _ ?_
  refine run_seq fun K5 k5 => ?_
  refine run_region ?_
  refine Ops.v (Yv.move rfl) ?_
  refine Ops.s (Step.call rfl rfl (bring_fun (by omega)) (?_) True.intro (by rfl))
  rintro _ _ ⟨rfl, rfl⟩
  have g6 := bringF_bd (i := a) (n := 16) (by decide)
  refine Ops.v (Yv.mul rfl rfl (by omega)) ?_
  refine Ops.v (Yv.add rfl rfl (by omega)) ?_
  refine Ops.v (Yv.move rfl) ?_
  refine Ops.s (Step.call rfl rfl (bring_fun (by omega)) (?_) True.intro (by rfl))
  rintro _ _ ⟨rfl, rfl⟩
  have g8 := bringF_bd (i := b) (n := 16) (by decide)
  refine Ops.v (Yv.mul rfl rfl (by omega)) ?_
  refine Ops.v (Yv.add rfl rfl (by omega)) ?_
  refine Ops.v (Yv.buildS (cs := #[.int .i64 ((4 : Int) + ((4 : Int) * (bringF a 16))), .int .i64 ((4 : Int) + ((4 : Int) * (bringF b 16))), .slice none 0 0]) T28 rfl rfl) ?_
  refine Ops.s (Step.alloc (cs := [.int .i64 0, .int .i64 0, .slice none 0 0]) hs3 Z28 rfl (fun b10 w11 hs11 hb11 => ?_) True.intro (by rfl))
  refine Ops.s (Step.store (vs := [.int .i64 ((4 : Int) + ((4 : Int) * (bringF a 16))), .int .i64 ((4 : Int) + ((4 : Int) * (bringF b 16))), .slice none 0 0]) 0 hs11 rfl rfl rfl rfl S28 (Nat.le_of_ble_eq_true rfl) rfl (fun w13 hs13 => ?_) True.intro)
  replace hs13 : HS _ [.blk _ [_, _, _] _, .blk _ [_, _, _] _] _ := hs13
  refine Ops.nil ?_
  refine k5 _ _ ?_
  refine run_seq fun K14 k14 => ?_
  refine run_seq fun K15 k15 => ?_
  refine run_region ?_
  refine Ops.v (Yv.assign rfl) ?_
  refine Ops.nil ?_
  refine k15 _ _ ?_
  refine run_block ?_
  have hWH := mul_bd (a := 4 + 4 * bringF a 16) (b := 4 + 4 * bringF b 16) (x := 64) (y := 64) (by omega) (by omega) (by omega) (by omega)
  refine Run.sub [(0, _), (1, _), (2, _), (6, _), (7, _), (8, _)] ⟨rfl, rfl, rfl, rfl, rfl, rfl, trivial⟩ ?_
  refine run_loop (σ := Nat × Option Addr × Nat) (fun (k, A_, c_) e_ w_ => HS w [.row A_ k c_ (u8s (fitTo xs k)) 5 1, .blk b10 [.int .i64 ((4 : Int) + ((4 : Int) * (bringF a 16))), .int .i64 ((4 : Int) + ((4 : Int) * (bringF b 16))), .slice A_ k c_] 28, .blk b2 [.int .i64 0, .int .i64 0, .slice none 0 0] 28] w_ ∧ e_ = [(0, .int .i64 a), (1, .int .i64 b), (2, .slice A m c), (6, .pointer (some ⟨b2, 0, none⟩)), (7, .pointer (some ⟨b10, 0, none⟩)), (8, .int .i64 (k : Int))] ∧ (k : Int) ≤ (4 + 4 * bringF a 16) * (4 + 4 * bringF b 16))
    (fun (k, A_, c_) => ((4 + 4 * bringF a 16) * (4 + 4 * bringF b 16)).toNat - k) (0, none, 0) ?_ ?_
  · -- at the start
    refine ⟨hs13.nilRow 5 1, rfl, by omega⟩
  · -- a round
    rintro ⟨k, A_, c_⟩ _ w16 ⟨hs16, rfl, f1⟩
    refine run_seq fun K17 k17 => ?_
    refine run_seq fun K18 k18 => ?_
    refine run_region ?_
    refine Ops.v (Yv.move rfl) ?_
    refine Ops.v (Yv.fld F28_0 rfl) ?_
    refine Ops.v (Yv.load A3 rfl (now (hs16.cell 1 rfl 0 rfl))) ?_
    refine Ops.v (Yv.fld F28_1 rfl) ?_
    refine Ops.v (Yv.load A3 rfl (now (hs16.cell 1 rfl 1 rfl))) ?_
    refine Ops.v (Yv.mul rfl rfl (by omega)) ?_
    refine Ops.v (Yv.lt rfl rfl) ?_
    refine Ops.nil ?_
    refine k18 _ _ ?_
    refine run_ifp rfl (fun h19 => ?_) (fun h19 => ?_)
    · -- yes (k : Int) < (((4 : Int) + ((4 : Int) * (bringF a 16))) * ((4 : Int) + ((4 : Int) * (bringF b 16))))
      refine run_skip ?_
      refine k17 _ _ ?_
      refine run_seq fun K20 k20 => ?_
      refine run_block ?_
      refine run_seq fun K21 k21 => ?_
      refine run_region ?_
      refine Ops.v (Yv.assign rfl) ?_
      refine Ops.nil ?_
      refine k21 _ _ ?_
      refine run_seq fun K22 k22 => ?_
      refine run_seq fun K23 k23 => ?_
      refine run_region ?_
      refine Ops.v (Yv.move rfl) ?_
      refine Ops.v (Yv.len (by rw [L23]; rfl) rfl) ?_
      refine Ops.v (Yv.gt rfl rfl) ?_
      refine Ops.nil ?_
      refine k23 _ _ ?_
      refine run_ifp rfl (fun h24 => ?_) (fun h24 => ?_)
      · -- yes (0 : Int) < (m : Int)
        refine run_region ?_
        refine Ops.v (Yv.move rfl) ?_
        refine Ops.v (Yv.move rfl) ?_
        refine Ops.v (Yv.move rfl) ?_
        refine Ops.v (Yv.len (by rw [L23]; rfl) rfl) ?_
        refine Ops.v (Yv.rem rfl rfl (by omega) (by omega)) ?_
        have hmd : 0 ≤ (k : Int) % (m : Int) ∧ (k : Int) % (m : Int) < m := ⟨Int.emod_nonneg _ (by omega), Int.emod_lt_of_pos _ (by omega)⟩
        refine Ops.v (Yv.idx L23 rfl rfl ((hs16.rd hr).isSome (i := (k : Int) % (m : Int)) (by omega) (by omega)) (by omega) (by omega)) ?_
        refine Ops.v (Yv.load A5 rfl (now ((hs16.rd hr).u8 (by omega) (by omega)))) ?_
        have g25 := gi_bytes (xs := xs) hx ((k : Int) % (m : Int))
        refine Ops.v (Yv.assign rfl) ?_
        have g25 := gi_bytes (xs := xs) hx ((k : Int) % (m : Int))
        refine Ops.nil ?_
        refine k22 _ _ ?_
        refine run_region ?_
        refine Ops.v (Yv.fld F28_2 rfl) ?_
        refine Ops.v (Yv.load A23 rfl (now (hs16.cell 1 rfl 2 rfl))) ?_
        refine Ops.v (Yv.move rfl) ?_
        have g25 := gi_bytes (xs := xs) hx ((k : Int) % (m : Int))
        refine Ops.s (Step.lit (ps := [(0, .int .u8 (gi xs ((k : Int) % (m : Int))))]) (cs := [.int .u8 (gi xs ((k : Int) % (m : Int)))]) hs16 L23 ⟨_, Z5, rfl⟩ rfl (by decide) (by decide) (by kernel_rfl) rfl (by decide) (fun b27 w26 hs26 hb26 => ?_) True.intro (by rfl))
        replace hs26 : HS w [.row (some ⟨b27, 0, none⟩) 1 1 (u8s [gi xs ((k : Int) % (m : Int))]) 5 1, .row A_ k c_ (u8s (fitTo xs k)) 5 1, .blk b10 [.int .i64 ((4 : Int) + ((4 : Int) * (bringF a 16))), .int .i64 ((4 : Int) + ((4 : Int) * (bringF b 16))), .slice A_ k c_] 28, .blk b2 [.int .i64 0, .int .i64 0, .slice none 0 0] 28] w26 := hs26
        have by29 : Bytes [gi xs ((k : Int) % (m : Int))] := by intro x hx_; simp only [List.mem_cons, List.not_mem_nil, or_false] at hx_; omega
        refine Ops.s (Step.append 1 hs26 rfl rfl L23 Z5 rfl (by decide) rfl (hs26.rdRow 0 rfl) (u8s_one _) (by omega) (by decide) (fun Ad31 c32 w30 hs30 => ?_) True.intro (by rfl))
        replace hs30 : HS w [.row (some ⟨b27, 0, none⟩) 1 1 (u8s [gi xs ((k : Int) % (m : Int))]) 5 1, .row Ad31 (k + 1) c32 (u8s ((fitTo xs k) ++ [gi xs ((k : Int) % (m : Int))])) 5 1, .blk b10 [.int .i64 ((4 : Int) + ((4 : Int) * (bringF a 16))), .int .i64 ((4 : Int) + ((4 : Int) * (bringF b 16))), .slice A_ k c_] 28, .blk b2 [.int .i64 0, .int .i64 0, .slice none 0 0] 28] w30 := by simpa only [List.set, u8s_append] using hs30
        refine Ops.v (Yv.fld F28_2 rfl) ?_
        refine Ops.s (Step.store (vs := [.slice Ad31 (k + 1) c32]) 2 hs30 rfl rfl rfl rfl S23 (Nat.le_of_ble_eq_true rfl) rfl (fun w33 hs33 => ?_) True.intro)
        replace hs33 : HS _ [.row _ _ _ _ _ _, .row _ _ _ _ _ _, .blk _ [_, _, _] _, .blk _ [_, _, _] _] _ := hs33
        refine Ops.nil ?_
        refine k20 _ _ ?_
        refine run_region ?_
        refine Ops.v (Yv.move rfl) ?_
        refine Ops.v (Yv.add rfl rfl (by omega)) ?_
        refine Ops.v (Yv.assign rfl) ?_
        refine Ops.nil ?_
        refine ⟨(k + 1, Ad31, c32), _, ⟨((hs33.pick [1, 2, 3] [.row Ad31 (k + 1) c32 (u8s ((fitTo xs k) ++ [gi xs ((k : Int) % (m : Int))])) 5 1, .blk b10 [.int .i64 ((4 : Int) + ((4 : Int) * (bringF a 16))), .int .i64 ((4 : Int) + ((4 : Int) * (bringF b 16))), .slice Ad31 (k + 1) c32] 28, .blk b2 [.int .i64 0, .int .i64 0, .slice none 0 0] 28] (by decide) rfl).to (by rw [fitTo, fitV, hlen, if_pos h24])), rfl, by omega⟩, Sub.le ⟨rfl, rfl, rfl, rfl, rfl, lookI rfl (by omega), trivial⟩, (by show ((4 + 4 * bringF a 16) * (4 + 4 * bringF b 16)).toNat - (k + 1) < ((4 + 4 * bringF a 16) * (4 + 4 * bringF b 16)).toNat - k; omega)⟩
      · -- no
        refine run_skip ?_
        refine k22 _ _ ?_
        refine run_region ?_
        refine Ops.v (Yv.fld F28_2 rfl) ?_
        refine Ops.v (Yv.load A23 rfl (now (hs16.cell 1 rfl 2 rfl))) ?_
        refine Ops.v (Yv.move rfl) ?_
        refine Ops.s (Step.lit (ps := [(0, .int .u8 0)]) (cs := [.int .u8 0]) hs16 L23 ⟨_, Z5, rfl⟩ rfl (by decide) (by decide) (by kernel_rfl) rfl (by decide) (fun b35 w34 hs34 hb34 => ?_) True.intro (by rfl))
        replace hs34 : HS w [.row (some ⟨b35, 0, none⟩) 1 1 (u8s [0]) 5 1, .row A_ k c_ (u8s (fitTo xs k)) 5 1, .blk b10 [.int .i64 ((4 : Int) + ((4 : Int) * (bringF a 16))), .int .i64 ((4 : Int) + ((4 : Int) * (bringF b 16))), .slice A_ k c_] 28, .blk b2 [.int .i64 0, .int .i64 0, .slice none 0 0] 28] w34 := hs34
        have by37 : Bytes [0] := by intro x hx_; simp only [List.mem_cons, List.not_mem_nil, or_false] at hx_; omega
        refine Ops.s (Step.append 1 hs34 rfl rfl L23 Z5 rfl (by decide) rfl (hs34.rdRow 0 rfl) (u8s_one _) (by omega) (by decide) (fun Ad39 c40 w38 hs38 => ?_) True.intro (by rfl))
        replace hs38 : HS w [.row (some ⟨b35, 0, none⟩) 1 1 (u8s [0]) 5 1, .row Ad39 (k + 1) c40 (u8s ((fitTo xs k) ++ [0])) 5 1, .blk b10 [.int .i64 ((4 : Int) + ((4 : Int) * (bringF a 16))), .int .i64 ((4 : Int) + ((4 : Int) * (bringF b 16))), .slice A_ k c_] 28, .blk b2 [.int .i64 0, .int .i64 0, .slice none 0 0] 28] w38 := by simpa only [List.set, u8s_append] using hs38
        refine Ops.v (Yv.fld F28_2 rfl) ?_
        refine Ops.s (Step.store (vs := [.slice Ad39 (k + 1) c40]) 2 hs38 rfl rfl rfl rfl S23 (Nat.le_of_ble_eq_true rfl) rfl (fun w41 hs41 => ?_) True.intro)
        replace hs41 : HS _ [.row _ _ _ _ _ _, .row _ _ _ _ _ _, .blk _ [_, _, _] _, .blk _ [_, _, _] _] _ := hs41
        refine Ops.nil ?_
        refine k20 _ _ ?_
        refine run_region ?_
        refine Ops.v (Yv.move rfl) ?_
        refine Ops.v (Yv.add rfl rfl (by omega)) ?_
        refine Ops.v (Yv.assign rfl) ?_
        refine Ops.nil ?_
        refine ⟨(k + 1, Ad39, c40), _, ⟨((hs41.pick [1, 2, 3] [.row Ad39 (k + 1) c40 (u8s ((fitTo xs k) ++ [0])) 5 1, .blk b10 [.int .i64 ((4 : Int) + ((4 : Int) * (bringF a 16))), .int .i64 ((4 : Int) + ((4 : Int) * (bringF b 16))), .slice Ad39 (k + 1) c40] 28, .blk b2 [.int .i64 0, .int .i64 0, .slice none 0 0] 28] (by decide) rfl).to (by rw [fitTo, fitV, hlen, if_neg h24])), rfl, by omega⟩, Sub.le ⟨rfl, rfl, rfl, rfl, rfl, lookI rfl (by omega), trivial⟩, (by show ((4 + 4 * bringF a 16) * (4 + 4 * bringF b 16)).toNat - (k + 1) < ((4 + 4 * bringF a 16) * (4 + 4 * bringF b 16)).toNat - k; omega)⟩
    · -- no
      refine run_exit ?_
      have hk : k = ((4 + 4 * bringF a 16) * (4 + 4 * bringF b 16)).toNat := by omega
      refine k14 _ _ ?_
      refine run_seq fun K42 k42 => ?_
      refine run_region ?_
      refine Ops.v (Yv.loadn (cs := [.int .i64 ((4 : Int) + ((4 : Int) * (bringF a 16))), .int .i64 ((4 : Int) + ((4 : Int) * (bringF b 16))), .slice A_ k c_]) A28 S28 rfl (now (hs16.cells 1 rfl 0 3))) ?_
      refine Ops.s (Step.store (vs := [.int .i64 ((4 : Int) + ((4 : Int) * (bringF a 16))), .int .i64 ((4 : Int) + ((4 : Int) * (bringF b 16))), .slice A_ k c_]) 2 hs16 rfl rfl rfl rfl S28 (Nat.le_of_ble_eq_true rfl) rfl (fun w43 hs43 => ?_) True.intro)
      replace hs43 : HS _ [.row _ _ _ _ _ _, .blk _ [_, _, _] _, .blk _ [_, _, _] _] _ := hs43
      refine Ops.nil ?_
      refine k42 _ _ ?_
      refine run_ret ?_
      refine ⟨[.agg #[.int .i64 ((4 : Int) + ((4 : Int) * (bringF a 16))), .int .i64 ((4 : Int) + ((4 : Int) * (bringF b 16))), .slice A_ k c_]], ⟨_, _, _, rfl, rfl, run_loadn (cs := [.int .i64 ((4 : Int) + ((4 : Int) * (bringF a 16))), .int .i64 ((4 : Int) + ((4 : Int) * (bringF b 16))), .slice A_ k c_]) A28 S28 (hs43.cells 2 rfl 0 3), rfl⟩, ?_⟩
      have hz := hs43.pick [0] [.row A_ k c_ (u8s (fitTo xs k)) 5 1] (by decide) rfl
      subst hk
      exact ⟨_, _, rfl, hz⟩

theorem cells22_fun {w : World} {W H sz : Int} {qt : Bool} {V : Value} (hW : 0 ≤ W ∧ W ≤ 512) (hH : 0 ≤ H ∧ H ≤ 512) (hsz : 4 ≤ sz ∧ sz ≤ 255) : Fun Try.prog 18 [.agg #[.int .i64 W, .int .i64 H, V], .int .u8 sz, .bool qt] w fun v w' => ∃ A0 c0 A1 c1 A2 c2, v = .agg #[.int .i64 (W / 4), .int .i64 (H / 4), .slice A0 ((H / 4).toNat * (W / 4).toNat) c0, .slice A1 ((H / 4).toNat * (W / 4).toNat) c1, .slice A2 ((H / 4).toNat * (W / 4).toNat) c2] ∧ HS w [.row A0 ((H / 4).toNat * (W / 4).toNat) c0 (u8s (List.replicate ((H / 4).toNat * (W / 4).toNat) sz)) 5 1, .row A1 ((H / 4).toNat * (W / 4).toNat) c1 (i64s (idsTo (W / 4).toNat (sz / 4) ((H / 4).toNat * (W / 4).toNat))) 3 1, .row A2 ((H / 4).toNat * (W / 4).toNat) c2 (bools (List.replicate ((H / 4).toNat * (W / 4).toNat) qt)) 4 1] w' := by
  refine fun_run (m := 59) (rs := [.cell 6 37]) Try.func18 rfl rfl rfl rfl rfl ?_
  have hs0 := HS.start w
  have hsz2 : 0 ≤ sz ∧ sz ≤ 255 := by omega
  refine run_seq fun K1 k1 => ?_
  refine run_region ?_
  refine Ops.s (Step.box (cs := [.int .i64 W, .int .i64 H, V]) hs0 rfl rfl (fun b2 w3 hs3 hb3 => ?_) True.intro (by rfl))
  refine Ops.s (Step.alloc (cs := [.int .i64 0, .int .i64 0, .slice none 0 0, .slice none 0 0, .slice none 0 0]) hs3 Z37 rfl (fun b5 w6 hs6 hb6 => ?_) True.intro (by rfl))
  refine Ops.nil ?_
  refine k1 _ _ ?_
  refine run_seq fun K8 k8 => ?_
  refine run_region ?_
  refine Ops.v (Yv.fld F28_0 rfl) ?_
  refine Ops.v (Yv.load A3 rfl (now (hs6.cell 1 rfl 0 rfl))) ?_
  refine Ops.v (Yv.quo rfl rfl (by omega) (by omega) (by omega)) ?_
  refine Ops.v (Yv.fld F28_1 rfl) ?_
  refine Ops.v (Yv.load A3 rfl (now (hs6.cell 1 rfl 1 rfl))) ?_
  refine Ops.v (Yv.quo rfl rfl (by omega) (by omega) (by omega)) ?_
  refine Ops.v (Yv.buildS (cs := #[.int .i64 (W / 4), .int .i64 (H / 4), .slice none 0 0, .slice none 0 0, .slice none 0 0]) T37 rfl rfl) ?_
  refine Ops.s (Step.alloc (cs := [.int .i64 0, .int .i64 0, .slice none 0 0, .slice none 0 0, .slice none 0 0]) hs6 Z37 rfl (fun b9 w10 hs10 hb10 => ?_) True.intro (by rfl))
  refine Ops.s (Step.store (vs := [.int .i64 (W / 4), .int .i64 (H / 4), .slice none 0 0, .slice none 0 0, .slice none 0 0]) 0 hs10 rfl rfl rfl rfl S37 (Nat.le_of_ble_eq_true rfl) rfl (fun w12 hs12 => ?_) True.intro)
  replace hs12 : HS _ [.blk _ [_, _, _, _, _] _, .blk _ [_, _, _, _, _] _, .blk _ [_, _, _] _] _ := hs12
  refine Ops.nil ?_
  refine k8 _ _ ?_
  refine run_seq fun K13 k13 => ?_
  refine run_seq fun K14 k14 => ?_
  refine run_region ?_
  refine Ops.v (Yv.assign rfl) ?_
  refine Ops.nil ?_
  refine k14 _ _ ?_
  refine run_block ?_
  refine Run.sub [(0, _), (1, _), (2, _), (3, _), (6, _), (7, _), (8, _)] ⟨rfl, rfl, rfl, rfl, rfl, rfl, rfl, trivial⟩ ?_
  refine run_loop (σ := Nat × (Option Addr × Nat) × (Option Addr × Nat) × (Option Addr × Nat)) (fun (y, (P0, cP0), (P1, cP1), (P2, cP2)) e_ w_ => HS w [.row P0 (y * (W / 4).toNat) cP0 (u8s (List.replicate (y * (W / 4).toNat) sz)) 5 1, .row P1 (y * (W / 4).toNat) cP1 (i64s (idsTo (W / 4).toNat (sz / 4) (y * (W / 4).toNat))) 3 1, .row P2 (y * (W / 4).toNat) cP2 (bools (List.replicate (y * (W / 4).toNat) qt)) 4 1, .blk b9 [.int .i64 (W / 4), .int .i64 (H / 4), .slice P0 (y * (W / 4).toNat) cP0, .slice P1 (y * (W / 4).toNat) cP1, .slice P2 (y * (W / 4).toNat) cP2] 37, .blk b5 [.int .i64 0, .int .i64 0, .slice none 0 0, .slice none 0 0, .slice none 0 0] 37, .blk b2 [.int .i64 W, .int .i64 H, V] 28] w_ ∧ e_ = [(0, .agg #[.int .i64 W, .int .i64 H, V]), (1, .int .u8 sz), (2, .bool qt), (3, .pointer (some ⟨b2, 0, none⟩)), (6, .pointer (some ⟨b5, 0, none⟩)), (7, .pointer (some ⟨b9, 0, none⟩)), (8, .int .i64 (y : Int))] ∧ (y : Int) ≤ H / 4)
    (fun (y, (P0, cP0), (P1, cP1), (P2, cP2)) => (H / 4).toNat - y) (0, (none, 0), (none, 0), (none, 0)) ?_ ?_
  · -- at the start
    refine ⟨(((hs12.nilRow 4 1).nilRow 3 1).nilRow 5 1).to (by rw [Nat.zero_mul]; rfl), rfl, by omega⟩
  · -- a round
    rintro ⟨y, ⟨P0, cP0⟩, ⟨P1, cP1⟩, ⟨P2, cP2⟩⟩ _ w15 ⟨hs15, rfl, f1⟩
    refine run_seq fun K16 k16 => ?_
    refine run_seq fun K17 k17 => ?_
    refine run_region ?_
    refine Ops.v (Yv.move rfl) ?_
    refine Ops.v (Yv.fld F37_1 rfl) ?_
    refine Ops.v (Yv.load A3 rfl (now (hs15.cell 3 rfl 1 rfl))) ?_
    refine Ops.v (Yv.lt rfl rfl) ?_
    refine Ops.nil ?_
    refine k17 _ _ ?_
    refine run_ifp rfl (fun h18 => ?_) (fun h18 => ?_)
    · -- yes (y : Int) < (H / 4)
      refine run_skip ?_
      refine k16 _ _ ?_
      refine run_seq fun K19 k19 => ?_
      refine run_block ?_
      refine run_seq fun K20 k20 => ?_
      refine run_region ?_
      refine Ops.v (Yv.assign rfl) ?_
      refine Ops.nil ?_
      refine k20 _ _ ?_
      refine run_block ?_
      have hyM : y * (W / 4).toNat ≤ 128 * 128 := Nat.mul_le_mul (by omega) (by omega)
      have hdy := div_bd (a := (y : Int)) (b := sz / 4) (by omega) (by omega)
      refine Run.sub [(0, _), (1, _), (2, _), (3, _), (6, _), (7, _), (8, _), (9, _), (21, _)] ⟨rfl, rfl, rfl, rfl, rfl, rfl, rfl, rfl, rfl, trivial⟩ ?_
      refine run_loop (σ := Nat × (Option Addr × Nat) × (Option Addr × Nat) × (Option Addr × Nat)) (fun (x, (B0, cB0), (B1, cB1), (B2, cB2)) e_ w_ => HS w [.row B0 (y * (W / 4).toNat + x) cB0 (u8s (List.replicate (y * (W / 4).toNat + x) sz)) 5 1, .row B1 (y * (W / 4).toNat + x) cB1 (i64s (idsTo (W / 4).toNat (sz / 4) (y * (W / 4).toNat + x))) 3 1, .row B2 (y * (W / 4).toNat + x) cB2 (bools (List.replicate (y * (W / 4).toNat + x) qt)) 4 1, .blk b9 [.int .i64 (W / 4), .int .i64 (H / 4), .slice B0 (y * (W / 4).toNat + x) cB0, .slice B1 (y * (W / 4).toNat + x) cB1, .slice B2 (y * (W / 4).toNat + x) cB2] 37, .blk b5 [.int .i64 0, .int .i64 0, .slice none 0 0, .slice none 0 0, .slice none 0 0] 37, .blk b2 [.int .i64 W, .int .i64 H, V] 28] w_ ∧ e_ = [(0, .agg #[.int .i64 W, .int .i64 H, V]), (1, .int .u8 sz), (2, .bool qt), (3, .pointer (some ⟨b2, 0, none⟩)), (6, .pointer (some ⟨b5, 0, none⟩)), (7, .pointer (some ⟨b9, 0, none⟩)), (8, .int .i64 (y : Int)), (9, .int .i64 (x : Int)), (21, .bool (decide ((y : Int) < (H / 4))))] ∧ (x : Int) ≤ W / 4)
        (fun (x, (B0, cB0), (B1, cB1), (B2, cB2)) => (W / 4).toNat - x) (0, (P0, cP0), (P1, cP1), (P2, cP2)) ?_ ?_
      · -- at the start
        refine ⟨hs15, rfl, by omega⟩
      · -- a round
        rintro ⟨x, ⟨B0, cB0⟩, ⟨B1, cB1⟩, ⟨B2, cB2⟩⟩ _ w21 ⟨hs21, rfl, f2⟩
        have hdx := div_bd (a := (x : Int)) (b := sz / 4) (by omega) (by omega)
        refine run_seq fun K22 k22 => ?_
        refine run_seq fun K23 k23 => ?_
        refine run_region ?_
        refine Ops.v (Yv.move rfl) ?_
        refine Ops.v (Yv.fld F37_0 rfl) ?_
        refine Ops.v (Yv.load A3 rfl (now (hs21.cell 3 rfl 0 rfl))) ?_
        refine Ops.v (Yv.lt rfl rfl) ?_
        refine Ops.nil ?_
        refine k23 _ _ ?_
        refine run_ifp rfl (fun h24 => ?_) (fun h24 => ?_)
        · -- yes (x : Int) < (W / 4)
          refine run_skip ?_
          refine k22 _ _ ?_
          refine run_seq fun K25 k25 => ?_
          refine run_block ?_
          refine run_seq fun K26 k26 => ?_
          refine run_region ?_
          refine Ops.v (Yv.move rfl) ?_
          refine Ops.v (Yv.toInt U3 V5 rfl (by omega)) ?_
          refine Ops.v (Yv.quo rfl rfl (by omega) (by omega) (by omega)) ?_
          refine Ops.v (Yv.assign rfl) ?_
          refine Ops.nil ?_
          refine k26 _ _ ?_
          refine run_seq fun K27 k27 => ?_
          refine run_region ?_
          refine Ops.v (Yv.fld F37_2 rfl) ?_
          refine Ops.v (Yv.load A23 rfl (now (hs21.cell 3 rfl 2 rfl))) ?_
          refine Ops.v (Yv.move rfl) ?_
          refine Ops.s (Step.lit (ps := [(0, .int .u8 sz)]) (cs := [.int .u8 sz]) hs21 L23 ⟨_, Z5, rfl⟩ rfl (by decide) (by decide) (by kernel_rfl) rfl (by decide) (fun b29 w28 hs28 hb28 => ?_) True.intro (by rfl))
          replace hs28 : HS w [.row (some ⟨b29, 0, none⟩) 1 1 (u8s [sz]) 5 1, .row B0 (y * (W / 4).toNat + x) cB0 (u8s (List.replicate (y * (W / 4).toNat + x) sz)) 5 1, .row B1 (y * (W / 4).toNat + x) cB1 (i64s (idsTo (W / 4).toNat (sz / 4) (y * (W / 4).toNat + x))) 3 1, .row B2 (y * (W / 4).toNat + x) cB2 (bools (List.replicate (y * (W / 4).toNat + x) qt)) 4 1, .blk b9 [.int .i64 (W / 4), .int .i64 (H / 4), .slice B0 (y * (W / 4).toNat + x) cB0, .slice B1 (y * (W / 4).toNat + x) cB1, .slice B2 (y * (W / 4).toNat + x) cB2] 37, .blk b5 [.int .i64 0, .int .i64 0, .slice none 0 0, .slice none 0 0, .slice none 0 0] 37, .blk b2 [.int .i64 W, .int .i64 H, V] 28] w28 := hs28
          have by31 : Bytes [sz] := by intro x hx_; simp only [List.mem_cons, List.not_mem_nil, or_false] at hx_; omega
          refine Ops.s (Step.append 1 hs28 rfl rfl L23 Z5 rfl (by decide) rfl (hs28.rdRow 0 rfl) (u8s_one _) (by omega) (by decide) (fun Ad33 c34 w32 hs32 => ?_) True.intro (by rfl))
          replace hs32 : HS w [.row (some ⟨b29, 0, none⟩) 1 1 (u8s [sz]) 5 1, .row Ad33 (y * (W / 4).toNat + x + 1) c34 (u8s ((List.replicate (y * (W / 4).toNat + x) sz) ++ [sz])) 5 1, .row B1 (y * (W / 4).toNat + x) cB1 (i64s (idsTo (W / 4).toNat (sz / 4) (y * (W / 4).toNat + x))) 3 1, .row B2 (y * (W / 4).toNat + x) cB2 (bools (List.replicate (y * (W / 4).toNat + x) qt)) 4 1, .blk b9 [.int .i64 (W / 4), .int .i64 (H / 4), .slice B0 (y * (W / 4).toNat + x) cB0, .slice B1 (y * (W / 4).toNat + x) cB1, .slice B2 (y * (W / 4).toNat + x) cB2] 37, .blk b5 [.int .i64 0, .int .i64 0, .slice none 0 0, .slice none 0 0, .slice none 0 0] 37, .blk b2 [.int .i64 W, .int .i64 H, V] 28] w32 := by simpa only [List.set, u8s_append] using hs32
          refine Ops.v (Yv.fld F37_2 rfl) ?_
          refine Ops.s (Step.store (vs := [.slice Ad33 (y * (W / 4).toNat + x + 1) c34]) 4 hs32 rfl rfl rfl rfl S23 (Nat.le_of_ble_eq_true rfl) rfl (fun w35 hs35 => ?_) True.intro)
          replace hs35 : HS _ [.row _ _ _ _ _ _, .row _ _ _ _ _ _, .row _ _ _ _ _ _, .row _ _ _ _ _ _, .blk _ [_, _, _, _, _] _, .blk _ [_, _, _, _, _] _, .blk _ [_, _, _] _] _ := hs35
          refine Ops.nil ?_
          refine k27 _ _ ?_
          refine run_seq fun K36 k36 => ?_
          refine run_drawn [11, 13] (fun x => Below (w35.drew).heap.size (w35.drew) x) ?_ Tf.mixed (by kernel_rfl) (fun _ _ _ h => h)
          have hs37 := hs35.drew
          have hS38 := Below.refl (w35.drew).heap.size (w35.drew)
          refine Drw.a 0 rfl (by kernel_rfl) (Yv.fld F37_3 rfl) ?_
          refine Drw.l 1 rfl (by kernel_rfl) hS38 (Yv.load A34 rfl (fun _ hq_ => ((hs37.grow hq_).cell 4 rfl 3 rfl))) ?_
          refine Drw.a 2 rfl (by kernel_rfl) (Yv.move rfl) ?_
          refine Drw.a 3 rfl (by kernel_rfl) (Yv.move rfl) ?_
          refine Drw.a 4 rfl (by kernel_rfl) (Yv.quo rfl rfl (by omega) (by omega) (by omega)) ?_
          refine Drw.a 5 rfl (by kernel_rfl) (Yv.mul rfl rfl (by omega)) ?_
          refine Drw.a 6 rfl (by kernel_rfl) (Yv.move rfl) ?_
          refine Drw.a 7 rfl (by kernel_rfl) (Yv.move rfl) ?_
          refine Drw.a 8 rfl (by kernel_rfl) (Yv.quo rfl rfl (by omega) (by omega) (by omega)) ?_
          refine Drw.a 9 rfl (by kernel_rfl) (Yv.add rfl rfl (by omega)) ?_
          refine Drw.one 10 rfl (by kernel_rfl) (Step.lit (ps := [(0, .int .i64 ((((y : Int) / (sz / 4)) * 1000) + ((x : Int) / (sz / 4))))]) (cs := [.int .i64 ((((y : Int) / (sz / 4)) * 1000) + ((x : Int) / (sz / 4)))]) hs37 L34 ⟨_, Z3, rfl⟩ rfl (by decide) (by decide) (by kernel_rfl) rfl (by decide) (fun b40 w39 hs39 hb39 => ?_) True.intro (by rfl))
          have hS42 := hS38.trans (hb39.mono (Nat.le_trans (Nat.le_refl _) hS38.size))
          refine ⟨fun _ _ => hS42, ?_⟩
          replace hs39 : HS w [.row (some ⟨b40, 0, none⟩) 1 1 (i64s [(((y : Int) / (sz / 4)) * 1000) + ((x : Int) / (sz / 4))]) 3 1, .row (some ⟨b29, 0, none⟩) 1 1 (u8s [sz]) 5 1, .row Ad33 (y * (W / 4).toNat + x + 1) c34 (u8s ((List.replicate (y * (W / 4).toNat + x) sz) ++ [sz])) 5 1, .row B1 (y * (W / 4).toNat + x) cB1 (i64s (idsTo (W / 4).toNat (sz / 4) (y * (W / 4).toNat + x))) 3 1, .row B2 (y * (W / 4).toNat + x) cB2 (bools (List.replicate (y * (W / 4).toNat + x) qt)) 4 1, .blk b9 [.int .i64 (W / 4), .int .i64 (H / 4), .slice Ad33 (y * (W / 4).toNat + x + 1) c34, .slice B1 (y * (W / 4).toNat + x) cB1, .slice B2 (y * (W / 4).toNat + x) cB2] 37, .blk b5 [.int .i64 0, .int .i64 0, .slice none 0 0, .slice none 0 0, .slice none 0 0] 37, .blk b2 [.int .i64 W, .int .i64 H, V] 28] w39 := hs39
          refine Drw.one 11 rfl (by kernel_rfl) (Step.append 3 hs39 rfl rfl L34 Z3 rfl (by decide) rfl (hs39.rdRow 0 rfl) (i64s_one _) (by omega) (by decide) (fun Ad44 c45 w43 hs43 => ?_) True.intro (by rfl))
          refine ⟨fun h => absurd h (by decide), ?_⟩
          replace hs43 : HS w [.row (some ⟨b40, 0, none⟩) 1 1 (i64s [(((y : Int) / (sz / 4)) * 1000) + ((x : Int) / (sz / 4))]) 3 1, .row (some ⟨b29, 0, none⟩) 1 1 (u8s [sz]) 5 1, .row Ad33 (y * (W / 4).toNat + x + 1) c34 (u8s ((List.replicate (y * (W / 4).toNat + x) sz) ++ [sz])) 5 1, .row Ad44 (y * (W / 4).toNat + x + 1) c45 (i64s ((idsTo (W / 4).toNat (sz / 4) (y * (W / 4).toNat + x)) ++ [(((y : Int) / (sz / 4)) * 1000) + ((x : Int) / (sz / 4))])) 3 1, .row B2 (y * (W / 4).toNat + x) cB2 (bools (List.replicate (y * (W / 4).toNat + x) qt)) 4 1, .blk b9 [.int .i64 (W / 4), .int .i64 (H / 4), .slice Ad33 (y * (W / 4).toNat + x + 1) c34, .slice B1 (y * (W / 4).toNat + x) cB1, .slice B2 (y * (W / 4).toNat + x) cB2] 37, .blk b5 [.int .i64 0, .int .i64 0, .slice none 0 0, .slice none 0 0, .slice none 0 0] 37, .blk b2 [.int .i64 W, .int .i64 H, V] 28] w43 := by simpa only [List.set, i64s_append] using hs43
          refine Drw.a 12 rfl (by kernel_rfl) (Yv.fld F37_3 rfl) ?_
          refine Drw.one 13 rfl (by kernel_rfl) (Step.store (vs := [.slice Ad44 (y * (W / 4).toNat + x + 1) c45]) 5 hs43 rfl rfl rfl rfl S34 (Nat.le_of_ble_eq_true rfl) rfl (fun w46 hs46 => ?_) True.intro)
          refine ⟨fun h => absurd h (by decide), ?_⟩
          replace hs46 : HS _ [.row _ _ _ _ _ _, .row _ _ _ _ _ _, .row _ _ _ _ _ _, .row _ _ _ _ _ _, .row _ _ _ _ _ _, .blk _ [_, _, _, _, _] _, .blk _ [_, _, _, _, _] _, .blk _ [_, _, _] _] _ := hs46
          refine Drw.done ?_ (by kernel_rfl)
          refine k36 _ _ ?_
          refine run_region ?_
          refine Ops.v (Yv.fld F37_4 rfl) ?_
          refine Ops.v (Yv.load A35 rfl (now (hs46.cell 5 rfl 4 rfl))) ?_
          refine Ops.v (Yv.move rfl) ?_
          refine Ops.s (Step.lit (ps := [(0, .bool qt)]) (cs := [.bool qt]) hs46 L35 ⟨_, Z4, rfl⟩ rfl (by decide) (by decide) (by kernel_rfl) rfl (by decide) (fun b48 w47 hs47 hb47 => ?_) True.intro (by rfl))
          replace hs47 : HS w [.row (some ⟨b48, 0, none⟩) 1 1 (bools [qt]) 4 1, .row (some ⟨b40, 0, none⟩) 1 1 (i64s [(((y : Int) / (sz / 4)) * 1000) + ((x : Int) / (sz / 4))]) 3 1, .row (some ⟨b29, 0, none⟩) 1 1 (u8s [sz]) 5 1, .row Ad33 (y * (W / 4).toNat + x + 1) c34 (u8s ((List.replicate (y * (W / 4).toNat + x) sz) ++ [sz])) 5 1, .row Ad44 (y * (W / 4).toNat + x + 1) c45 (i64s ((idsTo (W / 4).toNat (sz / 4) (y * (W / 4).toNat + x)) ++ [(((y : Int) / (sz / 4)) * 1000) + ((x : Int) / (sz / 4))])) 3 1, .row B2 (y * (W / 4).toNat + x) cB2 (bools (List.replicate (y * (W / 4).toNat + x) qt)) 4 1, .blk b9 [.int .i64 (W / 4), .int .i64 (H / 4), .slice Ad33 (y * (W / 4).toNat + x + 1) c34, .slice Ad44 (y * (W / 4).toNat + x + 1) c45, .slice B2 (y * (W / 4).toNat + x) cB2] 37, .blk b5 [.int .i64 0, .int .i64 0, .slice none 0 0, .slice none 0 0, .slice none 0 0] 37, .blk b2 [.int .i64 W, .int .i64 H, V] 28] w47 := hs47
          refine Ops.s (Step.append 5 hs47 rfl rfl L35 Z4 rfl (by decide) rfl (hs47.rdRow 0 rfl) (bools_one _) (by omega) (by decide) (fun Ad51 c52 w50 hs50 => ?_) True.intro (by rfl))
          replace hs50 : HS w [.row (some ⟨b48, 0, none⟩) 1 1 (bools [qt]) 4 1, .row (some ⟨b40, 0, none⟩) 1 1 (i64s [(((y : Int) / (sz / 4)) * 1000) + ((x : Int) / (sz / 4))]) 3 1, .row (some ⟨b29, 0, none⟩) 1 1 (u8s [sz]) 5 1, .row Ad33 (y * (W / 4).toNat + x + 1) c34 (u8s ((List.replicate (y * (W / 4).toNat + x) sz) ++ [sz])) 5 1, .row Ad44 (y * (W / 4).toNat + x + 1) c45 (i64s ((idsTo (W / 4).toNat (sz / 4) (y * (W / 4).toNat + x)) ++ [(((y : Int) / (sz / 4)) * 1000) + ((x : Int) / (sz / 4))])) 3 1, .row Ad51 (y * (W / 4).toNat + x + 1) c52 (bools ((List.replicate (y * (W / 4).toNat + x) qt) ++ [qt])) 4 1, .blk b9 [.int .i64 (W / 4), .int .i64 (H / 4), .slice Ad33 (y * (W / 4).toNat + x + 1) c34, .slice Ad44 (y * (W / 4).toNat + x + 1) c45, .slice B2 (y * (W / 4).toNat + x) cB2] 37, .blk b5 [.int .i64 0, .int .i64 0, .slice none 0 0, .slice none 0 0, .slice none 0 0] 37, .blk b2 [.int .i64 W, .int .i64 H, V] 28] w50 := by simpa only [List.set, bools_append] using hs50
          refine Ops.v (Yv.fld F37_4 rfl) ?_
          refine Ops.s (Step.store (vs := [.slice Ad51 (y * (W / 4).toNat + x + 1) c52]) 6 hs50 rfl rfl rfl rfl S35 (Nat.le_of_ble_eq_true rfl) rfl (fun w53 hs53 => ?_) True.intro)
          replace hs53 : HS _ [.row _ _ _ _ _ _, .row _ _ _ _ _ _, .row _ _ _ _ _ _, .row _ _ _ _ _ _, .row _ _ _ _ _ _, .row _ _ _ _ _ _, .blk _ [_, _, _, _, _] _, .blk _ [_, _, _, _, _] _, .blk _ [_, _, _] _] _ := hs53
          refine Ops.nil ?_
          refine k25 _ _ ?_
          refine run_region ?_
          refine Ops.v (Yv.move rfl) ?_
          refine Ops.v (Yv.add rfl rfl (by omega)) ?_
          refine Ops.v (Yv.assign rfl) ?_
          refine Ops.nil ?_
          refine ⟨(x + 1, (Ad33, c34), (Ad44, c45), (Ad51, c52)), _, ⟨((hs53.pick [3, 4, 5, 6, 7, 8] [.row Ad33 (y * (W / 4).toNat + x + 1) c34 (u8s ((List.replicate (y * (W / 4).toNat + x) sz) ++ [sz])) 5 1, .row Ad44 (y * (W / 4).toNat + x + 1) c45 (i64s ((idsTo (W / 4).toNat (sz / 4) (y * (W / 4).toNat + x)) ++ [(((y : Int) / (sz / 4)) * 1000) + ((x : Int) / (sz / 4))])) 3 1, .row Ad51 (y * (W / 4).toNat + x + 1) c52 (bools ((List.replicate (y * (W / 4).toNat + x) qt) ++ [qt])) 4 1, .blk b9 [.int .i64 (W / 4), .int .i64 (H / 4), .slice Ad33 (y * (W / 4).toNat + x + 1) c34, .slice Ad44 (y * (W / 4).toNat + x + 1) c45, .slice Ad51 (y * (W / 4).toNat + x + 1) c52] 37, .blk b5 [.int .i64 0, .int .i64 0, .slice none 0 0, .slice none 0 0, .slice none 0 0] 37, .blk b2 [.int .i64 W, .int .i64 H, V] 28] (by decide) rfl).to (by rw [rep_next, rep_next, ids_next (by omega)]; rfl)), rfl, by omega⟩, Sub.le ⟨rfl, rfl, rfl, rfl, rfl, rfl, rfl, lookI rfl (by omega), rfl, trivial⟩, (by show (W / 4).toNat - (x + 1) < (W / 4).toNat - x; omega)⟩
        · -- no
          refine run_exit ?_
          have hx : x = (W / 4).toNat := by omega
          refine k19 _ _ ?_
          refine run_region ?_
          refine Ops.v (Yv.move rfl) ?_
          refine Ops.v (Yv.add rfl rfl (by omega)) ?_
          refine Ops.v (Yv.assign rfl) ?_
          refine Ops.nil ?_
          refine ⟨(y + 1, (B0, cB0), (B1, cB1), (B2, cB2)), _, ⟨(hs21.to (by subst hx; rw [Nat.succ_mul])), rfl, by omega⟩, Sub.le ⟨rfl, rfl, rfl, rfl, rfl, rfl, lookI rfl (by omega), trivial⟩, (by show (H / 4).toNat - (y + 1) < (H / 4).toNat - y; omega)⟩
    · -- no
      refine run_exit ?_
      have hy : y = (H / 4).toNat := by omega
      refine k13 _ _ ?_
      refine run_seq fun K54 k54 => ?_
      refine run_region ?_
      refine Ops.v (Yv.loadn (cs := [.int .i64 (W / 4), .int .i64 (H / 4), .slice P0 (y * (W / 4).toNat) cP0, .slice P1 (y * (W / 4).toNat) cP1, .slice P2 (y * (W / 4).toNat) cP2]) A37 S37 rfl (now (hs15.cells 3 rfl 0 5))) ?_
      refine Ops.s (Step.store (vs := [.int .i64 (W / 4), .int .i64 (H / 4), .slice P0 (y * (W / 4).toNat) cP0, .slice P1 (y * (W / 4).toNat) cP1, .slice P2 (y * (W / 4).toNat) cP2]) 4 hs15 rfl rfl rfl rfl S37 (Nat.le_of_ble_eq_true rfl) rfl (fun w55 hs55 => ?_) True.intro)
      replace hs55 : HS _ [.row _ _ _ _ _ _, .row _ _ _ _ _ _, .row _ _ _ _ _ _, .blk _ [_, _, _, _, _] _, .blk _ [_, _, _, _, _] _, .blk _ [_, _, _] _] _ := hs55
      refine Ops.nil ?_
      refine k54 _ _ ?_
      refine run_ret ?_
      refine ⟨[.agg #[.int .i64 (W / 4), .int .i64 (H / 4), .slice P0 (y * (W / 4).toNat) cP0, .slice P1 (y * (W / 4).toNat) cP1, .slice P2 (y * (W / 4).toNat) cP2]], ⟨_, _, _, rfl, rfl, run_loadn (cs := [.int .i64 (W / 4), .int .i64 (H / 4), .slice P0 (y * (W / 4).toNat) cP0, .slice P1 (y * (W / 4).toNat) cP1, .slice P2 (y * (W / 4).toNat) cP2]) A37 S37 (hs55.cells 4 rfl 0 5), rfl⟩, ?_⟩
      have hz := hs55.pick [0, 1, 2] [.row P0 (y * (W / 4).toNat) cP0 (u8s (List.replicate (y * (W / 4).toNat) sz)) 5 1, .row P1 (y * (W / 4).toNat) cP1 (i64s (idsTo (W / 4).toNat (sz / 4) (y * (W / 4).toNat))) 3 1, .row P2 (y * (W / 4).toNat) cP2 (bools (List.replicate (y * (W / 4).toNat) qt)) 4 1] (by decide) rfl
      subst hy
      exact ⟨_, _, _, _, _, _, rfl, hz⟩

theorem fit22_fun2 {w : World} {a b : Int} {A : Option Addr} {m c : Nat} {xs : List Int} (hr : Rd w A m 1 (u8s xs)) (hx : Bytes xs) : Fun Try.prog 15 [.int .i64 a, .int .i64 b, .slice A m c] w fun v w' => ∃ W H A' c', (4 ≤ W ∧ W ≤ 64 ∧ W % 4 = 0) ∧ (4 ≤ H ∧ H ≤ 64 ∧ H % 4 = 0) ∧ v = .agg #[.int .i64 W, .int .i64 H, .slice A' (W * H).toNat c'] ∧ HS w [.row A' (W * H).toNat c' (u8s (fitTo xs (W * H).toNat)) 5 1] w' :=
  (fit22_fun hr hx).mono fun v w' ⟨A', c', hv, hs⟩ => by
    have h1 := bringF_bd (i := a) (n := 16) (by decide)
    have h2 := bringF_bd (i := b) (n := 16) (by decide)
    exact ⟨_, _, A', c', ⟨by omega, by omega, by omega⟩, ⟨by omega, by omega, by omega⟩, hv, hs⟩

end Go.Proofs.Zed
