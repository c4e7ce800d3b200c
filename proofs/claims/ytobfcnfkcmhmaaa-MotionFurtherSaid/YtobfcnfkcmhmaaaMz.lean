/- The walk of may (chapter 15): a move that may be. -/
import Derived.Test.YtobfcnfkcmhmaaaMy
import Derived.Test.YtobfcnfkcmhmaaaMk
set_option linter.unusedVariables false
set_option linter.unusedSimpArgs false
namespace Go.Proofs.Zed
open Go Go.RowKit Tf
attribute [local irreducible] Try.prog

theorem may_fun0 {w : World} {n X Y bw bh vx vy kd : Int} : Fun Try.prog 29 [.agg #[.int .i64 n, .int .i64 X, .int .i64 Y, .int .i64 bw, .int .i64 bh, .int .i64 vx, .int .i64 vy, .int .i64 kd]] w fun v w' => v = .agg #[.int .i64 (bringF n 3), .int .i64 (bringF X 60), .int .i64 (bringF Y 60), .int .i64 (4 + bringF bw 29), .int .i64 (4 + bringF bh 29), .int .i64 (bringF vx 8191 - 4095), .int .i64 (bringF vy 8191 - 4095), .int .i64 (bringF kd 3)] ∧ HS w [] w' := by
  refine fun_run (m := 44) (rs := [.cell 2 33]) Try.func29 rfl rfl rfl rfl rfl ?_
  have hs0 := HS.start w
  refine run_seq fun K1 k1 => ?_
  refine run_region ?_
  refine Ops.s (Step.box (cs := [.int .i64 n, .int .i64 X, .int .i64 Y, .int .i64 bw, .int .i64 bh, .int .i64 vx, .int .i64 vy, .int .i64 kd]) hs0 rfl rfl (fun b2 w3 hs3 hb3 => ?_) True.intro (by rfl))
  refine Ops.s (Step.alloc (cs := [.int .i64 0, .int .i64 0, .int .i64 0, .int .i64 0, .int .i64 0, .int .i64 0, .int .i64 0, .int .i64 0]) hs3 Z33 rfl (fun b5 w6 hs6 hb6 => ?_) True.intro (by rfl))
  refine Ops.nil ?_
  refine k1 _ _ ?_
  refine run_seq fun K8 k8 => ?_
  refine Run.cut (fun e_ w_ => ∃ b15, HS w [.blk b15 [.int .i64 (bringF n 3), .int .i64 0, .int .i64 0, .int .i64 0, .int .i64 0, .int .i64 0, .int .i64 0, .int .i64 (bringF kd 3)] 33, .blk b5 [.int .i64 0, .int .i64 0, .int .i64 0, .int .i64 0, .int .i64 0, .int .i64 0, .int .i64 0, .int .i64 0] 33, .blk b2 [.int .i64 n, .int .i64 X, .int .i64 Y, .int .i64 bw, .int .i64 bh, .int .i64 vx, .int .i64 vy, .int .i64 kd] 33] w_ ∧ Le [(0, .agg #[.int .i64 n, .int .i64 X, .int .i64 Y, .int .i64 bw, .int .i64 bh, .int .i64 vx, .int .i64 vy, .int .i64 kd]), (1, .pointer (some ⟨b2, 0, none⟩)), (2, .pointer (some ⟨b5, 0, none⟩)), (3, .pointer (some ⟨b15, 0, none⟩))] e_) ?_ ?_
  · -- region 1: its ways meet again
    refine run_drawn [8] (fun x => Below (w6.drew).heap.size (w6.drew) x) ?_ Tf.mixed (by kernel_rfl) (fun _ _ _ h => h)
    have hs9 := hs6.drew
    have hS10 := Below.refl (w6.drew).heap.size (w6.drew)
    refine Drw.a 0 rfl (by kernel_rfl) (Yv.fld F33_0 rfl) ?_
    refine Drw.l 1 rfl (by kernel_rfl) hS10 (Yv.load A3 rfl (fun _ hq_ => ((hs9.grow hq_).cell 1 rfl 0 rfl))) ?_
    refine Drw.a 3 rfl (by kernel_rfl) (Yv.fld F33_3 rfl) ?_
    refine Drw.l 4 rfl (by kernel_rfl) hS10 (Yv.load A3 rfl (fun _ hq_ => ((hs9.grow hq_).cell 1 rfl 7 rfl))) ?_
    refine Drw.all [2, 7] ?_ (by kernel_rfl) rfl
    intro i hi
    simp only [List.mem_cons, List.not_mem_nil, or_false] at hi
    rcases hi with rfl | rfl
    · -- operation 2 first
      refine ⟨_, _, _, _, _, _, rfl, ?_⟩
      refine Step.call rfl rfl (bring_fun (by omega)) (?_) True.intro (by rfl)
      rintro _ _ ⟨rfl, rfl⟩
      refine ⟨fun _ h => h, ?_⟩
      have g11 := bringF_bd (i := n) (n := 3) (by omega)
      refine Drw.all [5, 7] ?_ (by kernel_rfl) rfl
      intro i hi
      simp only [List.mem_cons, List.not_mem_nil, or_false] at hi
      rcases hi with rfl | rfl
      · -- operation 5 first
        refine ⟨_, _, _, _, _, _, rfl, ?_⟩
        refine Step.call rfl rfl (bring_fun (by omega)) (?_) True.intro (by rfl)
        rintro _ _ ⟨rfl, rfl⟩
        refine ⟨fun _ h => h, ?_⟩
        have g13 := bringF_bd (i := kd) (n := 3) (by omega)
        refine Drw.a 6 rfl (by kernel_rfl) (Yv.buildS (cs := #[.int .i64 (bringF n 3), .int .i64 0, .int .i64 0, .int .i64 0, .int .i64 0, .int .i64 0, .int .i64 0, .int .i64 (bringF kd 3)]) T33 rfl rfl) ?_
        refine Drw.one 7 rfl (by kernel_rfl) (Step.alloc (cs := [.int .i64 0, .int .i64 0, .int .i64 0, .int .i64 0, .int .i64 0, .int .i64 0, .int .i64 0, .int .i64 0]) hs9 Z33 rfl (fun b15 w16 hs16 hb16 => ?_) True.intro (by rfl))
        have hS18 := hS10.trans (hb16.mono (Nat.le_trans (Nat.le_refl _) hS10.size))
        refine ⟨fun _ _ => hS18, ?_⟩
        refine Drw.one 8 rfl (by kernel_rfl) (Step.store (vs := [.int .i64 (bringF n 3), .int .i64 0, .int .i64 0, .int .i64 0, .int .i64 0, .int .i64 0, .int .i64 0, .int .i64 (bringF kd 3)]) 0 hs16 rfl rfl rfl rfl S33 (Nat.le_of_ble_eq_true rfl) rfl (fun w19 hs19 => ?_) True.intro)
        refine ⟨fun h => absurd h (by decide), ?_⟩
        replace hs19 : HS _ [.blk _ [_, _, _, _, _, _, _, _] _, .blk _ [_, _, _, _, _, _, _, _] _, .blk _ [_, _, _, _, _, _, _, _] _] _ := hs19
        refine Drw.done ?_ (by kernel_rfl)
        refine ⟨b15, hs19.pick [0, 1, 2] [.blk b15 [.int .i64 (bringF n 3), .int .i64 0, .int .i64 0, .int .i64 0, .int .i64 0, .int .i64 0, .int .i64 0, .int .i64 (bringF kd 3)] 33, .blk b5 [.int .i64 0, .int .i64 0, .int .i64 0, .int .i64 0, .int .i64 0, .int .i64 0, .int .i64 0, .int .i64 0] 33, .blk b2 [.int .i64 n, .int .i64 X, .int .i64 Y, .int .i64 bw, .int .i64 bh, .int .i64 vx, .int .i64 vy, .int .i64 kd] 33] (by decide) rfl, Sub.le ⟨rfl, rfl, rfl, rfl, trivial⟩⟩
      · -- operation 7 first
        refine ⟨_, _, _, _, _, _, rfl, ?_⟩
        refine Step.alloc (cs := [.int .i64 0, .int .i64 0, .int .i64 0, .int .i64 0, .int .i64 0, .int .i64 0, .int .i64 0, .int .i64 0]) hs9 Z33 rfl (fun b20 w21 hs21 hb21 => ?_) True.intro (by rfl)
        have hS23 := hS10.trans (hb21.mono (Nat.le_trans (Nat.le_refl _) hS10.size))
        refine ⟨fun _ _ => hS23, ?_⟩
        refine Drw.one 5 rfl (by kernel_rfl) (Step.call rfl rfl (bring_fun (by omega)) (?_) True.intro (by rfl))
        rintro _ _ ⟨rfl, rfl⟩
        refine ⟨fun _ h => h, ?_⟩
        have g24 := bringF_bd (i := kd) (n := 3) (by omega)
        refine Drw.a 6 rfl (by kernel_rfl) (Yv.buildS (cs := #[.int .i64 (bringF n 3), .int .i64 0, .int .i64 0, .int .i64 0, .int .i64 0, .int .i64 0, .int .i64 0, .int .i64 (bringF kd 3)]) T33 rfl rfl) ?_
        refine Drw.one 8 rfl (by kernel_rfl) (Step.store (vs := [.int .i64 (bringF n 3), .int .i64 0, .int .i64 0, .int .i64 0, .int .i64 0, .int .i64 0, .int .i64 0, .int .i64 (bringF kd 3)]) 0 hs21 rfl rfl rfl rfl S33 (Nat.le_of_ble_eq_true rfl) rfl (fun w26 hs26 => ?_) True.intro)
        refine ⟨fun h => absurd h (by decide), ?_⟩
        replace hs26 : HS _ [.blk _ [_, _, _, _, _, _, _, _] _, .blk _ [_, _, _, _, _, _, _, _] _, .blk _ [_, _, _, _, _, _, _, _] _] _ := hs26
        refine Drw.done ?_ (by kernel_rfl)
        refine ⟨b20, hs26.pick [0, 1, 2] [.blk b20 [.int .i64 (bringF n 3), .int .i64 0, .int .i64 0, .int .i64 0, .int .i64 0, .int .i64 0, .int .i64 0, .int .i64 (bringF kd 3)] 33, .blk b5 [.int .i64 0, .int .i64 0, .int .i64 0, .int .i64 0, .int .i64 0, .int .i64 0, .int .i64 0, .int .i64 0] 33, .blk b2 [.int .i64 n, .int .i64 X, .int .i64 Y, .int .i64 bw, .int .i64 bh, .int .i64 vx, .int .i64 vy, .int .i64 kd] 33] (by decide) rfl, Sub.le ⟨rfl, rfl, rfl, rfl, trivial⟩⟩
    · -- operation 7 first
      refine ⟨_, _, _, _, _, _, rfl, ?_⟩
      refine Step.alloc (cs := [.int .i64 0, .int .i64 0, .int .i64 0, .int .i64 0, .int .i64 0, .int .i64 0, .int .i64 0, .int .i64 0]) hs9 Z33 rfl (fun b27 w28 hs28 hb28 => ?_) True.intro (by rfl)
      have hS30 := hS10.trans (hb28.mono (Nat.le_trans (Nat.le_refl _) hS10.size))
      refine ⟨fun _ _ => hS30, ?_⟩
      refine Drw.one 2 rfl (by kernel_rfl) (Step.call rfl rfl (bring_fun (by omega)) (?_) True.intro (by rfl))
      rintro _ _ ⟨rfl, rfl⟩
      refine ⟨fun _ h => h, ?_⟩
      have g31 := bringF_bd (i := n) (n := 3) (by omega)
      refine Drw.one 5 rfl (by kernel_rfl) (Step.call rfl rfl (bring_fun (by omega)) (?_) True.intro (by rfl))
      rintro _ _ ⟨rfl, rfl⟩
      refine ⟨fun _ h => h, ?_⟩
      have g33 := bringF_bd (i := kd) (n := 3) (by omega)
      refine Drw.a 6 rfl (by kernel_rfl) (Yv.buildS (cs := #[.int .i64 (bringF n 3), .int .i64 0, .int .i64 0, .int .i64 0, .int .i64 0, .int .i64 0, .int .i64 0, .int .i64 (bringF kd 3)]) T33 rfl rfl) ?_
      refine Drw.one 8 rfl (by kernel_rfl) (Step.store (vs := [.int .i64 (bringF n 3), .int .i64 0, .int .i64 0, .int .i64 0, .int .i64 0, .int .i64 0, .int .i64 0, .int .i64 (bringF kd 3)]) 0 hs28 rfl rfl rfl rfl S33 (Nat.le_of_ble_eq_true rfl) rfl (fun w35 hs35 => ?_) True.intro)
      refine ⟨fun h => absurd h (by decide), ?_⟩
      replace hs35 : HS _ [.blk _ [_, _, _, _, _, _, _, _] _, .blk _ [_, _, _, _, _, _, _, _] _, .blk _ [_, _, _, _, _, _, _, _] _] _ := hs35
      refine Drw.done ?_ (by kernel_rfl)
      refine ⟨b27, hs35.pick [0, 1, 2] [.blk b27 [.int .i64 (bringF n 3), .int .i64 0, .int .i64 0, .int .i64 0, .int .i64 0, .int .i64 0, .int .i64 0, .int .i64 (bringF kd 3)] 33, .blk b5 [.int .i64 0, .int .i64 0, .int .i64 0, .int .i64 0, .int .i64 0, .int .i64 0, .int .i64 0, .int .i64 0] 33, .blk b2 [.int .i64 n, .int .i64 X, .int .i64 Y, .int .i64 bw, .int .i64 bh, .int .i64 vx, .int .i64 vy, .int .i64 kd] 33] (by decide) rfl, Sub.le ⟨rfl, rfl, rfl, rfl, trivial⟩⟩
  rintro e36 w36 ⟨b15, hs36, he36⟩
  refine k8 _ _ ?_
  refine Run.le he36 ?_
  refine run_seq fun K37 k37 => ?_
  refine run_drawn [20] (fun x => Below (w36.drew).heap.size (w36.drew) x) ?_ Tf.mixed (by kernel_rfl) (fun _ _ _ h => h)
  have hs38 := hs36.drew
  have hS39 := Below.refl (w36.drew).heap.size (w36.drew)
  refine Drw.a 0 rfl (by kernel_rfl) (Yv.fld F33_1 rfl) ?_
  refine Drw.a 1 rfl (by kernel_rfl) (Yv.fld F29_0 rfl) ?_
  refine Drw.l 2 rfl (by kernel_rfl) hS39 (Yv.load A3 rfl (fun _ hq_ => ((hs38.grow hq_).cell 2 rfl 1 rfl))) ?_
  refine Drw.a 4 rfl (by kernel_rfl) (Yv.fld F33_1 rfl) ?_
  refine Drw.a 5 rfl (by kernel_rfl) (Yv.fld F29_1 rfl) ?_
  refine Drw.l 6 rfl (by kernel_rfl) hS39 (Yv.load A3 rfl (fun _ hq_ => ((hs38.grow hq_).cell 2 rfl 2 rfl))) ?_
  refine Drw.a 8 rfl (by kernel_rfl) (Yv.fld F33_1 rfl) ?_
  refine Drw.a 9 rfl (by kernel_rfl) (Yv.fld F29_2 rfl) ?_
  refine Drw.l 10 rfl (by kernel_rfl) hS39 (Yv.load A3 rfl (fun _ hq_ => ((hs38.grow hq_).cell 2 rfl 3 rfl))) ?_
  refine Drw.a 13 rfl (by kernel_rfl) (Yv.fld F33_1 rfl) ?_
  refine Drw.a 14 rfl (by kernel_rfl) (Yv.fld F29_3 rfl) ?_
  refine Drw.l 15 rfl (by kernel_rfl) hS39 (Yv.load A3 rfl (fun _ hq_ => ((hs38.grow hq_).cell 2 rfl 4 rfl))) ?_
  refine Drw.one 3 rfl (by kernel_rfl) (Step.call rfl rfl (bring_fun (by omega)) (?_) True.intro (by rfl))
  rintro _ _ ⟨rfl, rfl⟩
  refine ⟨fun _ h => h, ?_⟩
  have g40 := bringF_bd (i := X) (n := 60) (by omega)
  refine Drw.one 7 rfl (by kernel_rfl) (Step.call rfl rfl (bring_fun (by omega)) (?_) True.intro (by rfl))
  rintro _ _ ⟨rfl, rfl⟩
  refine ⟨fun _ h => h, ?_⟩
  have g42 := bringF_bd (i := Y) (n := 60) (by omega)
  refine Drw.one 11 rfl (by kernel_rfl) (Step.call rfl rfl (bring_fun (by omega)) (?_) True.intro (by rfl))
  rintro _ _ ⟨rfl, rfl⟩
  refine ⟨fun _ h => h, ?_⟩
  have g44 := bringF_bd (i := bw) (n := 29) (by omega)
  refine Drw.a 12 rfl (by kernel_rfl) (Yv.add rfl rfl (by omega)) ?_
  refine Drw.one 16 rfl (by kernel_rfl) (Step.call rfl rfl (bring_fun (by omega)) (?_) True.intro (by rfl))
  rintro _ _ ⟨rfl, rfl⟩
  refine ⟨fun _ h => h, ?_⟩
  have g46 := bringF_bd (i := bh) (n := 29) (by omega)
  refine Drw.a 17 rfl (by kernel_rfl) (Yv.add rfl rfl (by omega)) ?_
  refine Drw.a 18 rfl (by kernel_rfl) (Yv.buildS (cs := #[.int .i64 (bringF X 60), .int .i64 (bringF Y 60), .int .i64 ((4 : Int) + (bringF bw 29)), .int .i64 ((4 : Int) + (bringF bh 29))]) T29 rfl rfl) ?_
  refine Drw.a 19 rfl (by kernel_rfl) (Yv.fld F33_1 rfl) ?_
  refine Drw.one 20 rfl (by kernel_rfl) (Step.store (vs := [.int .i64 (bringF X 60), .int .i64 (bringF Y 60), .int .i64 ((4 : Int) + (bringF bw 29)), .int .i64 ((4 : Int) + (bringF bh 29))]) 0 hs38 rfl rfl rfl rfl S29 (Nat.le_of_ble_eq_true rfl) rfl (fun w48 hs48 => ?_) True.intro)
  refine ⟨fun h => absurd h (by decide), ?_⟩
  replace hs48 : HS _ [.blk _ [_, _, _, _, _, _, _, _] _, .blk _ [_, _, _, _, _, _, _, _] _, .blk _ [_, _, _, _, _, _, _, _] _] _ := hs48
  refine Drw.done ?_ (by kernel_rfl)
  refine k37 _ _ ?_
  refine run_seq fun K49 k49 => ?_
  refine run_drawn [12] (fun x => Below (w48.drew).heap.size (w48.drew) x) ?_ Tf.mixed (by kernel_rfl) (fun _ _ _ h => h)
  have hs50 := hs48.drew
  have hS51 := Below.refl (w48.drew).heap.size (w48.drew)
  refine Drw.a 0 rfl (by kernel_rfl) (Yv.fld F33_2 rfl) ?_
  refine Drw.a 1 rfl (by kernel_rfl) (Yv.fld F31_0 rfl) ?_
  refine Drw.l 2 rfl (by kernel_rfl) hS51 (Yv.load A3 rfl (fun _ hq_ => ((hs50.grow hq_).cell 2 rfl 5 rfl))) ?_
  refine Drw.a 5 rfl (by kernel_rfl) (Yv.fld F33_2 rfl) ?_
  refine Drw.a 6 rfl (by kernel_rfl) (Yv.fld F31_1 rfl) ?_
  refine Drw.l 7 rfl (by kernel_rfl) hS51 (Yv.load A3 rfl (fun _ hq_ => ((hs50.grow hq_).cell 2 rfl 6 rfl))) ?_
  refine Drw.one 3 rfl (by kernel_rfl) (Step.call rfl rfl (bring_fun (by omega)) (?_) True.intro (by rfl))
  rintro _ _ ⟨rfl, rfl⟩
  refine ⟨fun _ h => h, ?_⟩
  have g52 := bringF_bd (i := vx) (n := 8191) (by omega)
  refine Drw.a 4 rfl (by kernel_rfl) (Yv.sub rfl rfl (by omega)) ?_
  refine Drw.one 8 rfl (by kernel_rfl) (Step.call rfl rfl (bring_fun (by omega)) (?_) True.intro (by rfl))
  rintro _ _ ⟨rfl, rfl⟩
  refine ⟨fun _ h => h, ?_⟩
  have g54 := bringF_bd (i := vy) (n := 8191) (by omega)
  refine Drw.a 9 rfl (by kernel_rfl) (Yv.sub rfl rfl (by omega)) ?_
  refine Drw.a 10 rfl (by kernel_rfl) (Yv.buildS (cs := #[.int .i64 ((bringF vx 8191) - 4095), .int .i64 ((bringF vy 8191) - 4095)]) T31 rfl rfl) ?_
  refine Drw.a 11 rfl (by kernel_rfl) (Yv.fld F33_2 rfl) ?_
  refine Drw.one 12 rfl (by kernel_rfl) (Step.store (vs := [.int .i64 ((bringF vx 8191) - 4095), .int .i64 ((bringF vy 8191) - 4095)]) 0 hs50 rfl rfl rfl rfl S31 (Nat.le_of_ble_eq_true rfl) rfl (fun w56 hs56 => ?_) True.intro)
  refine ⟨fun h => absurd h (by decide), ?_⟩
  replace hs56 : HS _ [.blk _ [_, _, _, _, _, _, _, _] _, .blk _ [_, _, _, _, _, _, _, _] _, .blk _ [_, _, _, _, _, _, _, _] _] _ := hs56
  refine Drw.done ?_ (by kernel_rfl)
  refine k49 _ _ ?_
  refine run_seq fun K57 k57 => ?_
  refine run_region ?_
  refine Ops.v (Yv.loadn (cs := [.int .i64 (bringF n 3), .int .i64 (bringF X 60), .int .i64 (bringF Y 60), .int .i64 ((4 : Int) + (bringF bw 29)), .int .i64 ((4 : Int) + (bringF bh 29)), .int .i64 ((bringF vx 8191) - 4095), .int .i64 ((bringF vy 8191) - 4095), .int .i64 (bringF kd 3)]) A33 S33 rfl (now (hs56.cells 0 rfl 0 8))) ?_
  refine Ops.s (Step.store (vs := [.int .i64 (bringF n 3), .int .i64 (bringF X 60), .int .i64 (bringF Y 60), .int .i64 ((4 : Int) + (bringF bw 29)), .int .i64 ((4 : Int) + (bringF bh 29)), .int .i64 ((bringF vx 8191) - 4095), .int .i64 ((bringF vy 8191) - 4095), .int .i64 (bringF kd 3)]) 1 hs56 rfl rfl rfl rfl S33 (Nat.le_of_ble_eq_true rfl) rfl (fun w58 hs58 => ?_) True.intro)
  replace hs58 : HS _ [.blk _ [_, _, _, _, _, _, _, _] _, .blk _ [_, _, _, _, _, _, _, _] _, .blk _ [_, _, _, _, _, _, _, _] _] _ := hs58
  refine Ops.nil ?_
  refine k57 _ _ ?_
  refine run_ret ?_
  refine ⟨[.agg #[.int .i64 (bringF n 3), .int .i64 (bringF X 60), .int .i64 (bringF Y 60), .int .i64 ((4 : Int) + (bringF bw 29)), .int .i64 ((4 : Int) + (bringF bh 29)), .int .i64 ((bringF vx 8191) - 4095), .int .i64 ((bringF vy 8191) - 4095), .int .i64 (bringF kd 3)]], ⟨_, _, _, rfl, rfl, run_loadn (cs := [.int .i64 (bringF n 3), .int .i64 (bringF X 60), .int .i64 (bringF Y 60), .int .i64 ((4 : Int) + (bringF bw 29)), .int .i64 ((4 : Int) + (bringF bh 29)), .int .i64 ((bringF vx 8191) - 4095), .int .i64 ((bringF vy 8191) - 4095), .int .i64 (bringF kd 3)]) A33 S33 (hs58.cells 1 rfl 0 8), rfl⟩, ?_⟩
  exact ⟨rfl, hs58.pick [] _ (by decide) rfl⟩

theorem may_fun {w : World} {n X Y bw bh vx vy kd : Int} : Fun Try.prog 29 [.agg #[.int .i64 n, .int .i64 X, .int .i64 Y, .int .i64 bw, .int .i64 bh, .int .i64 vx, .int .i64 vy, .int .i64 kd]] w fun v w' => ∃ n9 X9 Y9 bw9 bh9 vx9 vy9 kd9, (0 ≤ n9 ∧ n9 ≤ 2) ∧ (0 ≤ X9 ∧ X9 ≤ 59) ∧ (0 ≤ Y9 ∧ Y9 ≤ 59) ∧ (4 ≤ bw9 ∧ bw9 ≤ 32) ∧ (4 ≤ bh9 ∧ bh9 ≤ 32) ∧ (-4095 ≤ vx9 ∧ vx9 ≤ 4095) ∧ (-4095 ≤ vy9 ∧ vy9 ≤ 4095) ∧ (0 ≤ kd9 ∧ kd9 ≤ 2) ∧ v = .agg #[.int .i64 n9, .int .i64 X9, .int .i64 Y9, .int .i64 bw9, .int .i64 bh9, .int .i64 vx9, .int .i64 vy9, .int .i64 kd9] ∧ HS w [] w' :=
  may_fun0.mono fun v w' ⟨hv, hs⟩ => by
    have hn := bringF_bd (i := n) (n := 3) (by decide)
    have hX := bringF_bd (i := X) (n := 60) (by decide)
    have hY := bringF_bd (i := Y) (n := 60) (by decide)
    have hbw := bringF_bd (i := bw) (n := 29) (by decide)
    have hbh := bringF_bd (i := bh) (n := 29) (by decide)
    have hvx := bringF_bd (i := vx) (n := 8191) (by decide)
    have hvy := bringF_bd (i := vy) (n := 8191) (by decide)
    have hkd := bringF_bd (i := kd) (n := 3) (by decide)
    exact ⟨_, _, _, _, _, _, _, _, ⟨by omega, by omega⟩, ⟨by omega, by omega⟩, ⟨by omega, by omega⟩, ⟨by omega, by omega⟩, ⟨by omega, by omega⟩, ⟨by omega, by omega⟩, ⟨by omega, by omega⟩, ⟨by omega, by omega⟩, hv, hs⟩

end Go.Proofs.Zed
