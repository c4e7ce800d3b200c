/- The walk of DeblockQuiet. -/
import Derived.Test.YtnkckjebcpagnaaDl
import Derived.Test.YtnkckjebcpagnaaDh
import Derived.Test.YtnkckjebcpagnaaDi
set_option linter.unusedVariables false
set_option linter.unusedSimpArgs false
namespace Go.Proofs.Zed
open Go Go.RowKit Tf
attribute [local irreducible] Try.prog

set_option maxHeartbeats 4000000 in
theorem DeblockQuiet_fun {w : World} {a b lv0 sh0 : Int} {up co : Bool} {A : Option Addr} {m c : Nat} {xs : List Int} (hr : Rd w A m 1 (u8s xs)) (hx : Bytes xs) (hcm : m ≤ c) : Fun Try.prog 6 [.agg #[.int .i64 a, .int .i64 b], .slice A m c, .agg #[.bool up, .bool co, .int .i64 lv0, .int .i64 sh0]] w fun v w' => v = .bool true ∧ HS w [] w' := by
  refine fun_run (m := 103) (rs := [.tmp 6]) Try.func6 rfl rfl rfl rfl rfl ?_
  have hs0 := HS.start w
  have hbig := hr.big
  have hlen : xs.length = m := by have := hr.len; rw [u8s_length] at this; omega
  have hbsz := bringF_bd (i := lv0) (n := 5) (by decide)
  have hpsz := pow5 (m := (bringF lv0 5).toNat) (by omega)
  obtain ⟨sz, hsz⟩ : ∃ x_ : Int, x_ = 4 * 2 ^ (bringF lv0 5).toNat := ⟨_, rfl⟩
  have hcsz : sz = 4 ∨ sz = 8 ∨ sz = 16 ∨ sz = 32 ∨ sz = 64 := by omega
  have hbtz := bringF_bd (i := sh0) (n := 5) (by decide)
  have hptz := pow5 (m := (bringF sh0 5).toNat) (by omega)
  obtain ⟨tz, htz⟩ : ∃ x_ : Int, x_ = 4 * 2 ^ (bringF sh0 5).toNat := ⟨_, rfl⟩
  have hctz : tz = 4 ∨ tz = 8 ∨ tz = 16 ∨ tz = 32 ∨ tz = 64 := by omega
  refine run_seq fun K1 k1 => ?_
  refine run_region ?_
  refine Ops.s (Step.box (cs := [.int .i64 a, .int .i64 b]) hs0 rfl rfl (fun b2 w3 hs3 hb3 => ?_) True.intro (by rfl))
  refine Ops.s (Step.box (cs := [.bool up, .bool co, .int .i64 lv0, .int .i64 sh0]) hs3 rfl rfl (fun b5 w6 hs6 hb6 => ?_) True.intro (by rfl))
  refine Ops.v (Yv.assign rfl) ?_
  refine Ops.nil ?_
  refine k1 _ _ ?_
  refine run_seq fun K8 k8 => ?_
  refine run_seq fun K9 k9 => ?_
  refine run_region ?_
  refine Ops.s (Step.call rfl rfl (awake22_fun) (?_) True.intro (by rfl))
  rintro _ w10 ⟨rfl, hs10⟩
  replace hs10 := hs6.call hs10
  refine Ops.v (Yv.not rfl) ?_
  refine Ops.nil ?_
  refine k9 _ _ ?_
  refine run_if0 rfl ?_
  refine run_skip ?_
  refine k8 _ _ ?_
  refine run_seq fun K11 k11 => ?_
  refine run_region ?_
  refine Ops.v (Yv.idxa R22 rfl rfl (by decide) (by decide)) ?_
  refine Ops.v (Yv.load A3 rfl (now (hs10.cell 1 rfl 0 rfl))) ?_
  refine Ops.v (Yv.idxa R22 rfl rfl (by decide) (by decide)) ?_
  refine Ops.v (Yv.load A3 rfl (now (hs10.cell 1 rfl 1 rfl))) ?_
  refine Ops.v (Yv.move rfl) ?_
  refine Ops.s (Step.call rfl rfl (fit22_fun2 (hs10.rd hr) hx) (?_) True.intro (by rfl))
  rintro _ w15 ⟨W, H, Ad12, c13, hW, hH, rfl, hs15⟩
  replace hs15 := hs10.call hs15
  have hmW := mul_bd (a := W) (b := H) (x := 64) (y := 64) (by omega) (by omega) (by omega) (by omega)
  refine Ops.s (Step.alloc (cs := [.int .i64 0, .int .i64 0, .slice none 0 0]) hs15 Z28 rfl (fun b16 w17 hs17 hb17 => ?_) True.intro (by rfl))
  refine Ops.s (Step.store (vs := [.int .i64 W, .int .i64 H, .slice Ad12 ((W * H).toNat) c13]) 0 hs17 rfl rfl rfl rfl S28 (Nat.le_of_ble_eq_true rfl) rfl (fun w19 hs19 => ?_) True.intro)
  replace hs19 : HS _ [.blk _ [_, _, _] _, .row _ _ _ _ _ _, .blk _ [_, _, _, _] _, .blk _ [_, _] _] _ := hs19
  refine Ops.nil ?_
  refine k11 _ _ ?_
  refine run_seq fun K20 k20 => ?_
  refine Run.cut (fun e_ w_ => ∃ b36 Ad25 c28 Ad26 c29 Ad27 c30, HS w [.blk b36 [.int .i64 (W / 4), .int .i64 (H / 4), .slice Ad25 ((H / 4).toNat * (W / 4).toNat) c28, .slice Ad26 ((H / 4).toNat * (W / 4).toNat) c29, .slice Ad27 ((H / 4).toNat * (W / 4).toNat) c30] 37, .row Ad25 ((H / 4).toNat * (W / 4).toNat) c28 (u8s (List.replicate ((H / 4).toNat * (W / 4).toNat) sz)) 5 1, .row Ad26 ((H / 4).toNat * (W / 4).toNat) c29 (i64s (idsTo (W / 4).toNat (sz / 4) ((H / 4).toNat * (W / 4).toNat))) 3 1, .row Ad27 ((H / 4).toNat * (W / 4).toNat) c30 (bools (List.replicate ((H / 4).toNat * (W / 4).toNat) true)) 4 1, .blk b16 [.int .i64 W, .int .i64 H, .slice Ad12 ((W * H).toNat) c13] 28, .row Ad12 ((W * H).toNat) c13 (u8s (fitTo xs (W * H).toNat)) 5 1, .blk b5 [.bool up, .bool co, .int .i64 lv0, .int .i64 sh0] 25, .blk b2 [.int .i64 a, .int .i64 b] 22] w_ ∧ Le [(0, .agg #[.int .i64 a, .int .i64 b]), (1, .slice A m c), (2, .agg #[.bool up, .bool co, .int .i64 lv0, .int .i64 sh0]), (3, .pointer (some ⟨b2, 0, none⟩)), (5, .pointer (some ⟨b5, 0, none⟩)), (6, .bool false), (7, .pointer (some ⟨b16, 0, none⟩)), (8, .pointer (some ⟨b36, 0, none⟩)), (16, .bool false)] e_) ?_ ?_
  · -- region 4: its ways meet again
    refine run_drawn [7] (fun x => Below (w19.drew).heap.size (w19.drew) x) ?_ Tf.mixed (by kernel_rfl) (fun _ _ _ h => h)
    have hs21 := hs19.drew
    have hS22 := Below.refl (w19.drew).heap.size (w19.drew)
    refine Drw.l 0 rfl (by kernel_rfl) hS22 (Yv.loadn (cs := [.int .i64 W, .int .i64 H, .slice Ad12 ((W * H).toNat) c13]) A28 S28 rfl (fun _ hq_ => ((hs21.grow hq_).cells 0 rfl 0 3))) ?_
    refine Drw.a 1 rfl (by kernel_rfl) (Yv.fld F25_2 rfl) ?_
    refine Drw.l 2 rfl (by kernel_rfl) hS22 (Yv.load A3 rfl (fun _ hq_ => ((hs21.grow hq_).cell 2 rfl 2 rfl))) ?_
    refine Drw.all [3, 6] ?_ (by kernel_rfl) rfl
    intro i hi
    simp only [List.mem_cons, List.not_mem_nil, or_false] at hi
    rcases hi with rfl | rfl
    · -- operation 3 first
      refine ⟨_, _, _, _, _, _, rfl, ?_⟩
      refine Step.call rfl rfl (bring_fun (by omega)) (?_) True.intro (by rfl)
      rintro _ _ ⟨rfl, rfl⟩
      refine ⟨fun _ h => h, ?_⟩
      have g23 := bringF_bd (i := lv0) (n := 5) (by decide)
      refine Drw.a 4 rfl (by kernel_rfl) ((Yv.shl8 rfl rfl ((bringF lv0 5).toNat) (by first | rfl | omega) (by omega) (by omega)).to (v := .int .u8 sz) (toV hsz.symm)) ?_
      refine Drw.all [5, 6] ?_ (by kernel_rfl) rfl
      intro i hi
      simp only [List.mem_cons, List.not_mem_nil, or_false] at hi
      rcases hi with rfl | rfl
      · -- operation 5 first
        refine ⟨_, _, _, _, _, _, rfl, ?_⟩
        refine Step.call rfl rfl (cells22_fun (by omega) (by omega) (by omega)) (?_) True.intro (by rfl)
        rintro _ w34 ⟨Ad25, c28, Ad26, c29, Ad27, c30, rfl, hs34⟩
        have hS35 := HS.keepS hS22 (Nat.le_refl _) hs34
        refine ⟨fun _ _ => hS35, ?_⟩
        replace hs34 := hs21.call hs34
        refine Drw.one 6 rfl (by kernel_rfl) (Step.alloc (cs := [.int .i64 0, .int .i64 0, .slice none 0 0, .slice none 0 0, .slice none 0 0]) hs34 Z37 rfl (fun b36 w37 hs37 hb37 => ?_) True.intro (by rfl))
        have hS39 := hS35.trans (hb37.mono (Nat.le_trans (Nat.le_refl _) hS35.size))
        refine ⟨fun _ _ => hS39, ?_⟩
        refine Drw.one 7 rfl (by kernel_rfl) (Step.store (vs := [.int .i64 (W / 4), .int .i64 (H / 4), .slice Ad25 ((H / 4).toNat * (W / 4).toNat) c28, .slice Ad26 ((H / 4).toNat * (W / 4).toNat) c29, .slice Ad27 ((H / 4).toNat * (W / 4).toNat) c30]) 0 hs37 rfl rfl rfl rfl S37 (Nat.le_of_ble_eq_true rfl) rfl (fun w40 hs40 => ?_) True.intro)
        refine ⟨fun h => absurd h (by decide), ?_⟩
        replace hs40 : HS _ [.blk _ [_, _, _, _, _] _, .row _ _ _ _ _ _, .row _ _ _ _ _ _, .row _ _ _ _ _ _, .blk _ [_, _, _] _, .row _ _ _ _ _ _, .blk _ [_, _, _, _] _, .blk _ [_, _] _] _ := hs40
        refine Drw.done ?_ (by kernel_rfl)
        refine ⟨b36, Ad25, c28, Ad26, c29, Ad27, c30, hs40.pick [0, 1, 2, 3, 4, 5, 6, 7] [.blk b36 [.int .i64 (W / 4), .int .i64 (H / 4), .slice Ad25 ((H / 4).toNat * (W / 4).toNat) c28, .slice Ad26 ((H / 4).toNat * (W / 4).toNat) c29, .slice Ad27 ((H / 4).toNat * (W / 4).toNat) c30] 37, .row Ad25 ((H / 4).toNat * (W / 4).toNat) c28 (u8s (List.replicate ((H / 4).toNat * (W / 4).toNat) sz)) 5 1, .row Ad26 ((H / 4).toNat * (W / 4).toNat) c29 (i64s (idsTo (W / 4).toNat (sz / 4) ((H / 4).toNat * (W / 4).toNat))) 3 1, .row Ad27 ((H / 4).toNat * (W / 4).toNat) c30 (bools (List.replicate ((H / 4).toNat * (W / 4).toNat) true)) 4 1, .blk b16 [.int .i64 W, .int .i64 H, .slice Ad12 ((W * H).toNat) c13] 28, .row Ad12 ((W * H).toNat) c13 (u8s (fitTo xs (W * H).toNat)) 5 1, .blk b5 [.bool up, .bool co, .int .i64 lv0, .int .i64 sh0] 25, .blk b2 [.int .i64 a, .int .i64 b] 22] (by decide) rfl, Sub.le ⟨rfl, rfl, rfl, rfl, rfl, rfl, rfl, rfl, rfl, trivial⟩⟩
      · -- operation 6 first
        refine ⟨_, _, _, _, _, _, rfl, ?_⟩
        refine Step.alloc (cs := [.int .i64 0, .int .i64 0, .slice none 0 0, .slice none 0 0, .slice none 0 0]) hs21 Z37 rfl (fun b41 w42 hs42 hb42 => ?_) True.intro (by rfl)
        have hS44 := hS22.trans (hb42.mono (Nat.le_trans (Nat.le_refl _) hS22.size))
        refine ⟨fun _ _ => hS44, ?_⟩
        refine Drw.one 5 rfl (by kernel_rfl) (Step.call rfl rfl (cells22_fun (by omega) (by omega) (by omega)) (?_) True.intro (by rfl))
        rintro _ w54 ⟨Ad45, c48, Ad46, c49, Ad47, c50, rfl, hs54⟩
        have hS55 := HS.keepS hS44 (Nat.le_refl _) hs54
        refine ⟨fun _ _ => hS55, ?_⟩
        replace hs54 := hs42.call hs54
        refine Drw.one 7 rfl (by kernel_rfl) (Step.store (vs := [.int .i64 (W / 4), .int .i64 (H / 4), .slice Ad45 ((H / 4).toNat * (W / 4).toNat) c48, .slice Ad46 ((H / 4).toNat * (W / 4).toNat) c49, .slice Ad47 ((H / 4).toNat * (W / 4).toNat) c50]) 3 hs54 rfl rfl rfl rfl S37 (Nat.le_of_ble_eq_true rfl) rfl (fun w56 hs56 => ?_) True.intro)
        refine ⟨fun h => absurd h (by decide), ?_⟩
        replace hs56 : HS _ [.row _ _ _ _ _ _, .row _ _ _ _ _ _, .row _ _ _ _ _ _, .blk _ [_, _, _, _, _] _, .blk _ [_, _, _] _, .row _ _ _ _ _ _, .blk _ [_, _, _, _] _, .blk _ [_, _] _] _ := hs56
        refine Drw.done ?_ (by kernel_rfl)
        refine ⟨b41, Ad45, c48, Ad46, c49, Ad47, c50, hs56.pick [3, 0, 1, 2, 4, 5, 6, 7] [.blk b41 [.int .i64 (W / 4), .int .i64 (H / 4), .slice Ad45 ((H / 4).toNat * (W / 4).toNat) c48, .slice Ad46 ((H / 4).toNat * (W / 4).toNat) c49, .slice Ad47 ((H / 4).toNat * (W / 4).toNat) c50] 37, .row Ad45 ((H / 4).toNat * (W / 4).toNat) c48 (u8s (List.replicate ((H / 4).toNat * (W / 4).toNat) sz)) 5 1, .row Ad46 ((H / 4).toNat * (W / 4).toNat) c49 (i64s (idsTo (W / 4).toNat (sz / 4) ((H / 4).toNat * (W / 4).toNat))) 3 1, .row Ad47 ((H / 4).toNat * (W / 4).toNat) c50 (bools (List.replicate ((H / 4).toNat * (W / 4).toNat) true)) 4 1, .blk b16 [.int .i64 W, .int .i64 H, .slice Ad12 ((W * H).toNat) c13] 28, .row Ad12 ((W * H).toNat) c13 (u8s (fitTo xs (W * H).toNat)) 5 1, .blk b5 [.bool up, .bool co, .int .i64 lv0, .int .i64 sh0] 25, .blk b2 [.int .i64 a, .int .i64 b] 22] (by decide) rfl, Sub.le ⟨rfl, rfl, rfl, rfl, rfl, rfl, rfl, rfl, rfl, trivial⟩⟩
    · -- operation 6 first
      refine ⟨_, _, _, _, _, _, rfl, ?_⟩
      refine Step.alloc (cs := [.int .i64 0, .int .i64 0, .slice none 0 0, .slice none 0 0, .slice none 0 0]) hs21 Z37 rfl (fun b57 w58 hs58 hb58 => ?_) True.intro (by rfl)
      have hS60 := hS22.trans (hb58.mono (Nat.le_trans (Nat.le_refl _) hS22.size))
      refine ⟨fun _ _ => hS60, ?_⟩
      refine Drw.one 3 rfl (by kernel_rfl) (Step.call rfl rfl (bring_fun (by omega)) (?_) True.intro (by rfl))
      rintro _ _ ⟨rfl, rfl⟩
      refine ⟨fun _ h => h, ?_⟩
      have g61 := bringF_bd (i := lv0) (n := 5) (by decide)
      refine Drw.a 4 rfl (by kernel_rfl) ((Yv.shl8 rfl rfl ((bringF lv0 5).toNat) (by first | rfl | omega) (by omega) (by omega)).to (v := .int .u8 sz) (toV hsz.symm)) ?_
      refine Drw.one 5 rfl (by kernel_rfl) (Step.call rfl rfl (cells22_fun (by omega) (by omega) (by omega)) (?_) True.intro (by rfl))
      rintro _ w72 ⟨Ad63, c66, Ad64, c67, Ad65, c68, rfl, hs72⟩
      have hS73 := HS.keepS hS60 (Nat.le_refl _) hs72
      refine ⟨fun _ _ => hS73, ?_⟩
      replace hs72 := hs58.call hs72
      refine Drw.one 7 rfl (by kernel_rfl) (Step.store (vs := [.int .i64 (W / 4), .int .i64 (H / 4), .slice Ad63 ((H / 4).toNat * (W / 4).toNat) c66, .slice Ad64 ((H / 4).toNat * (W / 4).toNat) c67, .slice Ad65 ((H / 4).toNat * (W / 4).toNat) c68]) 3 hs72 rfl rfl rfl rfl S37 (Nat.le_of_ble_eq_true rfl) rfl (fun w74 hs74 => ?_) True.intro)
      refine ⟨fun h => absurd h (by decide), ?_⟩
      replace hs74 : HS _ [.row _ _ _ _ _ _, .row _ _ _ _ _ _, .row _ _ _ _ _ _, .blk _ [_, _, _, _, _] _, .blk _ [_, _, _] _, .row _ _ _ _ _ _, .blk _ [_, _, _, _] _, .blk _ [_, _] _] _ := hs74
      refine Drw.done ?_ (by kernel_rfl)
      refine ⟨b57, Ad63, c66, Ad64, c67, Ad65, c68, hs74.pick [3, 0, 1, 2, 4, 5, 6, 7] [.blk b57 [.int .i64 (W / 4), .int .i64 (H / 4), .slice Ad63 ((H / 4).toNat * (W / 4).toNat) c66, .slice Ad64 ((H / 4).toNat * (W / 4).toNat) c67, .slice Ad65 ((H / 4).toNat * (W / 4).toNat) c68] 37, .row Ad63 ((H / 4).toNat * (W / 4).toNat) c66 (u8s (List.replicate ((H / 4).toNat * (W / 4).toNat) sz)) 5 1, .row Ad64 ((H / 4).toNat * (W / 4).toNat) c67 (i64s (idsTo (W / 4).toNat (sz / 4) ((H / 4).toNat * (W / 4).toNat))) 3 1, .row Ad65 ((H / 4).toNat * (W / 4).toNat) c68 (bools (List.replicate ((H / 4).toNat * (W / 4).toNat) true)) 4 1, .blk b16 [.int .i64 W, .int .i64 H, .slice Ad12 ((W * H).toNat) c13] 28, .row Ad12 ((W * H).toNat) c13 (u8s (fitTo xs (W * H).toNat)) 5 1, .blk b5 [.bool up, .bool co, .int .i64 lv0, .int .i64 sh0] 25, .blk b2 [.int .i64 a, .int .i64 b] 22] (by decide) rfl, Sub.le ⟨rfl, rfl, rfl, rfl, rfl, rfl, rfl, rfl, rfl, trivial⟩⟩
  rintro e75 w75 ⟨b36, Ad25, c28, Ad26, c29, Ad27, c30, hs75, he75⟩
  refine k20 _ _ ?_
  refine Run.le he75 ?_
  refine run_seq fun K76 k76 => ?_
  refine run_seq fun K77 k77 => ?_
  refine run_region ?_
  refine Ops.v (Yv.assign rfl) ?_
  refine Ops.nil ?_
  refine k77 _ _ ?_
  refine run_block ?_
  have hnn := natmul (W := W) (H := H) (by omega) (by omega)
  have hNN : ((H / 4).toNat * (W / 4).toNat) ≤ 16 * 16 := Nat.mul_le_mul (by omega) (by omega)
  refine Run.sub [(0, _), (1, _), (2, _), (3, _), (5, _), (6, _), (7, _), (8, _), (9, _), (16, _)] ⟨rfl, rfl, rfl, rfl, rfl, rfl, rfl, rfl, rfl, rfl, trivial⟩ ?_
  refine run_loop (σ := Nat) (fun k e_ w_ => HS w [.blk b36 [.int .i64 (W / 4), .int .i64 (H / 4), .slice Ad25 ((H / 4).toNat * (W / 4).toNat) c28, .slice Ad26 ((H / 4).toNat * (W / 4).toNat) c29, .slice Ad27 ((H / 4).toNat * (W / 4).toNat) c30] 37, .row Ad25 ((H / 4).toNat * (W / 4).toNat) c28 (u8s (List.replicate ((H / 4).toNat * (W / 4).toNat) sz)) 5 1, .row Ad26 ((H / 4).toNat * (W / 4).toNat) c29 (i64s (sevTo (idsTo (W / 4).toNat (sz / 4) ((H / 4).toNat * (W / 4).toNat)) k)) 3 1, .row Ad27 ((H / 4).toNat * (W / 4).toNat) c30 (bools (List.replicate ((H / 4).toNat * (W / 4).toNat) true)) 4 1, .blk b16 [.int .i64 W, .int .i64 H, .slice Ad12 ((W * H).toNat) c13] 28, .row Ad12 ((W * H).toNat) c13 (u8s (fitTo xs (W * H).toNat)) 5 1, .blk b5 [.bool up, .bool co, .int .i64 lv0, .int .i64 sh0] 25, .blk b2 [.int .i64 a, .int .i64 b] 22] w_ ∧ e_ = [(0, .agg #[.int .i64 a, .int .i64 b]), (1, .slice A m c), (2, .agg #[.bool up, .bool co, .int .i64 lv0, .int .i64 sh0]), (3, .pointer (some ⟨b2, 0, none⟩)), (5, .pointer (some ⟨b5, 0, none⟩)), (6, .bool false), (7, .pointer (some ⟨b16, 0, none⟩)), (8, .pointer (some ⟨b36, 0, none⟩)), (9, .int .i64 (k : Int)), (16, .bool false)] ∧ k ≤ ((H / 4).toNat * (W / 4).toNat))
    (fun k => ((H / 4).toNat * (W / 4).toNat) - k) 0 ?_ ?_
  · -- at the start
    refine ⟨hs75, rfl, by omega⟩
  · -- a round
    rintro k _ w78 ⟨hs78, rfl, f1⟩
    refine run_seq fun K79 k79 => ?_
    refine run_seq fun K80 k80 => ?_
    refine run_region ?_
    refine Ops.v (Yv.move rfl) ?_
    refine Ops.v (Yv.fld F37_3 rfl) ?_
    refine Ops.v (Yv.load A34 rfl (now (hs78.cell 0 rfl 3 rfl))) ?_
    refine Ops.v (Yv.len (by rw [L34]; rfl) rfl) ?_
    refine Ops.v (Yv.lt rfl rfl) ?_
    refine Ops.nil ?_
    refine k80 _ _ ?_
    refine run_ifp rfl (fun h81 => ?_) (fun h81 => ?_)
    · -- yes (k : Int) < ((H / 4).toNat * (W / 4).toNat : Int)
      refine run_skip ?_
      refine k79 _ _ ?_
      refine run_seq fun K82 k82 => ?_
      refine run_block ?_
      refine run_region ?_
      refine Ops.v (Yv.fld F37_3 rfl) ?_
      refine Ops.v (Yv.load A34 rfl (now (hs78.cell 0 rfl 3 rfl))) ?_
      refine Ops.v (Yv.move rfl) ?_
      refine Ops.v (Yv.idx L34 rfl rfl ((hs78.rdRow 2 rfl).isSome (i := (k : Int)) (by omega) (by omega)) (by omega) (by omega)) ?_
      refine Ops.s (Step.storeRow (vs := [.int .i64 7]) 2 hs78 rfl rfl rfl rfl S3 (by have hl_ := (hs78.rdRow 2 rfl).len; show ((k : Int)).toNat * 1 + 1 ≤ _; omega) (Nat.succ_pos _) rfl (fun w83 hs83 => ?_) True.intro)
      have hs83_ := i64s_put (xs := sevTo (idsTo (W / 4).toNat (sz / 4) ((H / 4).toNat * (W / 4).toNat)) k) (i := ((k : Int)).toNat * 1) (v := 7) (by have hl_ := (hs78.rdRow 2 rfl).len; rw [i64s_length] at hl_; omega)
      simp only [Nat.mul_one] at hs83_
      replace hs83 : HS w [.blk b36 [.int .i64 (W / 4), .int .i64 (H / 4), .slice Ad25 ((H / 4).toNat * (W / 4).toNat) c28, .slice Ad26 ((H / 4).toNat * (W / 4).toNat) c29, .slice Ad27 ((H / 4).toNat * (W / 4).toNat) c30] 37, .row Ad25 ((H / 4).toNat * (W / 4).toNat) c28 (u8s (List.replicate ((H / 4).toNat * (W / 4).toNat) sz)) 5 1, .row Ad26 ((H / 4).toNat * (W / 4).toNat) c29 (i64s ((sevTo (idsTo (W / 4).toNat (sz / 4) ((H / 4).toNat * (W / 4).toNat)) k).set (((k : Int)).toNat) 7)) 3 1, .row Ad27 ((H / 4).toNat * (W / 4).toNat) c30 (bools (List.replicate ((H / 4).toNat * (W / 4).toNat) true)) 4 1, .blk b16 [.int .i64 W, .int .i64 H, .slice Ad12 ((W * H).toNat) c13] 28, .row Ad12 ((W * H).toNat) c13 (u8s (fitTo xs (W * H).toNat)) 5 1, .blk b5 [.bool up, .bool co, .int .i64 lv0, .int .i64 sh0] 25, .blk b2 [.int .i64 a, .int .i64 b] 22] w83 := by simpa only [List.set, Nat.mul_one, hs83_] using hs83
      refine Ops.nil ?_
      refine k82 _ _ ?_
      refine run_region ?_
      refine Ops.v (Yv.move rfl) ?_
      refine Ops.v (Yv.add rfl rfl (by omega)) ?_
      refine Ops.v (Yv.assign rfl) ?_
      refine Ops.nil ?_
      refine ⟨k + 1, _, ⟨hs83, rfl, by omega⟩, Sub.le ⟨rfl, rfl, rfl, rfl, rfl, rfl, rfl, rfl, lookI rfl (by omega), rfl, trivial⟩, by omega⟩
    · -- no
      refine run_exit ?_
      have hk : k = ((H / 4).toNat * (W / 4).toNat) := by omega
      refine k76 _ _ ?_
      refine run_seq fun K84 k84 => ?_
      refine run_drawn [] (fun x => Below (w78.drew).heap.size (w78.drew) x) ?_ Tf.mixed (by kernel_rfl) (fun _ _ _ h => h)
      have hs85 := hs78.drew
      have hS86 := Below.refl (w78.drew).heap.size (w78.drew)
      refine Drw.a 0 rfl (by kernel_rfl) (Yv.fld F25_2 rfl) ?_
      refine Drw.l 1 rfl (by kernel_rfl) hS86 (Yv.load A3 rfl (fun _ hq_ => ((hs85.grow hq_).cell 6 rfl 2 rfl))) ?_
      refine Drw.a 3 rfl (by kernel_rfl) (Yv.fld F25_3 rfl) ?_
      refine Drw.l 4 rfl (by kernel_rfl) hS86 (Yv.load A3 rfl (fun _ hq_ => ((hs85.grow hq_).cell 6 rfl 3 rfl))) ?_
      refine Drw.one 2 rfl (by kernel_rfl) (Step.call rfl rfl (bring_fun (by omega)) (?_) True.intro (by rfl))
      rintro _ _ ⟨rfl, rfl⟩
      refine ⟨fun _ h => h, ?_⟩
      have g87 := bringF_bd (i := lv0) (n := 64) (by decide)
      refine Drw.one 5 rfl (by kernel_rfl) (Step.call rfl rfl (bring_fun (by omega)) (?_) True.intro (by rfl))
      rintro _ _ ⟨rfl, rfl⟩
      refine ⟨fun _ h => h, ?_⟩
      have g89 := bringF_bd (i := sh0) (n := 8) (by decide)
      refine Drw.a 6 rfl (by kernel_rfl) (Yv.assign rfl) ?_
      refine Drw.a 7 rfl (by kernel_rfl) (Yv.assign rfl) ?_
      refine Drw.done ?_ (by kernel_rfl)
      refine k84 _ _ ?_
      obtain ⟨lv, hlv⟩ : ∃ x_ : Int, x_ = bringF lv0 64 := ⟨_, rfl⟩
      obtain ⟨sh, hsh⟩ : ∃ x_ : Int, x_ = bringF sh0 8 := ⟨_, rfl⟩
      refine Run.sub [(0, .agg #[.int .i64 a, .int .i64 b]), (1, .slice A m c), (2, .agg #[.bool up, .bool co, .int .i64 lv0, .int .i64 sh0]), (3, .pointer (some ⟨b2, 0, none⟩)), (5, .pointer (some ⟨b5, 0, none⟩)), (6, .bool false), (7, .pointer (some ⟨b16, 0, none⟩)), (8, .pointer (some ⟨b36, 0, none⟩)), (9, .int .i64 (k : Int)), (10, .int .i64 lv), (11, .int .i64 sh), (16, .bool false), (33, .bool (decide ((k : Int) < ((H / 4).toNat * (W / 4).toNat : Int))))] ⟨rfl, rfl, rfl, rfl, rfl, rfl, rfl, rfl, rfl, lookI rfl hlv.symm, lookI rfl hsh.symm, rfl, rfl, trivial⟩ ?_
      have hlv2 : 0 ≤ lv ∧ lv ≤ 63 := by omega
      have hsh2 : 0 ≤ sh ∧ sh ≤ 7 := by omega
      refine run_seq fun K91 k91 => ?_
      refine run_region ?_
      refine Ops.v (Yv.loadn (cs := [.int .i64 W, .int .i64 H, .slice Ad12 ((W * H).toNat) c13]) A28 S28 rfl (now (hs85.cells 4 rfl 0 3))) ?_
      refine Ops.v (Yv.loadn (cs := [.int .i64 (W / 4), .int .i64 (H / 4), .slice Ad25 ((H / 4).toNat * (W / 4).toNat) c28, .slice Ad26 ((H / 4).toNat * (W / 4).toNat) c29, .slice Ad27 ((H / 4).toNat * (W / 4).toNat) c30]) A37 S37 rfl (now (hs85.cells 0 rfl 0 5))) ?_
      refine Ops.v (Yv.fld F25_0 rfl) ?_
      refine Ops.v (Yv.load A4 rfl (now (hs85.cell 6 rfl 0 rfl))) ?_
      refine Ops.v (Yv.fld F25_1 rfl) ?_
      refine Ops.v (Yv.load A4 rfl (now (hs85.cell 6 rfl 1 rfl))) ?_
      refine Ops.v (Yv.move rfl) ?_
      refine Ops.v (Yv.move rfl) ?_
      refine Ops.s (Step.call rfl rfl (pass_good (hs85.rdRow 5 rfl) (fitTo_bytes hx _) (hs85.rdRow 1 rfl) (Bytes.rep (by omega)) (hs85.rdRow 2 rfl) (hs85.rdRow 3 rfl) (good_cells (by omega) (by omega) (by omega) (by omega) (by omega))) (?_) True.intro (by rfl))
      rintro _ w95 ⟨Ad92, c93, rfl, hs95⟩
      replace hs95 := hs85.call hs95
      refine Ops.v (Yv.move rfl) ?_
      refine Ops.v (Yv.extract rfl rfl) ?_
      refine Ops.v (Yv.extract rfl rfl) ?_
      refine Ops.s (Step.alloc (cs := [.int .i64 0, .int .i64 0, .slice none 0 0]) hs95 Z28 rfl (fun b96 w97 hs97 hb97 => ?_) True.intro (by rfl))
      refine Ops.s (Step.store (vs := [.int .i64 W, .int .i64 H, .slice Ad92 ((W * H).toNat) c93]) 0 hs97 rfl rfl rfl rfl S28 (Nat.le_of_ble_eq_true rfl) rfl (fun w99 hs99 => ?_) True.intro)
      replace hs99 : HS _ [.blk _ [_, _, _] _, .row _ _ _ _ _ _, .blk _ [_, _, _, _, _] _, .row _ _ _ _ _ _, .row _ _ _ _ _ _, .row _ _ _ _ _ _, .blk _ [_, _, _] _, .row _ _ _ _ _ _, .blk _ [_, _, _, _] _, .blk _ [_, _] _] _ := hs99
      refine Ops.v (Yv.assign rfl) ?_
      refine Ops.nil ?_
      refine k91 _ _ ?_
      refine run_seq fun K100 k100 => ?_
      refine run_seq fun K101 k101 => ?_
      refine Run.cut (fun e_ w_ => HS w [.blk b96 [.int .i64 W, .int .i64 H, .slice Ad92 ((W * H).toNat) c93] 28, .row Ad92 ((W * H).toNat) c93 (u8s (passF up co W H (W / 4) (List.replicate ((H / 4).toNat * (W / 4).toNat) sz) (sevTo (idsTo (W / 4).toNat (sz / 4) ((H / 4).toNat * (W / 4).toNat)) k) (List.replicate ((H / 4).toNat * (W / 4).toNat) true) lv sh (fitTo xs (W * H).toNat))) 5 1, .blk b36 [.int .i64 (W / 4), .int .i64 (H / 4), .slice Ad25 ((H / 4).toNat * (W / 4).toNat) c28, .slice Ad26 ((H / 4).toNat * (W / 4).toNat) c29, .slice Ad27 ((H / 4).toNat * (W / 4).toNat) c30] 37, .row Ad25 ((H / 4).toNat * (W / 4).toNat) c28 (u8s (List.replicate ((H / 4).toNat * (W / 4).toNat) sz)) 5 1, .row Ad26 ((H / 4).toNat * (W / 4).toNat) c29 (i64s (sevTo (idsTo (W / 4).toNat (sz / 4) ((H / 4).toNat * (W / 4).toNat)) k)) 3 1, .row Ad27 ((H / 4).toNat * (W / 4).toNat) c30 (bools (List.replicate ((H / 4).toNat * (W / 4).toNat) true)) 4 1, .blk b16 [.int .i64 W, .int .i64 H, .slice Ad12 ((W * H).toNat) c13] 28, .row Ad12 ((W * H).toNat) c13 (u8s (fitTo xs (W * H).toNat)) 5 1, .blk b5 [.bool up, .bool co, .int .i64 lv0, .int .i64 sh0] 25, .blk b2 [.int .i64 a, .int .i64 b] 22] w_ ∧ Le [(0, .agg #[.int .i64 a, .int .i64 b]), (1, .slice A m c), (2, .agg #[.bool up, .bool co, .int .i64 lv0, .int .i64 sh0]), (3, .pointer (some ⟨b2, 0, none⟩)), (5, .pointer (some ⟨b5, 0, none⟩)), (6, .bool false), (7, .pointer (some ⟨b16, 0, none⟩)), (8, .pointer (some ⟨b36, 0, none⟩)), (9, .int .i64 (k : Int)), (10, .int .i64 lv), (11, .int .i64 sh), (12, .pointer (some ⟨b96, 0, none⟩)), (13, .int .i64 0), (16, .bool false), (33, .bool (decide ((k : Int) < ((H / 4).toNat * (W / 4).toNat : Int)))), (65, .bool false)] e_) ?_ ?_
      · -- region 11: its ways meet again
        refine run_region ?_
        refine Ops.v (Yv.move rfl) ?_
        refine Ops.v (Yv.ne rfl rfl) ?_
        refine Ops.dec0 (fun h_ => h_ rfl) ?_
        refine Ops.v (Yv.move rfl) ?_
        refine Ops.vg ⟨_, rfl, rfl⟩ (Yv.loadn (cs := [.int .i64 W, .int .i64 H, .slice Ad92 ((W * H).toNat) c93]) A28 S28 rfl (now (hs99.cells 0 rfl 0 3))) ?_
        refine Ops.vg ⟨_, rfl, rfl⟩ (Yv.loadn (cs := [.int .i64 W, .int .i64 H, .slice Ad12 ((W * H).toNat) c13]) A28 S28 rfl (now (hs99.cells 6 rfl 0 3))) ?_
        refine Ops.s (Step.call rfl rfl (same_fun (hs99.rdRow 1 rfl) (hs99.rdRow 7 rfl)) (?_) ⟨_, rfl, rfl⟩ (by rfl))
        rintro _ w102 ⟨rfl, hs102⟩
        replace hs102 := hs99.call hs102
        refine Ops.dec1 (⟨⟨rfl, rfl⟩, by rw [hk]; exact quiet_law hW hH (by rw [List.length_replicate]) (by rw [idsTo_length])⟩) ?_
        refine Ops.vg ⟨_, rfl, rfl⟩ (Yv.not rfl) ?_
        refine Ops.v (Yv.pick0 rfl rfl) ?_
        refine Ops.nil ?_
        refine ⟨hs102, Sub.le ⟨rfl, rfl, rfl, rfl, rfl, rfl, rfl, rfl, rfl, rfl, rfl, rfl, rfl, rfl, rfl, rfl, trivial⟩⟩
      rintro e103 w103 ⟨hs103, he103⟩
      refine k101 _ _ ?_
      refine Run.le he103 ?_
      refine run_if0 rfl ?_
      refine run_skip ?_
      refine k100 _ _ ?_
      refine run_seq fun K104 k104 => ?_
      refine run_seq fun K105 k105 => ?_
      refine run_region ?_
      refine Ops.v (Yv.move rfl) ?_
      refine Ops.v (Yv.len (by rw [L23]; rfl) rfl) ?_
      refine Ops.v (Yv.gt rfl rfl) ?_
      refine Ops.nil ?_
      refine k105 _ _ ?_
      refine run_ifp rfl (fun h106 => ?_) (fun h106 => ?_)
      · -- yes (1 : Int) < (m : Int)
        refine run_region ?_
        refine Ops.v (Yv.move rfl) ?_
        refine Ops.v (Yv.partTo 1 L23 rfl rfl (by omega) (by omega)) ?_
        refine Ops.v (Yv.assign rfl) ?_
        refine Ops.nil ?_
        refine k104 _ _ ?_
        refine run_seq fun K107 k107 => ?_
        refine run_region ?_
        refine Ops.v (Yv.idxa R22 rfl rfl (by decide) (by decide)) ?_
        refine Ops.v (Yv.load A3 rfl (now (hs103.cell 9 rfl 0 rfl))) ?_
        refine Ops.v (Yv.idxa R22 rfl rfl (by decide) (by decide)) ?_
        refine Ops.v (Yv.load A3 rfl (now (hs103.cell 9 rfl 1 rfl))) ?_
        refine Ops.v (Yv.move rfl) ?_
        refine Ops.s (Step.call rfl rfl (fit22_fun2 ((hs103.rd hr).pre8 1 (by omega)) (take_bytes hx _)) (?_) True.intro (by rfl))
        rintro _ w111 ⟨W2, H2, Ad108, c109, hW2, hH2, rfl, hs111⟩
        replace hs111 := hs103.call hs111
        have hmW2 := mul_bd (a := W2) (b := H2) (x := 64) (y := 64) (by omega) (by omega) (by omega) (by omega)
        refine Ops.s (Step.alloc (cs := [.int .i64 0, .int .i64 0, .slice none 0 0]) hs111 Z28 rfl (fun b112 w113 hs113 hb113 => ?_) True.intro (by rfl))
        refine Ops.s (Step.store (vs := [.int .i64 W2, .int .i64 H2, .slice Ad108 ((W2 * H2).toNat) c109]) 0 hs113 rfl rfl rfl rfl S28 (Nat.le_of_ble_eq_true rfl) rfl (fun w115 hs115 => ?_) True.intro)
        replace hs115 : HS _ [.blk _ [_, _, _] _, .row _ _ _ _ _ _, .blk _ [_, _, _] _, .row _ _ _ _ _ _, .blk _ [_, _, _, _, _] _, .row _ _ _ _ _ _, .row _ _ _ _ _ _, .row _ _ _ _ _ _, .blk _ [_, _, _] _, .row _ _ _ _ _ _, .blk _ [_, _, _, _] _, .blk _ [_, _] _] _ := hs115
        refine Ops.nil ?_
        refine k107 _ _ ?_
        refine run_seq fun K116 k116 => ?_
        refine run_drawn [19] (fun x => Below (w115.drew).heap.size (w115.drew) x) ?_ Tf.mixed (by kernel_rfl) (fun _ _ _ h => h)
        have hs117 := hs115.drew
        have hS118 := Below.refl (w115.drew).heap.size (w115.drew)
        refine Drw.l 0 rfl (by kernel_rfl) hS118 (Yv.loadn (cs := [.int .i64 W2, .int .i64 H2, .slice Ad108 ((W2 * H2).toNat) c109]) A28 S28 rfl (fun _ hq_ => ((hs117.grow hq_).cells 0 rfl 0 3))) ?_
        refine Drw.l 1 rfl (by kernel_rfl) hS118 (Yv.loadn (cs := [.int .i64 W2, .int .i64 H2, .slice Ad108 ((W2 * H2).toNat) c109]) A28 S28 rfl (fun _ hq_ => ((hs117.grow hq_).cells 0 rfl 0 3))) ?_
        refine Drw.a 2 rfl (by kernel_rfl) (Yv.fld F25_3 rfl) ?_
        refine Drw.l 3 rfl (by kernel_rfl) hS118 (Yv.load A3 rfl (fun _ hq_ => ((hs117.grow hq_).cell 10 rfl 3 rfl))) ?_
        refine Drw.a 6 rfl (by kernel_rfl) (Yv.fld F25_1 rfl) ?_
        refine Drw.l 7 rfl (by kernel_rfl) hS118 (Yv.load A4 rfl (fun _ hq_ => ((hs117.grow hq_).cell 10 rfl 1 rfl))) ?_
        refine Drw.a 9 rfl (by kernel_rfl) (Yv.fld F25_0 rfl) ?_
        refine Drw.l 10 rfl (by kernel_rfl) hS118 (Yv.load A4 rfl (fun _ hq_ => ((hs117.grow hq_).cell 10 rfl 0 rfl))) ?_
        refine Drw.a 11 rfl (by kernel_rfl) (Yv.fld F25_1 rfl) ?_
        refine Drw.l 12 rfl (by kernel_rfl) hS118 (Yv.load A4 rfl (fun _ hq_ => ((hs117.grow hq_).cell 10 rfl 1 rfl))) ?_
        refine Drw.a 13 rfl (by kernel_rfl) (Yv.move rfl) ?_
        refine Drw.a 14 rfl (by kernel_rfl) (Yv.move rfl) ?_
        refine Drw.one 4 rfl (by kernel_rfl) (Step.call rfl rfl (bring_fun (by omega)) (?_) True.intro (by rfl))
        rintro _ _ ⟨rfl, rfl⟩
        refine ⟨fun _ h => h, ?_⟩
        have g119 := bringF_bd (i := sh0) (n := 5) (by decide)
        refine Drw.a 5 rfl (by kernel_rfl) ((Yv.shl8 rfl rfl ((bringF sh0 5).toNat) (by first | rfl | omega) (by omega) (by omega)).to (v := .int .u8 tz) (toV htz.symm)) ?_
        refine Drw.one 8 rfl (by kernel_rfl) (Step.call rfl rfl (cells22_fun (by omega) (by omega) (by omega)) (?_) True.intro (by rfl))
        rintro _ w130 ⟨Ad121, c124, Ad122, c125, Ad123, c126, rfl, hs130⟩
        have hS131 := HS.keepS hS118 (Nat.le_refl _) hs130
        refine ⟨fun _ _ => hS131, ?_⟩
        replace hs130 := hs117.call hs130
        refine Drw.one 15 rfl (by kernel_rfl) (Step.call rfl rfl (pass_good (hs130.rdRow 4 rfl) (fitTo_bytes (take_bytes hx _) _) (hs130.rdRow 0 rfl) (Bytes.rep (by omega)) (hs130.rdRow 1 rfl) (hs130.rdRow 2 rfl) (good_cells (by omega) (by omega) (by omega) (by omega) (by omega))) (?_) True.intro (by rfl))
        rintro _ w135 ⟨Ad132, c133, rfl, hs135⟩
        have hS136 := HS.keepS hS131 (Nat.le_refl _) hs135
        refine ⟨fun _ _ => hS136, ?_⟩
        replace hs135 := hs130.call hs135
        refine Drw.a 16 rfl (by kernel_rfl) (Yv.move rfl) ?_
        refine Drw.a 17 rfl (by kernel_rfl) (Yv.extract rfl rfl) ?_
        refine Drw.a 18 rfl (by kernel_rfl) (Yv.extract rfl rfl) ?_
        refine Drw.one 19 rfl (by kernel_rfl) (Step.store (vs := [.int .i64 W2, .int .i64 H2, .slice Ad132 ((W2 * H2).toNat) c133]) 6 hs135 rfl rfl rfl rfl S28 (Nat.le_of_ble_eq_true rfl) rfl (fun w137 hs137 => ?_) True.intro)
        refine ⟨fun h => absurd h (by decide), ?_⟩
        replace hs137 : HS _ [.row _ _ _ _ _ _, .row _ _ _ _ _ _, .row _ _ _ _ _ _, .row _ _ _ _ _ _, .blk _ [_, _, _] _, .row _ _ _ _ _ _, .blk _ [_, _, _] _, .row _ _ _ _ _ _, .blk _ [_, _, _, _, _] _, .row _ _ _ _ _ _, .row _ _ _ _ _ _, .row _ _ _ _ _ _, .blk _ [_, _, _] _, .row _ _ _ _ _ _, .blk _ [_, _, _, _] _, .blk _ [_, _] _] _ := hs137
        refine Drw.a 20 rfl (by kernel_rfl) (Yv.assign rfl) ?_
        refine Drw.done ?_ (by kernel_rfl)
        refine k116 _ _ ?_
        refine run_seq fun K138 k138 => ?_
        refine Run.cut (fun e_ w_ => HS w [.row Ad132 ((W2 * H2).toNat) c133 (u8s (passF up co W2 H2 (W2 / 4) (List.replicate ((H2 / 4).toNat * (W2 / 4).toNat) tz) (idsTo (W2 / 4).toNat (tz / 4) ((H2 / 4).toNat * (W2 / 4).toNat)) (List.replicate ((H2 / 4).toNat * (W2 / 4).toNat) co) lv sh (fitTo (xs.take 1) (W2 * H2).toNat))) 5 1, .row Ad121 ((H2 / 4).toNat * (W2 / 4).toNat) c124 (u8s (List.replicate ((H2 / 4).toNat * (W2 / 4).toNat) tz)) 5 1, .row Ad122 ((H2 / 4).toNat * (W2 / 4).toNat) c125 (i64s (idsTo (W2 / 4).toNat (tz / 4) ((H2 / 4).toNat * (W2 / 4).toNat))) 3 1, .row Ad123 ((H2 / 4).toNat * (W2 / 4).toNat) c126 (bools (List.replicate ((H2 / 4).toNat * (W2 / 4).toNat) co)) 4 1, .blk b112 [.int .i64 W2, .int .i64 H2, .slice Ad108 ((W2 * H2).toNat) c109] 28, .row Ad108 ((W2 * H2).toNat) c109 (u8s (fitTo (xs.take 1) (W2 * H2).toNat)) 5 1, .blk b96 [.int .i64 W2, .int .i64 H2, .slice Ad132 ((W2 * H2).toNat) c133] 28, .row Ad92 ((W * H).toNat) c93 (u8s (passF up co W H (W / 4) (List.replicate ((H / 4).toNat * (W / 4).toNat) sz) (sevTo (idsTo (W / 4).toNat (sz / 4) ((H / 4).toNat * (W / 4).toNat)) k) (List.replicate ((H / 4).toNat * (W / 4).toNat) true) lv sh (fitTo xs (W * H).toNat))) 5 1, .blk b36 [.int .i64 (W / 4), .int .i64 (H / 4), .slice Ad25 ((H / 4).toNat * (W / 4).toNat) c28, .slice Ad26 ((H / 4).toNat * (W / 4).toNat) c29, .slice Ad27 ((H / 4).toNat * (W / 4).toNat) c30] 37, .row Ad25 ((H / 4).toNat * (W / 4).toNat) c28 (u8s (List.replicate ((H / 4).toNat * (W / 4).toNat) sz)) 5 1, .row Ad26 ((H / 4).toNat * (W / 4).toNat) c29 (i64s (sevTo (idsTo (W / 4).toNat (sz / 4) ((H / 4).toNat * (W / 4).toNat)) k)) 3 1, .row Ad27 ((H / 4).toNat * (W / 4).toNat) c30 (bools (List.replicate ((H / 4).toNat * (W / 4).toNat) true)) 4 1, .blk b16 [.int .i64 W, .int .i64 H, .slice Ad12 ((W * H).toNat) c13] 28, .row Ad12 ((W * H).toNat) c13 (u8s (fitTo xs (W * H).toNat)) 5 1, .blk b5 [.bool up, .bool co, .int .i64 lv0, .int .i64 sh0] 25, .blk b2 [.int .i64 a, .int .i64 b] 22] w_ ∧ Le [(0, .agg #[.int .i64 a, .int .i64 b]), (1, .slice A 1 c), (2, .agg #[.bool up, .bool co, .int .i64 lv0, .int .i64 sh0]), (3, .pointer (some ⟨b2, 0, none⟩)), (5, .pointer (some ⟨b5, 0, none⟩)), (6, .bool true), (7, .pointer (some ⟨b16, 0, none⟩)), (8, .pointer (some ⟨b36, 0, none⟩)), (9, .int .i64 (k : Int)), (10, .int .i64 lv), (11, .int .i64 sh), (12, .pointer (some ⟨b96, 0, none⟩)), (13, .int .i64 0), (14, .pointer (some ⟨b112, 0, none⟩)), (16, .bool false), (33, .bool (decide ((k : Int) < ((H / 4).toNat * (W / 4).toNat : Int)))), (65, .bool false), (68, .bool (decide ((1 : Int) < (m : Int))))] e_) ?_ ?_
        · -- region 17: its ways meet again
          refine run_region ?_
          refine Ops.v (Yv.move rfl) ?_
          refine Ops.v (Yv.eq rfl rfl) ?_
          refine Ops.dec1 (rfl) ?_
          refine Ops.v (Yv.move rfl) ?_
          refine Ops.vg ⟨_, rfl, rfl⟩ (Yv.loadn (cs := [.int .i64 W2, .int .i64 H2, .slice Ad132 ((W2 * H2).toNat) c133]) A28 S28 rfl (now (hs137.cells 6 rfl 0 3))) ?_
          refine Ops.vg ⟨_, rfl, rfl⟩ (Yv.loadn (cs := [.int .i64 W2, .int .i64 H2, .slice Ad108 ((W2 * H2).toNat) c109]) A28 S28 rfl (now (hs137.cells 4 rfl 0 3))) ?_
          refine Ops.s (Step.call rfl rfl (same_fun (hs137.rdRow 0 rfl) (hs137.rdRow 5 rfl)) (?_) ⟨_, rfl, rfl⟩ (by rfl))
          rintro _ w139 ⟨rfl, hs139⟩
          replace hs139 := hs137.call hs139
          refine Ops.dec1 (⟨⟨rfl, rfl⟩, alike_law (by first | exact hx | exact fun z hz => hx z (List.mem_of_mem_take hz)) (by first | omega | (rw [List.length_take]; omega)) (by omega) (by omega) hW2 hH2⟩) ?_
          refine Ops.v (Yv.pick1 rfl rfl) ?_
          refine Ops.v (Yv.assign rfl) ?_
          refine Ops.nil ?_
          refine ⟨hs139, Sub.le ⟨rfl, rfl, rfl, rfl, rfl, rfl, rfl, rfl, rfl, rfl, rfl, rfl, rfl, rfl, rfl, rfl, rfl, rfl, trivial⟩⟩
        rintro e140 w140 ⟨hs140, he140⟩
        refine k138 _ _ ?_
        refine Run.le he140 ?_
        refine run_ret ?_
        refine ⟨[.bool true], ⟨_, _, rfl, rfl, rfl⟩, ?_⟩
        exact ⟨rfl, hs140.pick [] _ (by decide) rfl⟩
      · -- no
        refine run_skip ?_
        refine k104 _ _ ?_
        refine run_seq fun K141 k141 => ?_
        refine run_region ?_
        refine Ops.v (Yv.idxa R22 rfl rfl (by decide) (by decide)) ?_
        refine Ops.v (Yv.load A3 rfl (now (hs103.cell 9 rfl 0 rfl))) ?_
        refine Ops.v (Yv.idxa R22 rfl rfl (by decide) (by decide)) ?_
        refine Ops.v (Yv.load A3 rfl (now (hs103.cell 9 rfl 1 rfl))) ?_
        refine Ops.v (Yv.move rfl) ?_
        refine Ops.s (Step.call rfl rfl (fit22_fun2 (hs103.rd hr) hx) (?_) True.intro (by rfl))
        rintro _ w145 ⟨W2, H2, Ad142, c143, hW2, hH2, rfl, hs145⟩
        replace hs145 := hs103.call hs145
        have hmW2 := mul_bd (a := W2) (b := H2) (x := 64) (y := 64) (by omega) (by omega) (by omega) (by omega)
        refine Ops.s (Step.alloc (cs := [.int .i64 0, .int .i64 0, .slice none 0 0]) hs145 Z28 rfl (fun b146 w147 hs147 hb147 => ?_) True.intro (by rfl))
        refine Ops.s (Step.store (vs := [.int .i64 W2, .int .i64 H2, .slice Ad142 ((W2 * H2).toNat) c143]) 0 hs147 rfl rfl rfl rfl S28 (Nat.le_of_ble_eq_true rfl) rfl (fun w149 hs149 => ?_) True.intro)
        replace hs149 : HS _ [.blk _ [_, _, _] _, .row _ _ _ _ _ _, .blk _ [_, _, _] _, .row _ _ _ _ _ _, .blk _ [_, _, _, _, _] _, .row _ _ _ _ _ _, .row _ _ _ _ _ _, .row _ _ _ _ _ _, .blk _ [_, _, _] _, .row _ _ _ _ _ _, .blk _ [_, _, _, _] _, .blk _ [_, _] _] _ := hs149
        refine Ops.nil ?_
        refine k141 _ _ ?_
        refine run_seq fun K150 k150 => ?_
        refine run_drawn [19] (fun x => Below (w149.drew).heap.size (w149.drew) x) ?_ Tf.mixed (by kernel_rfl) (fun _ _ _ h => h)
        have hs151 := hs149.drew
        have hS152 := Below.refl (w149.drew).heap.size (w149.drew)
        refine Drw.l 0 rfl (by kernel_rfl) hS152 (Yv.loadn (cs := [.int .i64 W2, .int .i64 H2, .slice Ad142 ((W2 * H2).toNat) c143]) A28 S28 rfl (fun _ hq_ => ((hs151.grow hq_).cells 0 rfl 0 3))) ?_
        refine Drw.l 1 rfl (by kernel_rfl) hS152 (Yv.loadn (cs := [.int .i64 W2, .int .i64 H2, .slice Ad142 ((W2 * H2).toNat) c143]) A28 S28 rfl (fun _ hq_ => ((hs151.grow hq_).cells 0 rfl 0 3))) ?_
        refine Drw.a 2 rfl (by kernel_rfl) (Yv.fld F25_3 rfl) ?_
        refine Drw.l 3 rfl (by kernel_rfl) hS152 (Yv.load A3 rfl (fun _ hq_ => ((hs151.grow hq_).cell 10 rfl 3 rfl))) ?_
        refine Drw.a 6 rfl (by kernel_rfl) (Yv.fld F25_1 rfl) ?_
        refine Drw.l 7 rfl (by kernel_rfl) hS152 (Yv.load A4 rfl (fun _ hq_ => ((hs151.grow hq_).cell 10 rfl 1 rfl))) ?_
        refine Drw.a 9 rfl (by kernel_rfl) (Yv.fld F25_0 rfl) ?_
        refine Drw.l 10 rfl (by kernel_rfl) hS152 (Yv.load A4 rfl (fun _ hq_ => ((hs151.grow hq_).cell 10 rfl 0 rfl))) ?_
        refine Drw.a 11 rfl (by kernel_rfl) (Yv.fld F25_1 rfl) ?_
        refine Drw.l 12 rfl (by kernel_rfl) hS152 (Yv.load A4 rfl (fun _ hq_ => ((hs151.grow hq_).cell 10 rfl 1 rfl))) ?_
        refine Drw.a 13 rfl (by kernel_rfl) (Yv.move rfl) ?_
        refine Drw.a 14 rfl (by kernel_rfl) (Yv.move rfl) ?_
        refine Drw.one 4 rfl (by kernel_rfl) (Step.call rfl rfl (bring_fun (by omega)) (?_) True.intro (by rfl))
        rintro _ _ ⟨rfl, rfl⟩
        refine ⟨fun _ h => h, ?_⟩
        have g153 := bringF_bd (i := sh0) (n := 5) (by decide)
        refine Drw.a 5 rfl (by kernel_rfl) ((Yv.shl8 rfl rfl ((bringF sh0 5).toNat) (by first | rfl | omega) (by omega) (by omega)).to (v := .int .u8 tz) (toV htz.symm)) ?_
        refine Drw.one 8 rfl (by kernel_rfl) (Step.call rfl rfl (cells22_fun (by omega) (by omega) (by omega)) (?_) True.intro (by rfl))
        rintro _ w164 ⟨Ad155, c158, Ad156, c159, Ad157, c160, rfl, hs164⟩
        have hS165 := HS.keepS hS152 (Nat.le_refl _) hs164
        refine ⟨fun _ _ => hS165, ?_⟩
        replace hs164 := hs151.call hs164
        refine Drw.one 15 rfl (by kernel_rfl) (Step.call rfl rfl (pass_good (hs164.rdRow 4 rfl) (fitTo_bytes hx _) (hs164.rdRow 0 rfl) (Bytes.rep (by omega)) (hs164.rdRow 1 rfl) (hs164.rdRow 2 rfl) (good_cells (by omega) (by omega) (by omega) (by omega) (by omega))) (?_) True.intro (by rfl))
        rintro _ w169 ⟨Ad166, c167, rfl, hs169⟩
        have hS170 := HS.keepS hS165 (Nat.le_refl _) hs169
        refine ⟨fun _ _ => hS170, ?_⟩
        replace hs169 := hs164.call hs169
        refine Drw.a 16 rfl (by kernel_rfl) (Yv.move rfl) ?_
        refine Drw.a 17 rfl (by kernel_rfl) (Yv.extract rfl rfl) ?_
        refine Drw.a 18 rfl (by kernel_rfl) (Yv.extract rfl rfl) ?_
        refine Drw.one 19 rfl (by kernel_rfl) (Step.store (vs := [.int .i64 W2, .int .i64 H2, .slice Ad166 ((W2 * H2).toNat) c167]) 6 hs169 rfl rfl rfl rfl S28 (Nat.le_of_ble_eq_true rfl) rfl (fun w171 hs171 => ?_) True.intro)
        refine ⟨fun h => absurd h (by decide), ?_⟩
        replace hs171 : HS _ [.row _ _ _ _ _ _, .row _ _ _ _ _ _, .row _ _ _ _ _ _, .row _ _ _ _ _ _, .blk _ [_, _, _] _, .row _ _ _ _ _ _, .blk _ [_, _, _] _, .row _ _ _ _ _ _, .blk _ [_, _, _, _, _] _, .row _ _ _ _ _ _, .row _ _ _ _ _ _, .row _ _ _ _ _ _, .blk _ [_, _, _] _, .row _ _ _ _ _ _, .blk _ [_, _, _, _] _, .blk _ [_, _] _] _ := hs171
        refine Drw.a 20 rfl (by kernel_rfl) (Yv.assign rfl) ?_
        refine Drw.done ?_ (by kernel_rfl)
        refine k150 _ _ ?_
        refine run_seq fun K172 k172 => ?_
        refine Run.cut (fun e_ w_ => HS w [.row Ad166 ((W2 * H2).toNat) c167 (u8s (passF up co W2 H2 (W2 / 4) (List.replicate ((H2 / 4).toNat * (W2 / 4).toNat) tz) (idsTo (W2 / 4).toNat (tz / 4) ((H2 / 4).toNat * (W2 / 4).toNat)) (List.replicate ((H2 / 4).toNat * (W2 / 4).toNat) co) lv sh (fitTo xs (W2 * H2).toNat))) 5 1, .row Ad155 ((H2 / 4).toNat * (W2 / 4).toNat) c158 (u8s (List.replicate ((H2 / 4).toNat * (W2 / 4).toNat) tz)) 5 1, .row Ad156 ((H2 / 4).toNat * (W2 / 4).toNat) c159 (i64s (idsTo (W2 / 4).toNat (tz / 4) ((H2 / 4).toNat * (W2 / 4).toNat))) 3 1, .row Ad157 ((H2 / 4).toNat * (W2 / 4).toNat) c160 (bools (List.replicate ((H2 / 4).toNat * (W2 / 4).toNat) co)) 4 1, .blk b146 [.int .i64 W2, .int .i64 H2, .slice Ad142 ((W2 * H2).toNat) c143] 28, .row Ad142 ((W2 * H2).toNat) c143 (u8s (fitTo xs (W2 * H2).toNat)) 5 1, .blk b96 [.int .i64 W2, .int .i64 H2, .slice Ad166 ((W2 * H2).toNat) c167] 28, .row Ad92 ((W * H).toNat) c93 (u8s (passF up co W H (W / 4) (List.replicate ((H / 4).toNat * (W / 4).toNat) sz) (sevTo (idsTo (W / 4).toNat (sz / 4) ((H / 4).toNat * (W / 4).toNat)) k) (List.replicate ((H / 4).toNat * (W / 4).toNat) true) lv sh (fitTo xs (W * H).toNat))) 5 1, .blk b36 [.int .i64 (W / 4), .int .i64 (H / 4), .slice Ad25 ((H / 4).toNat * (W / 4).toNat) c28, .slice Ad26 ((H / 4).toNat * (W / 4).toNat) c29, .slice Ad27 ((H / 4).toNat * (W / 4).toNat) c30] 37, .row Ad25 ((H / 4).toNat * (W / 4).toNat) c28 (u8s (List.replicate ((H / 4).toNat * (W / 4).toNat) sz)) 5 1, .row Ad26 ((H / 4).toNat * (W / 4).toNat) c29 (i64s (sevTo (idsTo (W / 4).toNat (sz / 4) ((H / 4).toNat * (W / 4).toNat)) k)) 3 1, .row Ad27 ((H / 4).toNat * (W / 4).toNat) c30 (bools (List.replicate ((H / 4).toNat * (W / 4).toNat) true)) 4 1, .blk b16 [.int .i64 W, .int .i64 H, .slice Ad12 ((W * H).toNat) c13] 28, .row Ad12 ((W * H).toNat) c13 (u8s (fitTo xs (W * H).toNat)) 5 1, .blk b5 [.bool up, .bool co, .int .i64 lv0, .int .i64 sh0] 25, .blk b2 [.int .i64 a, .int .i64 b] 22] w_ ∧ Le [(0, .agg #[.int .i64 a, .int .i64 b]), (1, .slice A m c), (2, .agg #[.bool up, .bool co, .int .i64 lv0, .int .i64 sh0]), (3, .pointer (some ⟨b2, 0, none⟩)), (5, .pointer (some ⟨b5, 0, none⟩)), (6, .bool true), (7, .pointer (some ⟨b16, 0, none⟩)), (8, .pointer (some ⟨b36, 0, none⟩)), (9, .int .i64 (k : Int)), (10, .int .i64 lv), (11, .int .i64 sh), (12, .pointer (some ⟨b96, 0, none⟩)), (13, .int .i64 0), (14, .pointer (some ⟨b146, 0, none⟩)), (16, .bool false), (33, .bool (decide ((k : Int) < ((H / 4).toNat * (W / 4).toNat : Int)))), (65, .bool false), (68, .bool (decide ((1 : Int) < (m : Int))))] e_) ?_ ?_
        · -- region 17: its ways meet again
          refine run_region ?_
          refine Ops.v (Yv.move rfl) ?_
          refine Ops.v (Yv.eq rfl rfl) ?_
          refine Ops.dec1 (rfl) ?_
          refine Ops.v (Yv.move rfl) ?_
          refine Ops.vg ⟨_, rfl, rfl⟩ (Yv.loadn (cs := [.int .i64 W2, .int .i64 H2, .slice Ad166 ((W2 * H2).toNat) c167]) A28 S28 rfl (now (hs171.cells 6 rfl 0 3))) ?_
          refine Ops.vg ⟨_, rfl, rfl⟩ (Yv.loadn (cs := [.int .i64 W2, .int .i64 H2, .slice Ad142 ((W2 * H2).toNat) c143]) A28 S28 rfl (now (hs171.cells 4 rfl 0 3))) ?_
          refine Ops.s (Step.call rfl rfl (same_fun (hs171.rdRow 0 rfl) (hs171.rdRow 5 rfl)) (?_) ⟨_, rfl, rfl⟩ (by rfl))
          rintro _ w173 ⟨rfl, hs173⟩
          replace hs173 := hs171.call hs173
          refine Ops.dec1 (⟨⟨rfl, rfl⟩, alike_law (by first | exact hx | exact fun z hz => hx z (List.mem_of_mem_take hz)) (by first | omega | (rw [List.length_take]; omega)) (by omega) (by omega) hW2 hH2⟩) ?_
          refine Ops.v (Yv.pick1 rfl rfl) ?_
          refine Ops.v (Yv.assign rfl) ?_
          refine Ops.nil ?_
          refine ⟨hs173, Sub.le ⟨rfl, rfl, rfl, rfl, rfl, rfl, rfl, rfl, rfl, rfl, rfl, rfl, rfl, rfl, rfl, rfl, rfl, rfl, trivial⟩⟩
        rintro e174 w174 ⟨hs174, he174⟩
        refine k172 _ _ ?_
        refine Run.le he174 ?_
        refine run_ret ?_
        refine ⟨[.bool true], ⟨_, _, rfl, rfl, rfl⟩, ?_⟩
        exact ⟨rfl, hs174.pick [] _ (by decide) rfl⟩

end Go.Proofs.Zed
