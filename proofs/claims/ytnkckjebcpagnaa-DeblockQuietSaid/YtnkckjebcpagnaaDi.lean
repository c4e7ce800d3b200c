/- Plain laws on passes that change nothing (no program in sight): cells of one quiet block; samples that are all alike. -/
import Derived.Test.YtnkckjebcpagnaaDg
set_option linter.unusedVariables false
namespace Go.Proofs.Zed
open Go Go.RowKit

/-- The first k numbers are 7. -/
def sevTo (ids : List Int) : Nat → List Int
  | 0 => ids
  | k + 1 => (sevTo ids k).set k 7
theorem sevTo_length (ids : List Int) : ∀ k, (sevTo ids k).length = ids.length
  | 0 => rfl
  | k + 1 => by unfold sevTo; rw [List.length_set, sevTo_length ids k]
theorem sevTo_at {ids : List Int} {j : Nat} (hj : j < ids.length) : ∀ k, j < k → gi (sevTo ids k) j = 7
  | 0, h => by omega
  | k + 1, h => by
    unfold sevTo
    by_cases e : j = k
    · subst e
      rw [gi_set_eq (by omega) (by rw [sevTo_length]; exact hj)]
    · rw [gi_set_ne (by omega)]
      exact sevTo_at hj k (by omega)
theorem gb_rep1 {n : Nat} {i : Int} (h0 : 0 ≤ i) (h1 : i < n) : gb (List.replicate n true) i = true := by
  unfold gb
  rw [List.getD_eq_getElem?_getD, List.getElem?_replicate, if_pos (by omega)]; rfl
theorem passTo_id {up co : Bool} {W H mW li ed th : Int} {tx ids : List Int} {qs : List Bool} {pix : List Int} {N : Nat} (h : ∀ c, c < N → passStep up co W H mW tx ids qs li ed th pix c = pix) :
    ∀ m, m ≤ N → passTo up co W H mW tx ids qs li ed th pix m = pix
  | 0, _ => rfl
  | m + 1, hm => by
    unfold passTo
    rw [passTo_id h m (by omega), h m (by omega)]
/-- All cells of one quiet block. -/
theorem quiet_law {up co : Bool} {W H lv sh : Int} {tx ids pix : List Int} (hW : 4 ≤ W ∧ W ≤ 64 ∧ W % 4 = 0) (hH : 4 ≤ H ∧ H ≤ 64 ∧ H % 4 = 0) (htx : tx.length = (H / 4).toNat * (W / 4).toNat) (hids : ids.length = (H / 4).toNat * (W / 4).toNat) :
    passF up co W H (W / 4) tx (sevTo ids ((H / 4).toNat * (W / 4).toNat)) (List.replicate ((H / 4).toNat * (W / 4).toNat) true) lv sh pix = pix := by
  unfold passF
  split
  · rfl
  · rw [htx]
    refine passTo_id (N := (H / 4).toNat * (W / 4).toNat) (fun c hc => ?_) _ (Nat.le_refl _)
    obtain ⟨hx, hy⟩ := cellxy ⟨hW.1, hW.2.2⟩ ⟨hH.1, hH.2.2⟩ hc
    have hcd : W / 4 * ((c : Int) / (W / 4)) + (c : Int) % (W / 4) = c := Int.mul_ediv_add_emod _ _
    rw [passStep, if_pos]
    by_cases h0 : (bif up then 4 * ((c : Int) % (W / 4)) else 4 * ((c : Int) / (W / 4))) = 0
    · exact .inl (.inl h0)
    · right
      have hb : 0 ≤ (c : Int) - (bif up then 1 else W / 4) := by
        cases up
        · simp only [cond_false] at h0 ⊢
          have := ge_of_div (a := (c : Int)) (b := W / 4) (by omega) (by omega)
          omega
        · simp only [cond_true] at h0 ⊢
          have := mod_le (a := (c : Int)) (b := W / 4) (by omega) (by omega)
          omega
      have hb1 : (0 : Int) < (bif up then 1 else W / 4) := by cases up <;> simp only [cond_false, cond_true] <;> omega
      generalize hq : (c : Int) - (bif up then 1 else W / 4) = q at hb ⊢
      obtain ⟨b, rfl⟩ := Int.eq_ofNat_of_zero_le hb
      have hbc : b < c := by omega
      exact ⟨⟨by rw [sevTo_at (by omega) _ hc, sevTo_at (by omega) _ (by omega)], gb_rep1 (by omega) (by omega)⟩, gb_rep1 (by omega) (by omega)⟩

/-! ### Samples that are all alike -/
theorem set_rep {n i : Nat} {v : Int} : (List.replicate n v).set i v = List.replicate n v := by simp
theorem gath_rep {L N : Nat} {v first across : Int} (h : ∀ j : Nat, j < N → 0 ≤ first + (j : Int) * across ∧ first + (j : Int) * across < L) : gathTo (List.replicate L v) first across N N = List.replicate N v := by
  refine eq_to (k := N) (fun j hj => ?_) (by rw [gathTo_length]; exact Nat.le_refl _) (by rw [gathTo_length, List.length_replicate])
  rw [gath_at hj N hj, gi_rep (h j hj).1 (h j hj).2, gi_rep (by omega) (by omega)]
theorem scat_rep {L n : Nat} {v first across : Int} : ∀ m : Nat, m ≤ n → scatTo (List.replicate n v) (List.replicate L v) first across m = List.replicate L v
  | 0, _ => rfl
  | m + 1, hm => by
    unfold scatTo
    rw [scat_rep m (by omega), gi_rep (by omega) (by omega), set_rep]
/-- How often the middle sample counts. -/
def cntTo (n mid : Int) : Nat → Int
  | 0 => 0
  | k + 1 => if -mid ≤ -n + (k : Int) ∧ -n + (k : Int) ≤ mid then cntTo n mid k + 2 else cntTo n mid k + 1
theorem sum_rep {N : Nat} {v half n mid i : Int} (h : ∀ j : Int, 0 ≤ half + clipF j (-n - 1) n ∧ half + clipF j (-n - 1) n < N) : ∀ k, sumTo (List.replicate N v) half n mid i k = v * cntTo n mid k
  | 0 => by simp [sumTo, cntTo]
  | k + 1 => by
    have hv : ∀ j, wideV (List.replicate N v) half n i j = v := fun j => gi_rep (h _).1 (h _).2
    unfold sumTo cntTo
    rw [sum_rep h k, hv]
    split
    · rw [Int.mul_add]; omega
    · rw [Int.mul_add]; omega
theorem wide_rep {N : Nat} {v half n mid sh : Int} (hs : ∀ i, (sumTo (List.replicate N v) half n mid i (2 * n + 1).toNat + 1 * 2 ^ (sh - 1).toNat) / 2 ^ sh.toNat % 256 = v) : ∀ m, wideTo (List.replicate N v) half n mid sh m = List.replicate N v
  | 0 => rfl
  | m + 1 => by
    unfold wideTo
    rw [wide_rep hs m, hs, set_rep]
theorem narrow_rep {N : Nat} {v half th : Int} (hv : 0 ≤ v ∧ v ≤ 255) (hg : ∀ i : Int, 0 ≤ i → i < N → gi (List.replicate N v) i = v) (hh : 2 ≤ half ∧ half + 2 ≤ N) : narrowF (List.replicate N v) half th = List.replicate N v := by
  have hp0 : pF (List.replicate N v) half 0 = v := hg _ (by omega) (by omega)
  have hp1 : pF (List.replicate N v) half 1 = v := hg _ (by omega) (by omega)
  have hq0 : qF (List.replicate N v) half 0 = v := hg _ (by omega) (by omega)
  have hq1 : qF (List.replicate N v) half 1 = v := hg _ (by omega) (by omega)
  have hf : fF (List.replicate N v) half th = 0 := by
    unfold fF
    rw [hp1, hp0, hq0, hq1, Int.sub_self]
    split <;> rfl
  have ha : aF (List.replicate N v) half th = 0 := by unfold aF; rw [hf]; rfl
  have hc : clipF v 0 255 = v := by unfold clipF; omega
  unfold narrowF setF
  simp only [hf, ha, hp1, hp0, hq0, hq1]
  have h3 : byteF (0 + 3) / 2 ^ 3 = 0 := rfl
  have h4 : ((0 : Int) + 1) / 2 ^ 1 = 0 := rfl
  rw [h3, h4]
  simp only [Int.sub_zero, Int.add_zero, hc, set_rep, ite_self]
theorem filter_rep {n v li ed th : Int} (hv : 0 ≤ v ∧ v ≤ 255) (hn : n = 4 ∨ n = 6 ∨ n = 8 ∨ n = 14) : filterF (List.replicate n.toNat v) (n / 2) li ed th = List.replicate n.toNat v := by
  have hg : ∀ i : Int, 0 ≤ i → i < n.toNat → gi (List.replicate n.toNat v) i = v := fun i h0 h1 => gi_rep h0 h1
  unfold filterF wideF
  rw [List.length_replicate]
  split
  · rfl
  · split
    · rename_i h
      have : n = 6 := by omega
      subst this
      refine wide_rep (fun i => ?_) _
      rw [sum_rep (fun j => by unfold clipF; omega), show cntTo 2 1 ((2 : Int) * 2 + 1).toNat = 8 from rfl, show (2 : Int) ^ ((3 : Int) - 1).toNat = 4 from rfl, show (2 : Int) ^ (3 : Int).toNat = 8 from rfl]
      omega
    · split
      · rename_i h
        have : n = 14 := by omega
        subst this
        refine wide_rep (fun i => ?_) _
        rw [sum_rep (fun j => by unfold clipF; omega), show cntTo 6 1 ((2 : Int) * 6 + 1).toNat = 16 from rfl, show (2 : Int) ^ ((4 : Int) - 1).toNat = 8 from rfl, show (2 : Int) ^ (4 : Int).toNat = 16 from rfl]
        omega
      · split
        · rename_i h
          refine wide_rep (fun i => ?_) _
          rw [sum_rep (fun j => by unfold clipF; omega), show cntTo 3 0 ((2 : Int) * 3 + 1).toNat = 8 from rfl, show (2 : Int) ^ ((3 : Int) - 1).toNat = 4 from rfl, show (2 : Int) ^ (3 : Int).toNat = 8 from rfl]
          omega
        · exact narrow_rep hv hg (by omega)
theorem cell_rep {L : Nat} {v first0 along across n li ed th : Int} (hv : 0 ≤ v ∧ v ≤ 255) (hn : n = 4 ∨ n = 6 ∨ n = 8 ∨ n = 14) : ∀ m : Nat,
    (∀ kk : Nat, kk < m → ∀ j : Int, 0 ≤ j → j < n → 0 ≤ (first0 + (kk : Int) * along - n / 2 * across) + j * across ∧ (first0 + (kk : Int) * along - n / 2 * across) + j * across < L) →
    cellStep (List.replicate L v) first0 along across n li ed th m = List.replicate L v
  | 0, _ => rfl
  | m + 1, h => by
    unfold cellStep
    rw [cell_rep hv hn m (fun kk hkk => h kk (by omega)), lineStep, gath_rep (fun j hj => h m (by omega) j (by omega) (by omega)), filter_rep hv hn, scat_rep _ (Nat.le_refl _)]
theorem step_rep {up co : Bool} {W H sz v li ed th : Int} {ids : List Int} {qs : List Bool} {c : Nat} (hv : 0 ≤ v ∧ v ≤ 255) (hsz : 0 < sz) (hs4 : sz % 4 = 0) (hW : 4 ≤ W ∧ W ≤ 64 ∧ W % 4 = 0) (hH : 4 ≤ H ∧ H ≤ 64 ∧ H % 4 = 0)
    (hc : c < (H / 4).toNat * (W / 4).toNat) : passStep up co W H (W / 4) (List.replicate ((H / 4).toNat * (W / 4).toNat) sz) ids qs li ed th (List.replicate (W * H).toNat v) c = List.replicate (W * H).toNat v := by
  have hWH : ((W * H).toNat : Int) = W * H := Int.toNat_of_nonneg (Int.mul_nonneg (by omega) (by omega))
  unfold passStep
  split
  · rfl
  · rename_i hg
    obtain ⟨hx, hy⟩ := cellxy ⟨hW.1, hW.2.2⟩ ⟨hH.1, hH.2.2⟩ hc
    simp only [not_or, Decidable.not_not] at hg
    obtain ⟨⟨ha0, hasz⟩, _⟩ := hg
    generalize hT : tapsF _ co = n
    have hT2 := hT ▸ tapsF_cases (min (min (min (gi (List.replicate ((H / 4).toNat * (W / 4).toNat) sz) c) (gi (List.replicate ((H / 4).toNat * (W / 4).toNat) sz) ((c : Int) - bif up then 1 else W / 4))) (bif up then 4 * ((c : Int) % (W / 4)) else 4 * ((c : Int) / (W / 4)))) ((bif up then W else H) - (bif up then 4 * ((c : Int) % (W / 4)) else 4 * ((c : Int) / (W / 4))))) co
    have hn4 : n = 4 ∨ n = 6 ∨ n = 8 ∨ n = 14 := by omega
    cases up
    · simp only [cond_false] at ha0 hasz hT2 ⊢
      have hnh : 0 ≤ n / 2 ∧ n - n / 2 = n / 2 ∧ n / 2 ≤ 4 * ((c : Int) / (W / 4)) ∧ n / 2 ≤ H - 4 * ((c : Int) / (W / 4)) := by omega
      clear hT2 hT
      refine cell_rep hv hn4 4 fun kk hkk j hj0 hj1 => ?_
      have hplace := place_in (W := W) (H := H) (r := 4 * ((c : Int) / (W / 4)) - n / 2 + j) (c := 4 * ((c : Int) % (W / 4)) + kk) (by omega) (by omega) (by omega) (by omega)
      have he : 4 * ((c : Int) / (W / 4)) * W + 4 * ((c : Int) % (W / 4)) + (kk : Int) * 1 - n / 2 * W + j * W = (4 * ((c : Int) / (W / 4)) - n / 2 + j) * W + (4 * ((c : Int) % (W / 4)) + kk) := by
        rw [Int.add_mul, Int.sub_mul]; omega
      rw [he, hWH]
      exact hplace
    · simp only [cond_true] at ha0 hasz hT2 ⊢
      have hnh : 0 ≤ n / 2 ∧ n - n / 2 = n / 2 ∧ n / 2 ≤ 4 * ((c : Int) % (W / 4)) ∧ n / 2 ≤ W - 4 * ((c : Int) % (W / 4)) := by omega
      clear hT2 hT
      refine cell_rep hv hn4 4 fun kk hkk j hj0 hj1 => ?_
      have hplace := place_in (W := W) (H := H) (r := 4 * ((c : Int) / (W / 4)) + kk) (c := 4 * ((c : Int) % (W / 4)) - n / 2 + j) (by omega) (by omega) (by omega) (by omega)
      have he : 4 * ((c : Int) / (W / 4)) * W + 4 * ((c : Int) % (W / 4)) + (kk : Int) * W - n / 2 * 1 + j * 1 = (4 * ((c : Int) / (W / 4)) + kk) * W + (4 * ((c : Int) % (W / 4)) - n / 2 + j) := by
        rw [Int.add_mul]; omega
      rw [he, hWH]
      exact hplace
theorem fit_rep {xs : List Int} (h : xs.length ≤ 1) : ∀ k, fitTo xs k = List.replicate k (fitV xs 0)
  | 0 => rfl
  | k + 1 => by
    have : fitV xs k = fitV xs 0 := by
      unfold fitV
      split
      · have h1 : (xs.length : Int) = 1 := by omega
        rw [h1, Int.emod_one, Int.emod_one]
      · rfl
    rw [fitTo, fit_rep h k, this, List.replicate_succ']
/-- A plane of one sample. -/
theorem alike_law {up co : Bool} {W H sz lv sh : Int} {xs ids : List Int} {qs : List Bool} (hx : Bytes xs) (h1 : xs.length ≤ 1) (hsz : 0 < sz) (hs4 : sz % 4 = 0) (hW : 4 ≤ W ∧ W ≤ 64 ∧ W % 4 = 0) (hH : 4 ≤ H ∧ H ≤ 64 ∧ H % 4 = 0) :
    passF up co W H (W / 4) (List.replicate ((H / 4).toNat * (W / 4).toNat) sz) ids qs lv sh (fitTo xs (W * H).toNat) = fitTo xs (W * H).toNat := by
  unfold passF
  split
  · rfl
  · rw [List.length_replicate, fit_rep h1]
    exact passTo_id (N := (H / 4).toNat * (W / 4).toNat) (fun c hc => step_rep (fitV_byte hx 0) hsz hs4 hW hH hc) _ (Nat.le_refl _)
end Go.Proofs.Zed
