/- Plain laws on what a pass over edges leaves as it was (no program in sight): samples that are away from every edge stay. -/
import Derived.Test.YtnkckjebcpagnaaDa
set_option linter.unusedVariables false
namespace Go.Proofs.Zed
open Go Go.RowKit

theorem pow3 {m : Nat} (h : m < 3) : (2 : Int) ^ m = 1 ∨ (2 : Int) ^ m = 2 ∨ (2 : Int) ^ m = 4 := by
  rcases m with _ | _ | _ | m
  · exact .inl rfl
  · exact .inr (.inl rfl)
  · exact .inr (.inr rfl)
  · omega
theorem natmul {W H : Int} (hW : 0 ≤ W) (hH : 0 ≤ H) : (((H / 4).toNat * (W / 4).toNat : Nat) : Int) = W / 4 * (H / 4) := by
  rw [Int.natCast_mul, Int.toNat_of_nonneg (Int.ediv_nonneg hH (by decide)), Int.toNat_of_nonneg (Int.ediv_nonneg hW (by decide)), Int.mul_comm]
theorem good_cells {W H sz lv sh : Int} (hW : 4 ≤ W ∧ W ≤ 64 ∧ W % 4 = 0) (hH : 4 ≤ H ∧ H ≤ 64 ∧ H % 4 = 0) (hsz : sz = 4 ∨ sz = 8 ∨ sz = 16 ∨ sz = 32 ∨ sz = 64) (hlv : 0 ≤ lv ∧ lv ≤ 63) (hsh : 0 ≤ sh ∧ sh ≤ 7) :
    ¬ passBad W H (W * H).toNat (W / 4) (H / 4) (List.replicate ((H / 4).toNat * (W / 4).toNat) sz) ((H / 4).toNat * (W / 4).toNat) ((H / 4).toNat * (W / 4).toNat) ((H / 4).toNat * (W / 4).toNat) lv sh := by
  have hn := natmul (W := W) (H := H) (by omega) (by omega)
  have hWH : ((W * H).toNat : Int) = W * H := Int.toNat_of_nonneg (Int.mul_nonneg (by omega) (by omega))
  have hc : checkF W H (W * H).toNat = 0 := by
    rcases checkF_iff W H (W * H).toNat with h | h
    · exact h.1
    · exact absurd ⟨by omega, by omega, by omega, by omega, hWH⟩ h.2
  intro h
  rcases h with (h | h) | h
  · refine h ⟨?_, ⟨⟨hn, hn⟩, hn⟩, ?_⟩
    · rw [hc]; omega
    · rw [Bool.not_eq_true', List.any_eq_false]
      intro x hx
      rw [(List.mem_replicate.1 hx).2]
      rcases hsz with rfl | rfl | rfl | rfl | rfl <;> decide
  · exact h hlv
  · exact h hsh

theorem scat_keep {f pix : List Int} {first across k : Int} : ∀ m : Nat, (∀ j : Nat, j < m → (first + (j : Int) * across).toNat = k.toNat → gi f j = gi pix k) → gi (scatTo f pix first across m) k = gi pix k
  | 0, _ => rfl
  | m + 1, h => by
    have ih := scat_keep m (fun j hj => h j (by omega))
    unfold scatTo
    by_cases e : (first + (m : Int) * across).toNat = k.toNat
    · by_cases hl : (first + (m : Int) * across).toNat < (scatTo f pix first across m).length
      · rw [gi_set_eq e hl]; exact h m (by omega) e
      · rw [set_out hl]; exact ih
    · rw [gi_set_ne e]; exact ih
theorem gath_at {pix : List Int} {first across : Int} {N : Nat} {j : Nat} (hj : j < N) : ∀ m : Nat, j < m → gi (gathTo pix first across N m) j = gi pix (first + (j : Int) * across)
  | 0, h => by omega
  | m + 1, h => by
    unfold gathTo
    by_cases e : j = m
    · subst e
      rw [gi_set_eq (by omega) (by rw [gathTo_length]; exact hj)]
    · rw [gi_set_ne (by omega)]
      exact gath_at hj m (by omega)
theorem wide_keep {xs : List Int} {half n mid sh k : Int} : ∀ m : Nat, (∀ j : Nat, j < m → (half + (-n + (j : Int))).toNat ≠ k.toNat) → gi (wideTo xs half n mid sh m) k = gi xs k
  | 0, _ => rfl
  | m + 1, h => by
    unfold wideTo
    rw [gi_set_ne (h m (by omega))]
    exact wide_keep m (fun j hj => h j (by omega))
/-- The outermost samples of a longest line stay. -/
theorem filter_ends {xs : List Int} {li ed th k : Int} (hl : xs.length = 14) (hk : k = 0 ∨ k = 13) : gi (filterF xs 7 li ed th) k = gi xs k := by
  unfold filterF wideF
  split
  · rfl
  · split
    · rename_i h; omega
    · split
      · exact wide_keep _ (fun j hj => by omega)
      · split
        · exact wide_keep _ (fun j hj => by omega)
        · unfold narrowF setF
          simp only []
          split
          · rw [gi_set_ne (by omega), gi_set_ne (by omega)]
          · rw [gi_set_ne (by omega), gi_set_ne (by omega), gi_set_ne (by omega), gi_set_ne (by omega)]
/-- A line that does not come to a place, or only by the ends of a longest one, leaves it. -/
theorem line_keep {pix : List Int} {first across n li ed th k : Int} (hn : n = 4 ∨ n = 6 ∨ n = 8 ∨ n = 14) (hk : 0 ≤ k) (h0 : ∀ j : Int, 0 ≤ j → j < n → 0 ≤ first + j * across)
    (h : ∀ j : Int, 0 ≤ j → j < n → first + j * across = k → n = 14 ∧ (j = 0 ∨ j = 13)) : gi (lineStep pix first across n li ed th) k = gi pix k := by
  unfold lineStep
  refine scat_keep _ fun j hj e => ?_
  have hj2 : (j : Int) < n := by omega
  have hf := h0 j (by omega) hj2
  have he : first + (j : Int) * across = k := by omega
  obtain ⟨h14, hends⟩ := h j (by omega) hj2 he
  subst h14
  rw [show (14 : Int) / 2 = 7 from rfl, show Int.toNat 14 = 14 from rfl, filter_ends (gathTo_length _ _ _ _ _) hends, gath_at (by omega) _ (by omega), he]

theorem cell_keep {pix : List Int} {first0 along across n li ed th k : Int} (hn : n = 4 ∨ n = 6 ∨ n = 8 ∨ n = 14) (hk : 0 ≤ k) : ∀ m : Nat,
    (∀ kk : Nat, kk < m → ∀ j : Int, 0 ≤ j → j < n → 0 ≤ (first0 + (kk : Int) * along - n / 2 * across) + j * across ∧ ((first0 + (kk : Int) * along - n / 2 * across) + j * across = k → n = 14 ∧ (j = 0 ∨ j = 13))) →
    gi (cellStep pix first0 along across n li ed th m) k = gi pix k
  | 0, _ => rfl
  | m + 1, h => by
    unfold cellStep
    rw [line_keep hn hk (fun j a b => (h m (by omega) j a b).1) (fun j a b => (h m (by omega) j a b).2)]
    exact cell_keep hn hk m (fun kk hkk => h kk (by omega))
theorem tapsF_n (r : Int) (co : Bool) : tapsF r co = 4 ∨ tapsF r co = 6 ∨ tapsF r co = 8 ∨ tapsF r co = 14 := by
  rcases tapsF_cases r co with h | h | h | h <;> omega
theorem cellxy {W H : Int} {k : Nat} (hW : 4 ≤ W ∧ W % 4 = 0) (hH : 4 ≤ H ∧ H % 4 = 0) (hk : k < (H / 4).toNat * (W / 4).toNat) :
    (0 ≤ (k : Int) % (W / 4) ∧ (k : Int) % (W / 4) < W / 4) ∧ (0 ≤ (k : Int) / (W / 4) ∧ (k : Int) / (W / 4) < H / 4) := by
  have hn := natmul (W := W) (H := H) (by omega) (by omega)
  have hk2 : (k : Int) < W / 4 * (H / 4) := by omega
  exact ⟨⟨Int.emod_nonneg _ (by omega), Int.emod_lt_of_pos _ (by omega)⟩, Int.ediv_nonneg (by omega) (by omega), Int.ediv_lt_of_lt_mul (by omega) (by rw [Int.mul_comm]; exact hk2)⟩

theorem near_arith {c at_ n j sz side : Int} (hsz : sz = 16 ∨ sz = 32 ∨ sz = 64) (hm : at_ % sz = 0) (h0 : ¬ at_ = 0) (h1 : 0 ≤ at_) (h2 : at_ < side) (hn : n = 4 ∨ n = 6 ∨ n = 8 ∨ n = 14) (hj0 : 0 ≤ j) (hj1 : j < n) (hc : c = at_ - n / 2 + j)
    (hf : ¬ ((c % sz < 6 ∧ sz ≤ c) ∨ (sz - 6 ≤ c % sz ∧ c / sz * sz + sz < side))) : n = 14 ∧ (j = 0 ∨ j = 13) := by
  rcases hn with rfl | rfl | rfl | rfl
  · exfalso; rcases hsz with rfl | rfl | rfl <;> omega
  · exfalso; rcases hsz with rfl | rfl | rfl <;> omega
  · exfalso; rcases hsz with rfl | rfl | rfl <;> omega
  · refine ⟨rfl, ?_⟩
    rcases hsz with rfl | rfl | rfl <;> omega
theorem step_keep_up {W H sz li ed th : Int} {co : Bool} {pix ids : List Int} {qs : List Bool} {c p : Nat} (hsz : sz = 16 ∨ sz = 32 ∨ sz = 64) (hW : 4 ≤ W ∧ W ≤ 64 ∧ W % 4 = 0) (hH : 4 ≤ H ∧ H ≤ 64 ∧ H % 4 = 0)
    (hc : c < (H / 4).toNat * (W / 4).toNat) (hn : ¬ (((p : Int) % W % sz < 6 ∧ sz ≤ (p : Int) % W) ∨ (sz - 6 ≤ (p : Int) % W % sz ∧ (p : Int) % W / sz * sz + sz < W))) :
    gi (passStep true co W H (W / 4) (List.replicate ((H / 4).toNat * (W / 4).toNat) sz) ids qs li ed th pix c) p = gi pix p := by
  unfold passStep
  split
  · rfl
  · rename_i hg
    obtain ⟨hx, hy⟩ := cellxy ⟨hW.1, hW.2.2⟩ ⟨hH.1, hH.2.2⟩ hc
    have hsc : gi (List.replicate ((H / 4).toNat * (W / 4).toNat) sz) c = sz := gi_rep (by omega) (by omega)
    rw [hsc] at hg
    simp only [cond_true, not_or, Decidable.not_not] at hg
    obtain ⟨⟨ha0, hasz⟩, _⟩ := hg
    simp only [cond_true]
    generalize hT : tapsF _ co = n
    have hT2 := hT ▸ tapsF_cases (min (min (min (gi (List.replicate ((H / 4).toNat * (W / 4).toNat) sz) c) (gi (List.replicate ((H / 4).toNat * (W / 4).toNat) sz) ((c : Int) - 1))) (4 * ((c : Int) % (W / 4)))) (W - 4 * ((c : Int) % (W / 4)))) co
    have hn4 : n = 4 ∨ n = 6 ∨ n = 8 ∨ n = 14 := by omega
    have hnh : 0 ≤ n / 2 ∧ n - n / 2 = n / 2 ∧ n / 2 ≤ 4 * ((c : Int) % (W / 4)) ∧ n / 2 ≤ W - 4 * ((c : Int) % (W / 4)) := by omega
    clear hT2 hT
    refine cell_keep hn4 (by omega) 4 fun kk hkk j hj0 hj1 => ?_
    have hplace := place_in (W := W) (H := H) (r := 4 * ((c : Int) / (W / 4)) + kk) (c := 4 * ((c : Int) % (W / 4)) - n / 2 + j) (by omega) (by omega) (by omega) (by omega)
    have he : 4 * ((c : Int) / (W / 4)) * W + 4 * ((c : Int) % (W / 4)) + (kk : Int) * W - n / 2 * 1 + j * 1 = (4 * ((c : Int) / (W / 4)) + kk) * W + (4 * ((c : Int) % (W / 4)) - n / 2 + j) := by
      rw [Int.add_mul]; omega
    rw [he]
    refine ⟨hplace.1, fun e => ?_⟩
    have hm := (place_mod (W := W) (r := 4 * ((c : Int) / (W / 4)) + kk) (c := 4 * ((c : Int) % (W / 4)) - n / 2 + j) (by omega) (by omega)).1
    rw [e] at hm
    exact near_arith hsz hasz ha0 (by omega) (by omega) hn4 hj0 hj1 hm hn
theorem step_keep_lie {W H sz li ed th : Int} {co : Bool} {pix ids : List Int} {qs : List Bool} {c p : Nat} (hsz : sz = 16 ∨ sz = 32 ∨ sz = 64) (hW : 4 ≤ W ∧ W ≤ 64 ∧ W % 4 = 0) (hH : 4 ≤ H ∧ H ≤ 64 ∧ H % 4 = 0)
    (hc : c < (H / 4).toNat * (W / 4).toNat) (hn : ¬ (((p : Int) / W % sz < 6 ∧ sz ≤ (p : Int) / W) ∨ (sz - 6 ≤ (p : Int) / W % sz ∧ (p : Int) / W / sz * sz + sz < H))) :
    gi (passStep false co W H (W / 4) (List.replicate ((H / 4).toNat * (W / 4).toNat) sz) ids qs li ed th pix c) p = gi pix p := by
  unfold passStep
  split
  · rfl
  · rename_i hg
    obtain ⟨hx, hy⟩ := cellxy ⟨hW.1, hW.2.2⟩ ⟨hH.1, hH.2.2⟩ hc
    have hsc : gi (List.replicate ((H / 4).toNat * (W / 4).toNat) sz) c = sz := gi_rep (by omega) (by omega)
    rw [hsc] at hg
    simp only [cond_false, not_or, Decidable.not_not] at hg
    obtain ⟨⟨ha0, hasz⟩, _⟩ := hg
    simp only [cond_false]
    generalize hT : tapsF _ co = n
    have hT2 := hT ▸ tapsF_cases (min (min (min (gi (List.replicate ((H / 4).toNat * (W / 4).toNat) sz) c) (gi (List.replicate ((H / 4).toNat * (W / 4).toNat) sz) ((c : Int) - W / 4))) (4 * ((c : Int) / (W / 4)))) (H - 4 * ((c : Int) / (W / 4)))) co
    have hn4 : n = 4 ∨ n = 6 ∨ n = 8 ∨ n = 14 := by omega
    have hnh : 0 ≤ n / 2 ∧ n - n / 2 = n / 2 ∧ n / 2 ≤ 4 * ((c : Int) / (W / 4)) ∧ n / 2 ≤ H - 4 * ((c : Int) / (W / 4)) := by omega
    clear hT2 hT
    refine cell_keep hn4 (by omega) 4 fun kk hkk j hj0 hj1 => ?_
    have hplace := place_in (W := W) (H := H) (r := 4 * ((c : Int) / (W / 4)) - n / 2 + j) (c := 4 * ((c : Int) % (W / 4)) + kk) (by omega) (by omega) (by omega) (by omega)
    have he : 4 * ((c : Int) / (W / 4)) * W + 4 * ((c : Int) % (W / 4)) + (kk : Int) * 1 - n / 2 * W + j * W = (4 * ((c : Int) / (W / 4)) - n / 2 + j) * W + (4 * ((c : Int) % (W / 4)) + kk) := by
      rw [Int.add_mul, Int.sub_mul]; omega
    rw [he]
    refine ⟨hplace.1, fun e => ?_⟩
    have hm := (place_mod (W := W) (r := 4 * ((c : Int) / (W / 4)) - n / 2 + j) (c := 4 * ((c : Int) % (W / 4)) + kk) (by omega) (by omega)).2
    rw [e] at hm
    exact near_arith hsz hasz ha0 (by omega) (by omega) hn4 hj0 hj1 hm hn
theorem passTo_keep {up co : Bool} {W H mW li ed th p : Int} {tx ids : List Int} {qs : List Bool} {N : Nat} (h : ∀ c, c < N → ∀ pix, gi (passStep up co W H mW tx ids qs li ed th pix c) p = gi pix p) {pix : List Int} :
    ∀ m, m ≤ N → gi (passTo up co W H mW tx ids qs li ed th pix m) p = gi pix p
  | 0, _ => rfl
  | m + 1, hm => by
    unfold passTo
    rw [h m (by omega)]
    exact passTo_keep h m (by omega)
theorem far_up {W H sz lv sh : Int} {co : Bool} {pix ids : List Int} {qs : List Bool} {p : Nat} (hsz : sz = 16 ∨ sz = 32 ∨ sz = 64) (hW : 4 ≤ W ∧ W ≤ 64 ∧ W % 4 = 0) (hH : 4 ≤ H ∧ H ≤ 64 ∧ H % 4 = 0)
    (hn : (¬ (((p : Int) % W % sz < 6 ∧ sz ≤ (p : Int) % W) ∨ (sz - 6 ≤ (p : Int) % W % sz ∧ (p : Int) % W / sz * sz + sz < W))) ∨ lv = 0) :
    gi (passF true co W H (W / 4) (List.replicate ((H / 4).toNat * (W / 4).toNat) sz) ids qs lv sh pix) p = gi pix p := by
  unfold passF
  split
  · rfl
  · rename_i h0
    rw [List.length_replicate]
    exact passTo_keep (N := (H / 4).toNat * (W / 4).toNat) (fun c hc pix => step_keep_up hsz hW hH hc (hn.resolve_right h0)) _ (Nat.le_refl _)
theorem far_lie {W H sz lv sh : Int} {co : Bool} {pix ids : List Int} {qs : List Bool} {p : Nat} (hsz : sz = 16 ∨ sz = 32 ∨ sz = 64) (hW : 4 ≤ W ∧ W ≤ 64 ∧ W % 4 = 0) (hH : 4 ≤ H ∧ H ≤ 64 ∧ H % 4 = 0)
    (hn : (¬ (((p : Int) / W % sz < 6 ∧ sz ≤ (p : Int) / W) ∨ (sz - 6 ≤ (p : Int) / W % sz ∧ (p : Int) / W / sz * sz + sz < H))) ∨ lv = 0) :
    gi (passF false co W H (W / 4) (List.replicate ((H / 4).toNat * (W / 4).toNat) sz) ids qs lv sh pix) p = gi pix p := by
  unfold passF
  split
  · rfl
  · rename_i h0
    rw [List.length_replicate]
    exact passTo_keep (N := (H / 4).toNat * (W / 4).toNat) (fun c hc pix => step_keep_lie hsz hW hH hc (hn.resolve_right h0)) _ (Nat.le_refl _)
end Go.Proofs.Zed
