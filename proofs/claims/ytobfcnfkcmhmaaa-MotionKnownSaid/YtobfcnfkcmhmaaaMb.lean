/- Plain laws of motion (chapter 15): what is blended, place by place; what is turned about. No program in sight. -/
import Derived.Test.YtobfcnfkcmhmaaaMa
set_option linter.unusedVariables false
namespace Go.Proofs.Zed
open Go Go.RowKit

/-- Two samples, mixed. -/
def mixF (k a b : Int) : Int := (k * a + (64 - k) * b + 32) / 2 ^ 6
theorem mix_between {k a b : Int} (hk : 0 ≤ k ∧ k ≤ 64) : min a b ≤ mixF k a b ∧ mixF k a b ≤ max a b := by
  have h1 : k * min a b ≤ k * a := Int.mul_le_mul_of_nonneg_left (by omega) hk.1
  have h2 : (64 - k) * min a b ≤ (64 - k) * b := Int.mul_le_mul_of_nonneg_left (by omega) (by omega)
  have h3 : k * a ≤ k * max a b := Int.mul_le_mul_of_nonneg_left (by omega) hk.1
  have h4 : (64 - k) * b ≤ (64 - k) * max a b := Int.mul_le_mul_of_nonneg_left (by omega) (by omega)
  have h5 : k * min a b + (64 - k) * min a b = 64 * min a b := by rw [← Int.add_mul]; congr 1; omega
  have h6 : k * max a b + (64 - k) * max a b = 64 * max a b := by rw [← Int.add_mul]; congr 1; omega
  unfold mixF
  omega
section
variable {up : Bool} {w X Y W H n : Int} {own oth : List Int}
theorem blend_inj (h : liesP own.length w X Y W H) {i j : Nat} (hi : (i : Int) < W * H) (hj : (j : Int) < W * H) (e : bAt w X Y W i = bAt w X Y W j) : i = j := by
  have a := blend_in h hi
  have b := blend_in h hj
  rw [e] at a
  have h1 := Int.mul_ediv_add_emod (i : Int) W
  have h2 := Int.mul_ediv_add_emod (j : Int) W
  have e1 : (i : Int) / W = (j : Int) / W := by omega
  have e2 : (i : Int) % W = (j : Int) % W := by omega
  rw [e1, e2] at h1
  omega
theorem blend_off (h : liesP own.length w X Y W H) {p : Int} (hp : 0 ≤ p) : ∀ m : Nat, (m : Int) ≤ W * H → (∀ i : Nat, i < m → bAt w X Y W i ≠ p) → gi (blendTo up w X Y W n own oth m) p = gi own p
  | 0, _, _ => rfl
  | m + 1, hm, hne => by
    have := (blend_in h (k := m) (by omega)).1
    have hn := hne m (by omega)
    unfold blendTo
    rw [gi_set_ne (by omega)]
    exact blend_off h hp m (by omega) (fun i hi => hne i (by omega))
theorem blend_at (h : liesP own.length w X Y W H) {j : Nat} : ∀ m : Nat, (m : Int) ≤ W * H → j < m → gi (blendTo up w X Y W n own oth m) (bAt w X Y W j) = blendV up w X Y W n oth own j
  | 0, _, hj => by omega
  | m + 1, hm, hj => by
    have im := (blend_in h (k := m) (by omega)).1
    have ij := (blend_in h (k := j) (by omega)).1
    unfold blendTo
    by_cases e : j = m
    · subst e
      rw [gi_set_eq rfl (by rw [blendTo_length]; omega)]
      unfold blendV
      rw [blend_off h im.1 j (by omega) (fun i hi e => by have := blend_inj h (by omega) (by omega) e; omega)]
    · rw [gi_set_ne (fun h2 => e (blend_inj h (by omega) (by omega) (by omega)))]
      exact blend_at h m (by omega) (by omega)
/-- Inside the rectangle. -/
theorem blend_get (h : liesP own.length w X Y W H) {N : Nat} (hN : (N : Int) = W * H) {p : Int} (hp : 0 ≤ p) (hx : X ≤ p % w ∧ p % w < X + W) (hy : Y ≤ p / w ∧ p / w < Y + H) :
    gi (blendTo up w X Y W n own oth N) p = mixF (gi (wtTo n n.toNat) (bif up then p / w - Y else p % w - X)) (gi own p) (gi oth ((p / w - Y) * W + (p % w - X))) := by
  obtain ⟨hw, hX, hY, h64, hm⟩ := lies_facts h
  have hpl := place_in (W := W) (H := H) (r := p / w - Y) (c := p % w - X) (by omega) (by omega) (by omega) (by omega)
  have hpm := place_mod (W := W) (r := p / w - Y) (c := p % w - X) (by omega) (by omega)
  obtain ⟨j, hj⟩ := Int.eq_ofNat_of_zero_le hpl.1
  have hbj : bAt w X Y W j = p := by
    unfold bAt
    rw [← hj, hpm.1, hpm.2]
    have := Int.mul_ediv_add_emod p w
    rw [Int.mul_comm] at this
    have e : Y + (p / w - Y) = p / w := by omega
    rw [e]
    omega
  have key := blend_at (up := up) (n := n) (oth := oth) h N (by omega) (j := j) (by omega)
  rw [hbj] at key
  rw [key]
  unfold blendV mixF
  rw [hbj, ← hj, hpm.1, hpm.2]
/-- Beside it. -/
theorem blend_beside (h : liesP own.length w X Y W H) {N : Nat} (hN : (N : Int) = W * H) {p : Int} (hp : 0 ≤ p) (ho : ¬ ((X ≤ p % w ∧ p % w < X + W) ∧ (Y ≤ p / w ∧ p / w < Y + H))) :
    gi (blendTo up w X Y W n own oth N) p = gi own p := by
  refine blend_off h hp N (by omega) fun i hi e => ho ?_
  obtain ⟨hw, hX, hY, h64, hm⟩ := lies_facts h
  have a := blend_in h (k := i) (by omega)
  have hxy := rect_xy hX.1 (k := i) (H := H) (by omega)
  rw [e] at a
  omega
end
/-- What is turned about, read anywhere. -/
theorem turn_get {W H : Int} {pix : List Int} {N : Nat} (hW : 0 < W) (hH : 0 < H) (hN : (N : Int) = W * H) {x y : Int} (hx : 0 ≤ x ∧ x < W) (hy : 0 ≤ y ∧ y < H) : gi (turnTo W H pix N N) (x * H + y) = gi pix (y * W + x) := by
  have hp := place_in (W := W) (H := H) (r := y) (c := x) hy.1 hy.2 hx.1 hx.2
  have hm := place_mod (W := W) (r := y) (c := x) hx.1 hx.2
  obtain ⟨p, hpe⟩ := Int.eq_ofNat_of_zero_le hp.1
  have := turn_at hW hH hN (p := p) (pix := pix) N (Nat.le_refl _) (by omega)
  rw [← hpe, hm.1, hm.2] at this
  exact this
theorem lies_turn {m : Nat} {w X Y W H : Int} (h : liesP m w X Y W H) : liesP m ((m : Int) / w) Y X H W := by
  obtain ⟨hw, hX, hY, h64, hm⟩ := lies_facts h
  have e1 : (m : Int) % ((m : Int) / w) = 0 := by
    conv => lhs; lhs; rw [hm]
    rw [Int.mul_emod_right] <;> skip
  have e2 : (m : Int) / ((m : Int) / w) = w := by
    conv => lhs; lhs; rw [hm]
    rw [Int.mul_ediv_cancel_left _ (by omega)]
  unfold liesP
  rw [e1, e2]
  omega
/-- Left is Above, turned about. -/
theorem turned_blend {w X Y W H : Int} {own oth : List Int} {m N : Nat} (h : liesP own.length w X Y W H) (hm : m = own.length) (hN : (N : Int) = W * H) (ho : oth.length = N) {n : Int} :
    blendTo false ((m : Int) / w) Y X H n (turnTo w ((m : Int) / w) own m m) (turnTo W H oth N N) N = turnTo w ((m : Int) / w) (blendTo true w X Y W n own oth N) m m := by
  subst hm
  obtain ⟨hw, hX, hY, h64, hmm⟩ := lies_facts h
  generalize hh : (own.length : Int) / w = h' at *
  have hLm : (own.length : Int) = w * h' := by rw [Int.mul_comm]; omega
  have hl : (turnTo w h' own own.length own.length).length = own.length := turnTo_length ..
  have hlies : liesP (turnTo w h' own own.length own.length).length h' Y X H W := by
    have := lies_turn h
    rw [hh] at this
    rw [hl]; exact this
  refine gi_list_eq (by rw [blendTo_length, hl, turnTo_length]) fun p hp => ?_
  rw [blendTo_length, hl] at hp
  have hxy : (0 ≤ (p : Int) % h' ∧ (p : Int) % h' < h') ∧ 0 ≤ (p : Int) / h' ∧ (p : Int) / h' < w := rect_xy (W := h') (H := w) (by omega) (by rw [Int.mul_comm]; omega)
  have hpe : (p : Int) = (p : Int) / h' * h' + (p : Int) % h' := by
    have := Int.mul_ediv_add_emod (p : Int) h'
    rw [Int.mul_comm] at this
    omega
  have hr : gi (turnTo w h' (blendTo true w X Y W n own oth N) own.length own.length) p = gi (blendTo true w X Y W n own oth N) ((p : Int) % h' * w + (p : Int) / h') := by
    conv => lhs; rw [hpe]
    exact turn_get (by omega) (by omega) hLm hxy.2 hxy.1
  have ho' : gi (turnTo w h' own own.length own.length) p = gi own ((p : Int) % h' * w + (p : Int) / h') := by
    conv => lhs; rw [hpe]
    exact turn_get (by omega) (by omega) hLm hxy.2 hxy.1
  have hq := place_mod (W := w) (r := (p : Int) % h') (c := (p : Int) / h') hxy.2.1 hxy.2.2
  have hq0 := place_in (W := w) (H := h') (r := (p : Int) % h') (c := (p : Int) / h') hxy.1.1 hxy.1.2 hxy.2.1 hxy.2.2
  rw [hr]
  by_cases hin : (Y ≤ (p : Int) % h' ∧ (p : Int) % h' < Y + H) ∧ (X ≤ (p : Int) / h' ∧ (p : Int) / h' < X + W)
  · rw [blend_get hlies (by rw [hN, Int.mul_comm]) (by omega) hin.1 hin.2, blend_get h hN hq0.1 (by rw [hq.1]; exact hin.2) (by rw [hq.2]; exact hin.1), ho', hq.1, hq.2]
    simp only [cond_false, cond_true]
    congr 1
    exact turn_get (by omega) (by omega) hN ⟨by omega, by omega⟩ ⟨by omega, by omega⟩
  · rw [blend_beside hlies (by rw [hN, Int.mul_comm]) (by omega) hin, blend_beside h hN hq0.1 (by rw [hq.1, hq.2]; exact fun k => hin ⟨k.2, k.1⟩), ho']
end Go.Proofs.Zed
