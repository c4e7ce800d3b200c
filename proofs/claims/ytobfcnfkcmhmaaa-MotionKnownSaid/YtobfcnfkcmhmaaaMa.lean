/- What motion (chapter 15) computes, in lists and numbers: pairs, weights, what is blended. No program in sight. -/
import Derived.Test.YtobfcnfkcmhmaaaZh
set_option linter.unusedVariables false
namespace Go.Proofs.Zed
open Go Go.RowKit

theorem set_mid {l r : List Int} {k : Nat} {v : Int} (h : l.length = k) : (l ++ r).set k v = l ++ r.set 0 v := by
  subst h
  rw [List.set_append_right _ _ (Nat.le_refl _), Nat.sub_self]
/-- The mean of two, so far. -/
def pairV (a b : List Int) (k : Nat) : Int := (gi a k + gi b k + 1) / 2
def pairTo (a b : List Int) : Nat → List Int
  | 0 => []
  | k + 1 => pairTo a b k ++ [pairV a b k]
theorem pairTo_length (a b : List Int) : ∀ k, (pairTo a b k).length = k
  | 0 => rfl
  | k + 1 => by rw [pairTo, List.length_append, pairTo_length a b k]; rfl
theorem pairV_byte {a b : List Int} (ha : Bytes a) (hb : Bytes b) (k : Nat) : 0 ≤ pairV a b k ∧ pairV a b k ≤ 255 := by
  have h1 := gi_bytes ha k
  have h2 := gi_bytes hb k
  unfold pairV
  omega
theorem pairTo_bytes {a b : List Int} (ha : Bytes a) (hb : Bytes b) : ∀ k, Bytes (pairTo a b k)
  | 0 => Bytes.nil
  | k + 1 => by
    rw [pairTo]
    refine (pairTo_bytes ha hb k).append fun x hx => ?_
    rw [List.mem_singleton] at hx
    rw [hx]; exact pairV_byte ha hb k
/-- In place: what is done, and the rest of a. -/
def pairIn (a b : List Int) (k : Nat) : List Int := pairTo a b k ++ a.drop k
theorem pairIn_length {a b : List Int} {k : Nat} (hk : k ≤ a.length) : (pairIn a b k).length = a.length := by
  rw [pairIn, List.length_append, pairTo_length, List.length_drop]; omega
theorem pairIn_bytes {a b : List Int} (ha : Bytes a) (hb : Bytes b) (k : Nat) : Bytes (pairIn a b k) :=
  (pairTo_bytes ha hb k).append fun x hx => ha x (List.mem_of_mem_drop hx)
theorem pairIn_at {a b : List Int} {k : Nat} : gi (pairIn a b k) k = gi a k := by
  unfold gi pairIn
  rw [List.getD_eq_getElem?_getD, List.getD_eq_getElem?_getD, List.getElem?_append_right (by rw [pairTo_length]; omega), pairTo_length, List.getElem?_drop]
  congr 2
  omega
theorem pairIn_next {a b : List Int} {k : Nat} (hk : k < a.length) : (pairIn a b k).set k (pairV a b k) = pairIn a b (k + 1) := by
  rw [pairIn, set_mid (pairTo_length a b k), pairIn, pairTo, List.append_assoc]
  congr 1
  rw [List.drop_eq_getElem_cons hk]
  rfl
theorem pairIn_done {a b : List Int} : pairIn a b a.length = pairTo a b a.length := by
  rw [pairIn, List.drop_length, List.append_nil]

def pairE (a b : List Int) : Int := if a.length = b.length then 0 else 2
def pairOut (a b : List Int) : List Int := if a.length = b.length then pairTo a b a.length else []
theorem pairOut_bytes {a b : List Int} (ha : Bytes a) (hb : Bytes b) : Bytes (pairOut a b) := by
  unfold pairOut; split
  · exact pairTo_bytes ha hb _
  · exact Bytes.nil
theorem pair_ok {a b : List Int} (h : a.length = b.length) : pairE a b = 0 ∧ pairOut a b = pairTo a b a.length := ⟨if_pos h, if_pos h⟩
theorem pair_bad {a b : List Int} (h : a.length ≠ b.length) : pairE a b = 2 ∧ pairOut a b = [] := ⟨if_neg h, if_neg h⟩
/-- A weight. -/
def wtV (n : Int) (i : Nat) : Int := 32 + (2 * (i : Int) + 1) * 16 / n
def wtTo (n : Int) : Nat → List Int
  | 0 => []
  | k + 1 => wtTo n k ++ [wtV n k]
theorem wtTo_length (n : Int) : ∀ k, (wtTo n k).length = k
  | 0 => rfl
  | k + 1 => by rw [wtTo, List.length_append, wtTo_length n k]; rfl
theorem wtTo_at (n : Int) {i : Nat} : ∀ {k : Nat}, i < k → gi (wtTo n k) i = wtV n i
  | 0, h => by omega
  | k + 1, h => by
    unfold gi
    rw [wtTo, List.getD_eq_getElem?_getD]
    rcases Nat.lt_or_ge i k with hi | hi
    · rw [List.getElem?_append_left (by rw [wtTo_length]; omega)]
      have := wtTo_at n hi
      unfold gi at this
      rw [List.getD_eq_getElem?_getD] at this
      exact this
    · have : i = k := by omega
      subst this
      rw [List.getElem?_append_right (by rw [wtTo_length]; omega), wtTo_length]
      simp
def wtIn (n : Int) (k : Nat) : List Int := wtTo n k ++ List.replicate (n.toNat - k) 0
theorem wtIn_length {n : Int} {k : Nat} (hk : k ≤ n.toNat) : (wtIn n k).length = n.toNat := by
  rw [wtIn, List.length_append, wtTo_length, List.length_replicate]; omega
theorem wtIn_next {n : Int} {k : Nat} (hk : k < n.toNat) : (wtIn n k).set k (wtV n k) = wtIn n (k + 1) := by
  rw [wtIn, set_mid (wtTo_length n k), wtIn, wtTo, List.append_assoc]
  congr 1
  rw [show n.toNat - k = (n.toNat - (k + 1)) + 1 from by omega, List.replicate_succ]
  rfl
theorem wtIn_done {n : Int} : wtIn n n.toNat = wtTo n n.toNat := by
  rw [wtIn, Nat.sub_self, List.replicate_zero, List.append_nil]
theorem wtV_bd {n : Int} {i : Nat} (hn : 4 ≤ n) (hi : (i : Int) < n) : 32 ≤ wtV n i ∧ wtV n i ≤ 63 := by
  have h1 : 0 ≤ (2 * (i : Int) + 1) * 16 / n := Int.ediv_nonneg (by omega) (by omega)
  have h2 : (2 * (i : Int) + 1) * 16 / n < 32 := Int.ediv_lt_of_lt_mul (by omega) (by omega)
  unfold wtV
  omega
theorem wt_bd {n : Int} {q : Int} (hn : 4 ≤ n) (h0 : 0 ≤ q) (h1 : q < n) : 32 ≤ gi (wtTo n n.toNat) q ∧ gi (wtTo n n.toNat) q ≤ 63 := by
  obtain ⟨i, rfl⟩ := Int.eq_ofNat_of_zero_le h0
  rw [wtTo_at n (by omega)]
  exact wtV_bd hn h1

theorem wt_same {n : Int} (hn : 0 < n) (k : Int) : 32 + (2 * k + 1) * 32 / (2 * n) = 32 + (2 * k + 1) * 16 / n := by
  rw [show (2 * k + 1) * 32 = 2 * ((2 * k + 1) * 16) from by omega, Int.mul_ediv_mul_of_pos _ _ (by decide)]
def wtE (n : Int) : Int := if 4 ≤ n ∧ n ≤ 32 then 0 else 2
def wtOut (n : Int) : List Int := if 4 ≤ n ∧ n ≤ 32 then wtTo n n.toNat else []
theorem wt_ok {n : Int} (h : 4 ≤ n ∧ n ≤ 32) : wtE n = 0 ∧ wtOut n = wtTo n n.toNat := ⟨if_pos h, if_pos h⟩
theorem wt_bad {n : Int} (h : ¬ (4 ≤ n ∧ n ≤ 32)) : wtE n = 2 ∧ wtOut n = [] := ⟨if_neg h, if_neg h⟩
theorem flatIn_length {x : Int} {n k : Nat} (hk : k ≤ n) : (List.replicate k x ++ List.replicate (n - k) 0).length = n := by
  rw [List.length_append, List.length_replicate, List.length_replicate]; omega
theorem flatIn_bytes {x : Int} {n : Nat} (hb : 0 ≤ x ∧ x ≤ 255) (k : Nat) : Bytes (List.replicate k x ++ List.replicate (n - k) 0) := (Bytes.rep hb).append (Bytes.rep (by decide))
theorem flatIn_next {x : Int} {n k : Nat} (hk : k < n) : (List.replicate k x ++ List.replicate (n - k) 0).set k x = List.replicate (k + 1) x ++ List.replicate (n - (k + 1)) 0 := by
  rw [set_mid (List.length_replicate ..), show n - k = (n - (k + 1)) + 1 from by omega, List.replicate_succ, List.replicate_succ', List.append_assoc]
  rfl
/-- Rows of w, and a rectangle in them. -/
def liesP (m : Int) (w X Y W H : Int) : Prop := ((1 ≤ w ∧ w ≤ 64) ∧ m % w = 0 ∧ 1 ≤ m / w ∧ m / w ≤ 64) ∧ (1 ≤ W ∧ W ≤ w) ∧ (0 ≤ X ∧ X ≤ w - W) ∧ (1 ≤ H ∧ H ≤ m / w) ∧ 0 ≤ Y ∧ Y ≤ m / w - H
instance (m w X Y W H : Int) : Decidable (liesP m w X Y W H) := by unfold liesP; infer_instance
@[reducible] def blendOk (m w X Y W H : Int) (n : Int) (q : Int) : Prop := (4 ≤ n ∧ n ≤ 32) ∧ liesP m w X Y W H ∧ q = W * H
/-- Where the k-th sample of a rectangle lies. -/
def bAt (w X Y W : Int) (k : Nat) : Int := (Y + (k : Int) / W) * w + X + (k : Int) % W
def blendV (up : Bool) (w X Y W n : Int) (oth out : List Int) (k : Nat) : Int :=
  (gi (wtTo n n.toNat) (bif up then (k : Int) / W else (k : Int) % W) * gi out (bAt w X Y W k) + (64 - gi (wtTo n n.toNat) (bif up then (k : Int) / W else (k : Int) % W)) * gi oth k + 32) / 2 ^ 6
def blendTo (up : Bool) (w X Y W n : Int) (own oth : List Int) : Nat → List Int
  | 0 => own
  | k + 1 => (blendTo up w X Y W n own oth k).set (bAt w X Y W k).toNat (blendV up w X Y W n oth (blendTo up w X Y W n own oth k) k)
theorem blendTo_length (up : Bool) (w X Y W n : Int) (own oth : List Int) : ∀ k, (blendTo up w X Y W n own oth k).length = own.length
  | 0 => rfl
  | k + 1 => by unfold blendTo; rw [List.length_set, blendTo_length up w X Y W n own oth k]
theorem mix_bd {k a b : Int} (hk : 0 ≤ k ∧ k ≤ 64) (ha : 0 ≤ a ∧ a ≤ 255) (hb : 0 ≤ b ∧ b ≤ 255) : 0 ≤ k * a + (64 - k) * b ∧ k * a + (64 - k) * b ≤ 64 * 255 := by
  have h1 := Int.mul_le_mul_of_nonneg_left ha.2 hk.1
  have h2 := Int.mul_le_mul_of_nonneg_left hb.2 (show 0 ≤ 64 - k from by omega)
  have h3 := Int.mul_nonneg hk.1 ha.1
  have h4 := Int.mul_nonneg (show 0 ≤ 64 - k from by omega) hb.1
  omega
theorem blendTo_bytes {up : Bool} {w X Y W n : Int} {own oth : List Int} {N : Nat} (hn : 4 ≤ n) (hW : 0 < W) (hi : ∀ k : Nat, k < N → (bif up then (k : Int) / W else (k : Int) % W) < n) (ho : Bytes own) (ht : Bytes oth) : ∀ k, k ≤ N → Bytes (blendTo up w X Y W n own oth k)
  | 0, _ => ho
  | k + 1, hk => by
    have ih := blendTo_bytes (w := w) (X := X) (Y := Y) hn hW hi ho ht k (by omega)
    unfold blendTo
    refine ih.set ?_
    have h0 : 0 ≤ (bif up then (k : Int) / W else (k : Int) % W) := by
      cases up
      · exact Int.emod_nonneg _ (by omega)
      · exact Int.ediv_nonneg (by omega) (by omega)
    have hw := wt_bd hn h0 (hi k (by omega))
    have := mix_bd (k := gi (wtTo n n.toNat) (bif up then (k : Int) / W else (k : Int) % W)) (by omega) (gi_bytes ih (bAt w X Y W k)) (gi_bytes ht k)
    unfold blendV
    omega
theorem lies_facts {m : Nat} {w X Y W H : Int} (h : liesP m w X Y W H) : (1 ≤ w ∧ w ≤ 64) ∧ (1 ≤ W ∧ 0 ≤ X ∧ X + W ≤ w) ∧ (1 ≤ H ∧ 0 ≤ Y ∧ Y + H ≤ (m : Int) / w) ∧ (m : Int) / w ≤ 64 ∧ (m : Int) = (m : Int) / w * w := by
  obtain ⟨⟨h1, h2, h3, h4⟩, h5, h6, h7, h8, h9⟩ := h
  have := Int.mul_ediv_add_emod (m : Int) w
  rw [h2, Int.mul_comm] at this
  omega
theorem rect_xy {W H : Int} {k : Nat} (hW : 1 ≤ W) (hk : (k : Int) < W * H) : (0 ≤ (k : Int) % W ∧ (k : Int) % W < W) ∧ 0 ≤ (k : Int) / W ∧ (k : Int) / W < H :=
  ⟨⟨Int.emod_nonneg _ (by omega), Int.emod_lt_of_pos _ (by omega)⟩, Int.ediv_nonneg (by omega) (by omega), Int.ediv_lt_of_lt_mul (by omega) (by rw [Int.mul_comm]; exact hk)⟩
theorem blend_in {m : Nat} {w X Y W H : Int} (h : liesP m w X Y W H) {k : Nat} (hk : (k : Int) < W * H) :
    (0 ≤ bAt w X Y W k ∧ bAt w X Y W k < m) ∧ bAt w X Y W k % w = X + (k : Int) % W ∧ bAt w X Y W k / w = Y + (k : Int) / W := by
  obtain ⟨hw, hX, hY, h64, hm⟩ := lies_facts h
  have hxy := rect_xy hX.1 hk
  have hp := place_in (W := w) (H := (m : Int) / w) (r := Y + (k : Int) / W) (c := X + (k : Int) % W) (by omega) (by omega) (by omega) (by omega)
  have hq := place_mod (W := w) (r := Y + (k : Int) / W) (c := X + (k : Int) % W) (by omega) (by omega)
  have e : bAt w X Y W k = (Y + (k : Int) / W) * w + (X + (k : Int) % W) := by unfold bAt; omega
  rw [e]
  rw [Int.mul_comm w] at hp
  refine ⟨⟨hp.1, by omega⟩, hq.1, hq.2⟩
theorem blend_go {m w X Y W H n q : Int} (h : ¬ ((wtE n ≠ 0 ∨ ¬ liesP m w X Y W H) ∨ q ≠ W * H)) : blendOk m w X Y W H n q := by
  simp only [not_or, Decidable.not_not] at h
  refine ⟨?_, h.1.2, h.2⟩
  have := h.1.1
  unfold wtE at this
  split at this
  · assumption
  · omega
theorem blend_go' {m w X Y W H n q : Int} (h : ¬ ((¬ liesP m w X Y W H ∨ wtE n ≠ 0) ∨ q ≠ W * H)) : blendOk m w X Y W H n q :=
  blend_go (fun k => h (k.elim (fun k => .inl k.symm) .inr))
theorem blend_no {m w X Y W H n q : Int} (h : (wtE n ≠ 0 ∨ ¬ liesP m w X Y W H) ∨ q ≠ W * H) : ¬ blendOk m w X Y W H n q := fun ⟨h1, h2, h3⟩ => by
  rcases h with (h | h) | h
  · exact h (wt_ok h1).1
  · exact h h2
  · exact h h3
theorem blend_no' {m w X Y W H n q : Int} (h : (¬ liesP m w X Y W H ∨ wtE n ≠ 0) ∨ q ≠ W * H) : ¬ blendOk m w X Y W H n q :=
  blend_no (h.elim (fun k => .inl k.symm) .inr)
def blendE (own oth : List Int) (w X Y W H n : Int) : Int := if blendOk own.length w X Y W H n oth.length then 0 else 2
def blendOut (up : Bool) (own oth : List Int) (w X Y W H n : Int) : List Int := if blendOk own.length w X Y W H n oth.length then blendTo up w X Y W n own oth oth.length else []
theorem blend_yes {up : Bool} {own oth : List Int} {w X Y W H n : Int} (h : blendOk own.length w X Y W H n oth.length) : blendE own oth w X Y W H n = 0 ∧ blendOut up own oth w X Y W H n = blendTo up w X Y W n own oth oth.length := ⟨if_pos h, if_pos h⟩
theorem blend_nay {up : Bool} {own oth : List Int} {w X Y W H n : Int} (h : ¬ blendOk own.length w X Y W H n oth.length) : blendE own oth w X Y W H n = 2 ∧ blendOut up own oth w X Y W H n = [] := ⟨if_neg h, if_neg h⟩
theorem blend_idx {up : Bool} {W H n : Int} (hn : n = bif up then H else W) (hW : 1 ≤ W) {N : Nat} (hN : (N : Int) = W * H) (k : Nat) (hk : k < N) : (bif up then (k : Int) / W else (k : Int) % W) < n := by
  have := rect_xy (W := W) (H := H) (k := k) hW (by omega)
  subst hn
  cases up
  · exact this.1.2
  · exact this.2.2
theorem blendOut_bytes {up : Bool} {own oth : List Int} {w X Y W H n : Int} (hn : n = bif up then H else W) (ho : Bytes own) (ht : Bytes oth) : Bytes (blendOut up own oth w X Y W H n) := by
  unfold blendOut
  split
  · rename_i h
    obtain ⟨h1, h2, h3⟩ := h
    exact blendTo_bytes (by omega) (by have := (lies_facts h2).2.1.1; omega) (blend_idx hn (lies_facts h2).2.1.1 h3) ho ht _ (Nat.le_refl _)
  · exact Bytes.nil
theorem div_pos_iff {m w : Int} (hw : 1 ≤ w) (hm : 0 ≤ m) (h : m % w = 0) : 1 ≤ m / w ↔ m ≠ 0 := by
  have h1 := Int.mul_ediv_add_emod m w
  rw [h] at h1
  have h2 := Int.ediv_nonneg hm (show 0 ≤ w by omega)
  constructor
  · intro h3 h4
    subst h4
    rw [Int.zero_ediv] at h3
    omega
  · intro h3
    rcases Int.lt_or_le 0 (m / w) with h4 | h4
    · omega
    · have : m / w = 0 := by omega
      rw [this, Int.mul_zero] at h1
      omega
end Go.Proofs.Zed
