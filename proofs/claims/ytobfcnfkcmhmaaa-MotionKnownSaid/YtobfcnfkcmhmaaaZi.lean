/- What is owned, in any order; rows of rows: a slice whose elements are slices of numbers, each in memory of its own. No program in sight. -/
import Derived.Test.YtobfcnfkcmhmaaaZh
set_option linter.unusedVariables false
set_option linter.unusedSimpArgs false
namespace Go.Proofs.Zed
open Go Go.RowKit

theorem HS.iff {w0 w : World} {H : List Ent} : HS w0 H w ↔ Below w0.heap.size w0 w ∧ (∀ x ∈ H, x.ok w0.heap.size w) ∧ H.Pairwise Ent.off := by
  constructor
  · intro h
    refine ⟨h.below, fun x hx => ?_, ?_⟩
    · obtain ⟨i, hi⟩ := List.mem_iff_getElem?.1 hx
      exact h.ok i x hi
    · rw [List.pairwise_iff_getElem]
      intro i j hi hj hij
      exact h.apart i j _ _ (List.getElem?_eq_getElem hi) (List.getElem?_eq_getElem hj) (by omega)
  · rintro ⟨h1, h2, h3⟩
    refine ⟨h1, fun i x hx => h2 x (List.mem_of_getElem? hx), fun i j x y hi hj hne => ?_⟩
    rw [List.pairwise_iff_getElem] at h3
    obtain ⟨hi1, rfl⟩ := List.getElem?_eq_some_iff.1 hi
    obtain ⟨hj1, rfl⟩ := List.getElem?_eq_some_iff.1 hj
    rcases Nat.lt_or_ge i j with h | h
    · exact h3 i j hi1 hj1 h
    · exact (h3 j i hj1 hi1 (by omega)).symm
theorem HS.perm {w0 w : World} {H H' : List Ent} (h : HS w0 H w) (p : H.Perm H') : HS w0 H' w := by
  rw [HS.iff] at h ⊢
  exact ⟨h.1, fun x hx => h.2.1 x (p.mem_iff.2 hx), (p.pairwise_iff (fun h => h.symm)).1 h.2.2⟩
/-- The first goes behind the next few. -/
theorem HS.behind {w0 w : World} {a : Ent} {pre T : List Ent} (h : HS w0 (a :: (pre ++ T)) w) : HS w0 (pre ++ a :: T) w := h.perm List.perm_middle.symm

/-- Some of the first, and all that stands behind. -/
theorem HS.pickT {w0 w : World} {L T H' : List Ent} (h : HS w0 (L ++ T) w) (is : List Nat) (hn : is.Nodup) (hp : is.map (L[·]?) = H'.map some) : HS w0 (H' ++ T) w := by
  have hlt : ∀ i ∈ is, i < L.length := fun i hi => by
    have h1 : L[i]? ∈ is.map (L[·]?) := List.mem_map.2 ⟨i, hi, rfl⟩
    rw [hp] at h1
    obtain ⟨x, _, hx⟩ := List.mem_map.1 h1
    exact (List.getElem?_eq_some_iff.1 hx.symm).1
  refine h.pick (is ++ (List.range T.length).map (· + L.length)) (H' ++ T) ?_ ?_
  · rw [List.nodup_append]
    refine ⟨hn, ?_, fun a ha b hb => ?_⟩
    · exact List.Pairwise.map _ (fun a b (hab : a ≠ b) => by omega) List.nodup_range
    · obtain ⟨j, _, rfl⟩ := List.mem_map.1 hb
      have := hlt a ha
      omega
  · rw [List.map_append, List.map_append, ← hp]
    congr 1
    · exact List.map_congr_left fun i hi => List.getElem?_append_left (hlt i hi)
    · rw [List.map_map]
      apply List.ext_getElem?
      intro j
      rw [List.getElem?_map, List.getElem?_map]
      rcases Nat.lt_or_ge j T.length with hj | hj
      · rw [List.getElem?_range hj, List.getElem?_eq_getElem hj]
        simp only [Option.map_some, Function.comp]
        rw [List.getElem?_append_right (by omega), Nat.add_sub_cancel, List.getElem?_eq_getElem hj]
      · rw [List.getElem?_eq_none (by simpa using hj), List.getElem?_eq_none hj]
        rfl

/-! ### Rows of rows -/
/-- The rows that are made, the last one ahead: the block of each; f tells what stands in which. -/
def rowsT (t : TypeId) (W : Nat) (f : Nat → List Int) : List Nat → List Ent
  | [] => []
  | b :: bs => .row (some ⟨b, 0, none⟩) W W (i64s (f bs.length)) t 1 :: rowsT t W f bs
/-- The slices, in order. -/
def rowsC (W : Nat) : List Nat → List Value
  | [] => []
  | b :: bs => rowsC W bs ++ [.slice (some ⟨b, 0, none⟩) W W]
theorem rowsC_length (W : Nat) : ∀ bs : List Nat, (rowsC W bs).length = bs.length
  | [] => rfl
  | b :: bs => by rw [rowsC, List.length_append, rowsC_length W bs]; rfl
theorem rowsC_step {W b : Nat} {bs : List Nat} {N : Nat} (h : bs.length < N) : (rowsC W bs ++ List.replicate (N - bs.length) (Value.slice none 0 0)).set ((bs.length : Int)).toNat (Value.slice (some ⟨b, 0, none⟩) W W) = rowsC W (b :: bs) ++ List.replicate (N - (b :: bs).length) (Value.slice none 0 0) := by
  rw [Int.toNat_natCast, List.set_append_right _ _ (by rw [rowsC_length]; exact Nat.le_refl _), rowsC_length, Nat.sub_self, List.length_cons, show N - bs.length = (N - (bs.length + 1)) + 1 from by omega, List.replicate_succ, rowsC, List.append_assoc]
  rfl
/-- Which block has row q. -/
def rowB : List Nat → Nat → Nat
  | [], _ => 0
  | b :: bs, q => if q = bs.length then b else rowB bs q
theorem rowB_cell {W : Nat} : ∀ {bs : List Nat} {q : Nat}, q < bs.length → (rowsC W bs)[q]? = some (.slice (some ⟨rowB bs q, 0, none⟩) W W)
  | [], q, h => absurd h (Nat.not_lt_zero _)
  | b :: bs, q, h => by
    unfold rowB rowsC
    by_cases hq : q = bs.length
    · subst hq
      rw [if_pos rfl, List.getElem?_append_right (by rw [rowsC_length]; exact Nat.le_refl _), rowsC_length, Nat.sub_self]; rfl
    · have hl : q < bs.length := by simp at h; omega
      rw [if_neg hq, List.getElem?_append_left (by rw [rowsC_length]; exact hl)]
      exact rowB_cell hl
theorem rowB_ent {t : TypeId} {W : Nat} {f : Nat → List Int} : ∀ {bs : List Nat} {q : Nat}, q < bs.length → ∃ i : Nat, (rowsT t W f bs)[i]? = some (Ent.row (some ⟨rowB bs q, 0, none⟩) W W (i64s (f q)) t 1)
  | [], q, h => absurd h (Nat.not_lt_zero _)
  | b :: bs, q, h => by
    unfold rowB rowsT
    by_cases hq : q = bs.length
    · subst hq
      rw [if_pos rfl]; exact ⟨0, rfl⟩
    · have hl : q < bs.length := by simp at h; omega
      rw [if_neg hq]
      obtain ⟨i, hi⟩ := rowB_ent (t := t) (W := W) (f := f) hl
      exact ⟨i + 1, hi⟩
/-- Row q reads as f q. -/
theorem HS.rowAt {w0 w : World} {pre : List Ent} {t : TypeId} {W : Nat} {f : Nat → List Int} {bs : List Nat} (h : HS w0 (pre ++ rowsT t W f bs) w) {q : Nat} (hq : q < bs.length) : Rd w (some ⟨rowB bs q, 0, none⟩) W 1 (i64s (f q)) := by
  obtain ⟨i, hi⟩ := rowB_ent (t := t) (W := W) (f := f) hq
  exact h.rdRow (pre.length + i) (by rw [List.getElem?_append_right (by omega), Nat.add_sub_cancel_left]; exact hi)
end Go.Proofs.Zed
