/- Plain law: lying edges are upright ones of the plane that is turned over. A pass is told row for row: each row by its own edges, one behind the other. -/
import Derived.Test.YtnkckjebcpagnaaDg
set_option linter.unusedVariables false
namespace Go.Proofs.Zed
open Go Go.RowKit

theorem pow5 {m : Nat} (h : m < 5) : (2 : Int) ^ m = 1 ∨ (2 : Int) ^ m = 2 ∨ (2 : Int) ^ m = 4 ∨ (2 : Int) ^ m = 8 ∨ (2 : Int) ^ m = 16 := by
  rcases m with _ | _ | _ | _ | _ | m
  · exact .inl rfl
  · exact .inr (.inl rfl)
  · exact .inr (.inr (.inl rfl))
  · exact .inr (.inr (.inr (.inl rfl)))
  · exact .inr (.inr (.inr (.inr rfl)))
  · omega
theorem good_turn {W H sz lv sh : Int} (hW : 4 ≤ W ∧ W ≤ 64 ∧ W % 4 = 0) (hH : 4 ≤ H ∧ H ≤ 64 ∧ H % 4 = 0) (hsz : sz = 4 ∨ sz = 8 ∨ sz = 16 ∨ sz = 32 ∨ sz = 64) (hlv : 0 ≤ lv ∧ lv ≤ 63) (hsh : 0 ≤ sh ∧ sh ≤ 7) :
    ¬ passBad H W (W * H).toNat (H / 4) (W / 4) (List.replicate ((W / 4).toNat * (H / 4).toNat) sz) ((W / 4).toNat * (H / 4).toNat) ((W / 4).toNat * (H / 4).toNat) ((W / 4).toNat * (H / 4).toNat) lv sh := by
  rw [Int.mul_comm W H]
  exact good_cells hH hW hsz hlv hsh
/-! ### A line, told by its row -/
def rowLine (row : Int → Int) (x0 n li ed th : Int) : List Int := filterF ((List.range n.toNat).map fun j : Nat => row (x0 + (j : Int))) (n / 2) li ed th
def lineRow (row : Int → Int) (x0 n li ed th c : Int) : Int := if x0 ≤ c ∧ c < x0 + n then gi (rowLine row x0 n li ed th) (c - x0) else row c
theorem gath_list {pix : List Int} {first across : Int} {N : Nat} : gathTo pix first across N N = (List.range N).map fun j : Nat => gi pix (first + (j : Int) * across) :=
  List.ext_getElem (by rw [gathTo_length]; simp) fun j h1 h2 => by
    rw [gathTo_length] at h1
    have h := gath_at (pix := pix) (first := first) (across := across) h1 N h1
    unfold gi at h
    rw [List.getD_eq_getElem?_getD, Int.toNat_natCast, List.getElem?_eq_getElem (by rw [gathTo_length]; exact h1)] at h
    simp only [Option.getD_some] at h
    rw [h]
    simp [gi]
/-- What a line writes. -/
theorem scat_at {f pix : List Int} {first across : Int} (ha : 0 < across) (hf : 0 ≤ first) {L : Nat} {j : Nat} (hj : (first + (j : Int) * across).toNat < pix.length) : ∀ m : Nat, j < m → gi (scatTo f pix first across m) (first + (j : Int) * across) = gi f j
  | 0, h => by omega
  | m + 1, h => by
    unfold scatTo
    by_cases e : j = m
    · subst e
      rw [gi_set_eq rfl (by rw [scatTo_length]; exact hj)]
    · rw [gi_set_ne]
      · exact scat_at ha hf (L := L) hj m (by omega)
      · have h1 : (j : Int) * across + across ≤ (m : Int) * across := by
          have : ((j : Int) + 1) * across ≤ (m : Int) * across := Int.mul_le_mul_of_nonneg_right (by omega) (by omega)
          rw [Int.add_mul, Int.one_mul] at this; exact this
        have h2 : 0 ≤ (j : Int) * across := Int.mul_nonneg (by omega) (by omega)
        omega

/-- The places of a plane: row r, place c along what is filtered. -/
structure Grid (al ac R C : Int) (L : Nat) : Prop where
  pos : 0 < ac
  bd : ∀ r c : Int, 0 ≤ r → r < R → 0 ≤ c → c < C → 0 ≤ r * al + c * ac ∧ (r * al + c * ac).toNat < L
  inj : ∀ r c r' c' : Int, 0 ≤ r → r < R → 0 ≤ c → c < C → 0 ≤ r' → r' < R → 0 ≤ c' → c' < C → r * al + c * ac = r' * al + c' * ac → r = r' ∧ c = c'
theorem cell_view {al ac R C : Int} {L : Nat} (G : Grid al ac R C L) {pix : List Int} (hL : pix.length = L) {n li ed th x0 y0 : Int} (hn : n = 4 ∨ n = 6 ∨ n = 8 ∨ n = 14) (hy : 0 ≤ y0 ∧ y0 + 4 ≤ R) (hx : 0 ≤ x0 - n / 2 ∧ x0 - n / 2 + n ≤ C) :
    ∀ m : Nat, m ≤ 4 → ∀ r c : Int, 0 ≤ r → r < R → 0 ≤ c → c < C →
      gi (cellStep pix (y0 * al + x0 * ac) al ac n li ed th m) (r * al + c * ac) = if y0 ≤ r ∧ r < y0 + m then lineRow (fun c => gi pix (r * al + c * ac)) (x0 - n / 2) n li ed th c else gi pix (r * al + c * ac)
  | 0, _, r, c, _, _, _, _ => by rw [if_neg (by omega)]; rfl
  | m + 1, hm, r, c, h1, h2, h3, h4 => by
    have ih := cell_view G hL (li := li) (ed := ed) (th := th) hn hy hx m (by omega)
    have hf : ∀ j : Int, (y0 * al + x0 * ac + (m : Int) * al - n / 2 * ac) + j * ac = (y0 + m) * al + (x0 - n / 2 + j) * ac := fun j => by
      rw [Int.add_mul, Int.add_mul, Int.sub_mul]; omega
    unfold cellStep
    by_cases hr : r = y0 + m ∧ x0 - n / 2 ≤ c ∧ c < x0 - n / 2 + n
    · obtain ⟨hr, hc0, hc1⟩ := hr
      subst hr
      rw [if_pos (by omega)]
      obtain ⟨j, hjc⟩ : ∃ j : Nat, (j : Int) = c - (x0 - n / 2) := ⟨(c - (x0 - n / 2)).toNat, Int.toNat_of_nonneg (by omega)⟩
      have hidx : (y0 + (m : Int)) * al + c * ac = (y0 * al + x0 * ac + (m : Int) * al - n / 2 * ac) + (j : Int) * ac := by rw [hf, hjc, show x0 - n / 2 + (c - (x0 - n / 2)) = c from by omega]
      have hb := G.bd (y0 + m) c (by omega) h2 h3 h4
      have hb0 := G.bd (y0 + m) (x0 - n / 2) (by omega) h2 (by omega) (by omega)
      have hf0 := hf 0
      rw [Int.zero_mul, Int.add_zero, Int.add_zero] at hf0
      rw [hidx]
      unfold lineStep
      rw [scat_at G.pos (by rw [hf0]; exact hb0.1) (L := L) (by rw [← hidx, cellStep_length, hL]; exact hb.2) _ (by omega)]
      unfold lineRow
      rw [if_pos ⟨hc0, hc1⟩, ← hjc]
      unfold rowLine
      rw [gath_list]
      congr 2
      refine List.map_congr_left fun i hi => ?_
      have hin : (i : Int) < n := by have := List.mem_range.1 hi; omega
      rw [hf, ih (y0 + m) (x0 - n / 2 + i) (by omega) h2 (by omega) (by omega), if_neg (by omega)]
    · have hb := G.bd r c h1 h2 h3 h4
      rw [line_keep hn hb.1 (fun j hj0 hj1 => by rw [hf]; exact (G.bd (y0 + m) (x0 - n / 2 + j) (by omega) (by omega) (by omega) (by omega)).1)
        (fun j hj0 hj1 e => by
          rw [hf] at e
          obtain ⟨e1, e2⟩ := G.inj _ _ _ _ (by omega) (by omega) (by omega) (by omega) h1 h2 h3 h4 e
          exact absurd ⟨e1.symm, by omega, by omega⟩ hr), ih r c h1 h2 h3 h4]
      by_cases h5 : y0 ≤ r ∧ r < y0 + m
      · rw [if_pos h5, if_pos (by omega)]
      · rw [if_neg h5]
        by_cases h6 : y0 ≤ r ∧ r < y0 + ((m + 1 : Nat) : Int)
        · rw [if_pos h6]
          unfold lineRow
          rw [if_neg (fun h7 => hr ⟨by omega, h7.1, h7.2⟩)]
        · rw [if_neg h6]
theorem grid_up {W H : Int} (hW : 0 < W) : Grid W 1 H W (W * H).toNat :=
  ⟨by decide, fun r c h1 h2 h3 h4 => by have := place_in h1 h2 h3 h4; rw [Int.mul_one]; omega,
   fun r c r' c' h1 h2 h3 h4 h5 h6 h7 h8 e => by
    rw [Int.mul_one, Int.mul_one] at e
    have a := place_mod (W := W) (r := r) (c := c) h3 h4
    have b := place_mod (W := W) (r := r') (c := c') h7 h8
    rw [e] at a
    exact ⟨a.2.symm.trans b.2, a.1.symm.trans b.1⟩⟩
theorem grid_lie {W H : Int} (hH : 0 < H) : Grid 1 H H W (W * H).toNat :=
  ⟨hH, fun r c h1 h2 h3 h4 => by have := place_in (W := H) (H := W) h3 h4 h1 h2; rw [Int.mul_one, Int.add_comm, Int.mul_comm W H]; omega,
   fun r c r' c' h1 h2 h3 h4 h5 h6 h7 h8 e => by
    rw [Int.mul_one, Int.mul_one, Int.add_comm r, Int.add_comm r'] at e
    have a := place_mod (W := H) (r := c) (c := r) h1 h2
    have b := place_mod (W := H) (r := c') (c := r') h5 h6
    rw [e] at a
    exact ⟨a.1.symm.trans b.1, a.2.symm.trans b.2⟩⟩

/-! ### Edges of a row, one behind the other -/
def nE (C sz : Int) (co : Bool) (x : Int) : Int := tapsF (min (min (min sz sz) (4 * x)) (C - 4 * x)) co
def edgeRow (C sz li ed th : Int) (co : Bool) (x : Int) (row : Int → Int) (c : Int) : Int :=
  if 4 * x = 0 ∨ 4 * x % sz ≠ 0 then row c else lineRow row (4 * x - nE C sz co x / 2) (nE C sz co x) li ed th c
def rowFold (C sz li ed th : Int) (co : Bool) (row : Int → Int) : Nat → Int → Int
  | 0 => row
  | m + 1 => edgeRow C sz li ed th co m (rowFold C sz li ed th co row m)
theorem nE_bd {C sz x : Int} {co : Bool} (hx : 0 < x) (hc : 4 * x < C) (hC : C % 4 = 0) : (nE C sz co x = 4 ∨ nE C sz co x = 6 ∨ nE C sz co x = 8 ∨ nE C sz co x = 14) ∧ nE C sz co x / 2 ≤ 4 * x ∧ nE C sz co x / 2 ≤ C - 4 * x := by
  have h := tapsF_cases (min (min (min sz sz) (4 * x)) (C - 4 * x)) co
  unfold nE
  generalize tapsF (min (min (min sz sz) (4 * x)) (C - 4 * x)) co = n at h
  refine ⟨by omega, by omega, by omega⟩
theorem edgeRow_congr {C sz li ed th x : Int} {co : Bool} {f g : Int → Int} (hx : 0 ≤ x) (hc : 4 * x < C) (hC : C % 4 = 0) (h : ∀ c, 0 ≤ c → c < C → f c = g c) : ∀ c, 0 ≤ c → c < C → edgeRow C sz li ed th co x f c = edgeRow C sz li ed th co x g c := fun c h0 h1 => by
  unfold edgeRow
  split
  · exact h c h0 h1
  · rename_i hs
    have hb := nE_bd (sz := sz) (co := co) (x := x) (by omega) hc hC
    unfold lineRow
    split
    · unfold rowLine
      congr 2
      refine List.map_congr_left fun j hj => ?_
      have := List.mem_range.1 hj
      exact h _ (by omega) (by omega)
    · exact h c h0 h1
theorem gb_rep {n : Nat} {i : Int} : gb (List.replicate n false) i = false := by
  unfold gb
  rw [List.getD_eq_getElem?_getD, List.getElem?_replicate]
  split <;> rfl
theorem step_up {W H sz li ed th : Int} {co : Bool} {pix ids : List Int} (hW : 4 ≤ W ∧ W ≤ 64 ∧ W % 4 = 0) (hH : 4 ≤ H ∧ H ≤ 64 ∧ H % 4 = 0) (hsz : 0 < sz) (hL : pix.length = (W * H).toNat) {x y : Nat} (hx : (x : Int) < W / 4) (hy : (y : Int) < H / 4) :
    ∀ r c : Int, 0 ≤ r → r < H → 0 ≤ c → c < W →
      gi (passStep true co W H (W / 4) (List.replicate ((H / 4).toNat * (W / 4).toNat) sz) ids (List.replicate ((H / 4).toNat * (W / 4).toNat) false) li ed th pix (y * (W / 4).toNat + x)) (r * W + c * 1) =
        if r / 4 = y then edgeRow W sz li ed th co x (fun c => gi pix (r * W + c * 1)) c else gi pix (r * W + c * 1) := fun r c h1 h2 h3 h4 => by
  have hk : ((y * (W / 4).toNat + x : Nat) : Int) = (y : Int) * (W / 4) + x := by rw [Int.natCast_add, Int.natCast_mul, Int.toNat_of_nonneg (by omega)]
  have hpm := place_mod (W := W / 4) (r := (y : Int)) (c := (x : Int)) (by omega) hx
  have hpi := place_in (W := W / 4) (H := H / 4) (r := (y : Int)) (c := (x : Int)) (by omega) hy (by omega) hx
  have hn := natmul (W := W) (H := H) (by omega) (by omega)
  unfold passStep
  rw [hk, hpm.1, hpm.2, gb_rep, gi_rep hpi.1 (by omega)]
  simp only [cond_true, Bool.false_eq_true, and_false, false_and, or_false]
  unfold edgeRow
  by_cases hs : 4 * (x : Int) = 0 ∨ 4 * (x : Int) % sz ≠ 0
  · rw [if_pos hs, if_pos hs]; split <;> rfl
  · rw [if_neg hs, if_neg hs, gi_rep (i := (y : Int) * (W / 4) + x - 1) (by have := Int.mul_nonneg (a := (y : Int)) (b := W / 4) (by omega) (by omega); omega) (by omega)]
    have hb := nE_bd (sz := sz) (co := co) (x := x) (C := W) (by omega) (by omega) hW.2.2
    have hcv := cell_view (grid_up (W := W) (H := H) (by omega)) hL (li := li) (ed := ed) (th := th) (x0 := 4 * x) (y0 := 4 * y) hb.1 (by omega) (by omega) 4 (Nat.le_refl _) r c h1 h2 h3 h4
    rw [Int.mul_one (4 * (x : Int))] at hcv
    refine Eq.trans hcv ?_
    by_cases hr : r / 4 = y
    · rw [if_pos hr, if_pos (by omega)]
    · rw [if_neg hr, if_neg (by omega)]
theorem step_lie {W H sz li ed th : Int} {co : Bool} {pix ids : List Int} (hW : 4 ≤ W ∧ W ≤ 64 ∧ W % 4 = 0) (hH : 4 ≤ H ∧ H ≤ 64 ∧ H % 4 = 0) (hsz : 0 < sz) (hL : pix.length = (W * H).toNat) {x y : Nat} (hx : (x : Int) < W / 4) (hy : (y : Int) < H / 4) :
    ∀ r c : Int, 0 ≤ r → r < H → 0 ≤ c → c < W →
      gi (passStep false co H W (H / 4) (List.replicate ((W / 4).toNat * (H / 4).toNat) sz) ids (List.replicate ((W / 4).toNat * (H / 4).toNat) false) li ed th pix (x * (H / 4).toNat + y)) (r * 1 + c * H) =
        if r / 4 = y then edgeRow W sz li ed th co x (fun c => gi pix (r * 1 + c * H)) c else gi pix (r * 1 + c * H) := fun r c h1 h2 h3 h4 => by
  have hk : ((x * (H / 4).toNat + y : Nat) : Int) = (x : Int) * (H / 4) + y := by rw [Int.natCast_add, Int.natCast_mul, Int.toNat_of_nonneg (by omega)]
  have hpm := place_mod (W := H / 4) (r := (x : Int)) (c := (y : Int)) (by omega) hy
  have hpi := place_in (W := H / 4) (H := W / 4) (r := (x : Int)) (c := (y : Int)) (by omega) hx (by omega) hy
  have hn := natmul (W := H) (H := W) (by omega) (by omega)
  unfold passStep
  rw [hk, hpm.1, hpm.2, gb_rep, gi_rep hpi.1 (by omega)]
  simp only [cond_false, Bool.false_eq_true, and_false, false_and, or_false]
  unfold edgeRow
  by_cases hs : 4 * (x : Int) = 0 ∨ 4 * (x : Int) % sz ≠ 0
  · rw [if_pos hs, if_pos hs]; split <;> rfl
  · have hxm : H / 4 ≤ (x : Int) * (H / 4) := by
      have : 1 * (H / 4) ≤ (x : Int) * (H / 4) := Int.mul_le_mul_of_nonneg_right (by omega) (by omega)
      omega
    rw [if_neg hs, if_neg hs, gi_rep (i := (x : Int) * (H / 4) + y - H / 4) (by omega) (by omega)]
    have hb := nE_bd (sz := sz) (co := co) (x := x) (C := W) (by omega) (by omega) hW.2.2
    have hcv := cell_view (grid_lie (W := W) (H := H) (by omega)) hL (li := li) (ed := ed) (th := th) (x0 := 4 * x) (y0 := 4 * y) hb.1 (by omega) (by omega) 4 (Nat.le_refl _) r c h1 h2 h3 h4
    rw [Int.mul_one (4 * (y : Int)), Int.add_comm (4 * (y : Int)) (4 * (x : Int) * H)] at hcv
    refine Eq.trans hcv ?_
    by_cases hr : r / 4 = y
    · rw [if_pos hr, if_pos (by omega)]
    · rw [if_neg hr, if_neg (by omega)]

theorem rowFold_congr {C sz li ed th : Int} {co : Bool} (hC : C % 4 = 0) {f g : Int → Int} (h : ∀ c, 0 ≤ c → c < C → f c = g c) : ∀ m : Nat, 4 * (m : Int) ≤ C → ∀ c, 0 ≤ c → c < C → rowFold C sz li ed th co f m c = rowFold C sz li ed th co g m c
  | 0, _ => h
  | m + 1, hm => edgeRow_congr (by omega) (by omega) hC (rowFold_congr hC h m (by omega))
section
variable {W H sz li ed th : Int} {co : Bool} {pix ids : List Int}
theorem fold_up_x (hW : 4 ≤ W ∧ W ≤ 64 ∧ W % 4 = 0) (hH : 4 ≤ H ∧ H ≤ 64 ∧ H % 4 = 0) (hsz : 0 < sz) (hL : pix.length = (W * H).toNat) {y : Nat} (hy : (y : Int) < H / 4)
    (h0 : ∀ r c : Int, 0 ≤ r → r < H → 0 ≤ c → c < W → gi (passTo true co W H (W / 4) (List.replicate ((H / 4).toNat * (W / 4).toNat) sz) ids (List.replicate ((H / 4).toNat * (W / 4).toNat) false) li ed th pix (y * (W / 4).toNat)) (r * W + c * 1) = rowFold W sz li ed th co (fun c => gi pix (r * W + c * 1)) (if r / 4 < y then (W / 4).toNat else 0) c) :
    ∀ x : Nat, (x : Int) ≤ W / 4 → ∀ r c : Int, 0 ≤ r → r < H → 0 ≤ c → c < W → gi (passTo true co W H (W / 4) (List.replicate ((H / 4).toNat * (W / 4).toNat) sz) ids (List.replicate ((H / 4).toNat * (W / 4).toNat) false) li ed th pix (y * (W / 4).toNat + x)) (r * W + c * 1) =
      rowFold W sz li ed th co (fun c => gi pix (r * W + c * 1)) (if r / 4 < y then (W / 4).toNat else if r / 4 = y then x else 0) c
  | 0, _, r, c, h1, h2, h3, h4 => by
    rw [Nat.add_zero, h0 r c h1 h2 h3 h4]
    congr 1
    split
    · rfl
    · split <;> rfl
  | x + 1, hx, r, c, h1, h2, h3, h4 => by
    have ih := fold_up_x hW hH hsz hL hy h0 x (by omega)
    rw [← Nat.add_assoc, passTo, step_up hW hH hsz (by rw [passTo_length]; exact hL) (by omega) hy r c h1 h2 h3 h4]
    by_cases hr : r / 4 = y
    · rw [if_pos hr, if_neg (by omega), if_pos hr, rowFold]
      refine edgeRow_congr (by omega) (by omega) hW.2.2 (fun c' h5 h6 => ?_) c h3 h4
      rw [ih r c' h1 h2 h5 h6, if_neg (by omega), if_pos hr]
    · rw [if_neg hr, if_neg hr, ih r c h1 h2 h3 h4, if_neg hr]
theorem fold_up (hW : 4 ≤ W ∧ W ≤ 64 ∧ W % 4 = 0) (hH : 4 ≤ H ∧ H ≤ 64 ∧ H % 4 = 0) (hsz : 0 < sz) (hL : pix.length = (W * H).toNat) : ∀ y : Nat, (y : Int) ≤ H / 4 →
    ∀ r c : Int, 0 ≤ r → r < H → 0 ≤ c → c < W → gi (passTo true co W H (W / 4) (List.replicate ((H / 4).toNat * (W / 4).toNat) sz) ids (List.replicate ((H / 4).toNat * (W / 4).toNat) false) li ed th pix (y * (W / 4).toNat)) (r * W + c * 1) = rowFold W sz li ed th co (fun c => gi pix (r * W + c * 1)) (if r / 4 < y then (W / 4).toNat else 0) c
  | 0, _, r, c, h1, _, _, _ => by rw [Nat.zero_mul, if_neg (by omega)]; rfl
  | y + 1, hy, r, c, h1, h2, h3, h4 => by
    have h := fold_up_x hW hH hsz hL (by omega) (fold_up hW hH hsz hL y (by omega)) (W / 4).toNat (by omega) r c h1 h2 h3 h4
    rw [Nat.succ_mul, h]
    congr 1
    split
    · rw [if_pos (by omega)]
    · split
      · rw [if_pos (by omega)]
      · rw [if_neg (by omega)]
theorem fold_lie_y (hW : 4 ≤ W ∧ W ≤ 64 ∧ W % 4 = 0) (hH : 4 ≤ H ∧ H ≤ 64 ∧ H % 4 = 0) (hsz : 0 < sz) (hL : pix.length = (W * H).toNat) {x : Nat} (hx : (x : Int) < W / 4)
    (h0 : ∀ r c : Int, 0 ≤ r → r < H → 0 ≤ c → c < W → gi (passTo false co H W (H / 4) (List.replicate ((W / 4).toNat * (H / 4).toNat) sz) ids (List.replicate ((W / 4).toNat * (H / 4).toNat) false) li ed th pix (x * (H / 4).toNat)) (r * 1 + c * H) = rowFold W sz li ed th co (fun c => gi pix (r * 1 + c * H)) x c) :
    ∀ y : Nat, (y : Int) ≤ H / 4 → ∀ r c : Int, 0 ≤ r → r < H → 0 ≤ c → c < W → gi (passTo false co H W (H / 4) (List.replicate ((W / 4).toNat * (H / 4).toNat) sz) ids (List.replicate ((W / 4).toNat * (H / 4).toNat) false) li ed th pix (x * (H / 4).toNat + y)) (r * 1 + c * H) =
      rowFold W sz li ed th co (fun c => gi pix (r * 1 + c * H)) (if r / 4 < y then x + 1 else x) c
  | 0, _, r, c, h1, h2, h3, h4 => by
    rw [Nat.add_zero, h0 r c h1 h2 h3 h4, if_neg (by omega)]
  | y + 1, hy, r, c, h1, h2, h3, h4 => by
    have ih := fold_lie_y hW hH hsz hL hx h0 y (by omega)
    rw [← Nat.add_assoc, passTo, step_lie hW hH hsz (by rw [passTo_length]; exact hL) hx (by omega) r c h1 h2 h3 h4]
    by_cases hr : r / 4 = y
    · rw [if_pos hr, if_pos (by omega), rowFold]
      refine edgeRow_congr (by omega) (by omega) hW.2.2 (fun c' h5 h6 => ?_) c h3 h4
      rw [ih r c' h1 h2 h5 h6, if_neg (by omega)]
    · rw [if_neg hr, ih r c h1 h2 h3 h4]
      congr 1
      by_cases h5 : r / 4 < y
      · rw [if_pos h5, if_pos (by omega)]
      · rw [if_neg h5, if_neg (by omega)]
theorem fold_lie (hW : 4 ≤ W ∧ W ≤ 64 ∧ W % 4 = 0) (hH : 4 ≤ H ∧ H ≤ 64 ∧ H % 4 = 0) (hsz : 0 < sz) (hL : pix.length = (W * H).toNat) : ∀ x : Nat, (x : Int) ≤ W / 4 →
    ∀ r c : Int, 0 ≤ r → r < H → 0 ≤ c → c < W → gi (passTo false co H W (H / 4) (List.replicate ((W / 4).toNat * (H / 4).toNat) sz) ids (List.replicate ((W / 4).toNat * (H / 4).toNat) false) li ed th pix (x * (H / 4).toNat)) (r * 1 + c * H) = rowFold W sz li ed th co (fun c => gi pix (r * 1 + c * H)) x c
  | 0, _, r, c, _, _, _, _ => by rw [Nat.zero_mul]; rfl
  | x + 1, hx, r, c, h1, h2, h3, h4 => by
    have h := fold_lie_y hW hH hsz hL (by omega) (fold_lie hW hH hsz hL x (by omega)) (H / 4).toNat (by omega) r c h1 h2 h3 h4
    rw [Nat.succ_mul, h, if_pos (by omega)]
end
theorem turned_law {W H sz lv sh : Int} {co : Bool} {pix ids ids2 : List Int} {k N : Nat} (hW : 4 ≤ W ∧ W ≤ 64 ∧ W % 4 = 0) (hH : 4 ≤ H ∧ H ≤ 64 ∧ H % 4 = 0) (hsz : 0 < sz) (hL : pix.length = (W * H).toNat) (hN : N = (W * H).toNat) (hk : (k : Int) < W * H) :
    gi (passF false co H W (H / 4) (List.replicate ((W / 4).toNat * (H / 4).toNat) sz) ids2 (List.replicate ((W / 4).toNat * (H / 4).toNat) false) lv sh (turnTo W H pix (W * H).toNat N)) ((k : Int) % W * H + (k : Int) / W) =
      gi (passF true co W H (W / 4) (List.replicate ((H / 4).toNat * (W / 4).toNat) sz) ids (List.replicate ((H / 4).toNat * (W / 4).toNat) false) lv sh pix) k := by
  subst hN
  have hWH : ((W * H).toNat : Int) = W * H := Int.toNat_of_nonneg (Int.mul_nonneg (by omega) (by omega))
  have turn : ∀ p : Nat, (p : Int) < W * H → gi (turnTo W H pix (W * H).toNat (W * H).toNat) ((p : Int) % W * H + (p : Int) / W) = gi pix p := fun p hp => turn_at (by omega) (by omega) hWH _ (Nat.le_refl _) (by omega)
  unfold passF
  split
  · exact turn k hk
  · rw [List.length_replicate, List.length_replicate]
    have hc0 : 0 ≤ (k : Int) % W := Int.emod_nonneg _ (by omega)
    have hc1 : (k : Int) % W < W := Int.emod_lt_of_pos _ (by omega)
    have hr0 : 0 ≤ (k : Int) / W := Int.ediv_nonneg (by omega) (by omega)
    have hr1 : (k : Int) / W < H := Int.ediv_lt_of_lt_mul (by omega) (by rw [Int.mul_comm]; exact hk)
    have hup := fold_up (sz := sz) (li := limitF lv sh) (ed := edgeF lv sh) (th := thrF lv) (co := co) (ids := ids) hW hH hsz hL (H / 4).toNat (by omega) _ _ hr0 hr1 hc0 hc1
    have hlie := fold_lie (sz := sz) (li := limitF lv sh) (ed := edgeF lv sh) (th := thrF lv) (co := co) (ids := ids2) (pix := turnTo W H pix (W * H).toNat (W * H).toNat) hW hH hsz (turnTo_length _ _ _ _ _) (W / 4).toNat (by omega) _ _ hr0 hr1 hc0 hc1
    rw [if_pos (by omega)] at hup
    have hkk : (k : Int) / W * W + (k : Int) % W * 1 = k := by have := Int.mul_ediv_add_emod (k : Int) W; rw [Int.mul_comm] at this; omega
    rw [hkk] at hup
    rw [hup, Int.add_comm ((k : Int) % W * H), show (k : Int) / W + (k : Int) % W * H = (k : Int) / W * 1 + (k : Int) % W * H from by rw [Int.mul_one], hlie]
    refine rowFold_congr hW.2.2 (fun c h3 h4 => ?_) _ (by omega) _ hc0 hc1
    have hp := place_in (W := W) (H := H) hr0 hr1 h3 h4
    obtain ⟨p, hp2⟩ : ∃ p : Nat, (p : Int) = (k : Int) / W * W + c := ⟨((k : Int) / W * W + c).toNat, Int.toNat_of_nonneg hp.1⟩
    have hm := place_mod (W := W) (r := (k : Int) / W) (c := c) h3 h4
    have := turn p (by omega)
    rw [hp2, hm.1, hm.2] at this
    rw [Int.mul_one, Int.mul_one, Int.add_comm, this]
end Go.Proofs.Zed
