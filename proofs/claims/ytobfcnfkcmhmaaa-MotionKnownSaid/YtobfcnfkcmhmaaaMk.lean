/- Plain laws of motion's statements (chapter 15): blocks further on, whole samples, what lies between, what is turned about. No program in sight. -/
import Derived.Test.YtobfcnfkcmhmaaaMb
import Derived.Test.YtobfcnfkcmhmaaaMs
set_option linter.unusedVariables false
namespace Go.Proofs.Zed
open Go Go.RowKit

theorem whole_checks {W0 H0 : Int} {m0 : Nat} {W1 H1 : Int} {m1 : Nat} {W2 H2 : Int} {m2 : Nat} (hw : wholeF W0 H0 m0 W1 H1 m1 W2 H2 m2 = 0) : checkF W0 H0 m0 = 0 ∧ checkF W1 H1 m1 = 0 ∧ checkF W2 H2 m2 = 0 := by
  unfold wholeF at hw
  split at hw
  · rename_i h
    exact ⟨h.1.1, h.2.1.1, h.2.2.1⟩
  · omega
theorem whole_two {W0 H0 : Int} {m0 : Nat} {W1 H1 : Int} {m1 : Nat} {W2 H2 : Int} {m2 : Nat} (hw : wholeF W0 H0 m0 W1 H1 m1 W2 H2 m2 ≠ 0) : wholeF W0 H0 m0 W1 H1 m1 W2 H2 m2 = 2 := by
  unfold wholeF at hw ⊢
  split at hw
  · omega
  · rename_i h; rw [if_neg h]
theorem byV_bd {n v : Int} (h : -4095 ≤ v ∧ v ≤ 4095) : -8190 ≤ byV n v ∧ byV n v ≤ 8190 := by
  unfold byV; split <;> omega
section
variable {W0 H0 : Int} {m0 : Nat} {W1 H1 : Int} {m1 : Nat} {W2 H2 : Int} {m2 : Nat} {xs0 xs1 xs2 : List Int} {n X Y bw bh vx vy kd : Int}
theorem sel_check (hw : wholeF W0 H0 m0 W1 H1 m1 W2 H2 m2 = 0) : checkF (selI n W0 W1 W2) (selI n H0 H1 H2) (selI n m0 m1 m2) = 0 := by
  have h := whole_checks hw
  unfold selI
  split
  · exact h.1
  · split
    · exact h.2.1
    · exact h.2.2
theorem single_fine (hw : wholeF W0 H0 m0 W1 H1 m1 W2 H2 m2 = 0) (hn : 0 ≤ n ∧ n ≤ 2) (hX : 0 ≤ X ∧ X ≤ 1024) (hY : 0 ≤ Y ∧ Y ≤ 1024) (hbw : 4 ≤ bw ∧ bw ≤ 64) (hbh : 4 ≤ bh ∧ bh ≤ 64) (hvx : -4095 ≤ vx ∧ vx ≤ 4095) (hvy : -4095 ≤ vy ∧ vy ≤ 4095) (hk : 0 ≤ kd ∧ kd ≤ 2) :
    singleE W0 H0 m0 W1 H1 m1 W2 H2 m2 n X Y bw bh vx vy kd = 0 ∧
    singleOut W0 H0 m0 W1 H1 m1 W2 H2 m2 xs0 xs1 xs2 n X Y bw bh vx vy kd = fetchF (selI n xs0 xs1 xs2) (selI n W0 W1 W2) (selI n H0 H1 H2) (16 * X + byV n vx) (16 * Y + byV n vy) bw bh kd ∧
    ((singleOut W0 H0 m0 W1 H1 m1 W2 H2 m2 xs0 xs1 xs2 n X Y bw bh vx vy kd).length : Int) = bw * bh := by
  have h1 := single_ok (W0 := W0) (H0 := H0) (m0 := m0) (W1 := W1) (H1 := H1) (m1 := m1) (W2 := W2) (H2 := H2) (m2 := m2) (xs0 := xs0) (xs1 := xs1) (xs2 := xs2) (n := n) (X := X) (Y := Y) (bw := bw) (bh := bh) (vx := vx) (vy := vy) (kd := kd) ⟨hw, hn, hX, hY, hbw, hbh, hvx, hvy⟩
  have b1 := byV_bd (n := n) hvx
  have b2 := byV_bd (n := n) hvy
  have h2 := fetch_ok (xs := selI n xs0 xs1 xs2) (W := selI n W0 W1 W2) (H := selI n H0 H1 H2) (m := selI n m0 m1 m2) (x := 16 * X + byV n vx) (y := 16 * Y + byV n vy) (bw := bw) (bh := bh) (kd := kd) ⟨sel_check hw, by omega, by omega, hbw, hbh, hk.1, hk.2⟩
  have hl := mul_bd (a := bw) (b := bh) (x := 64) (y := 64) (by omega) (by omega) (by omega) (by omega)
  refine ⟨h1.1.trans h2.1, h1.2.trans h2.2, ?_⟩
  rw [h1.2, h2.2, fetchF_length]
  omega
theorem by_u {u v d : Int} (h : (n = 0 ∧ u = 8) ∨ (n ≠ 0 ∧ u = 16)) (X : Int) : 16 * X + byV n (v + u * d) = 16 * (X + d) + byV n v := by
  rcases h with ⟨h, rfl⟩ | ⟨h, rfl⟩
  · unfold byV; rw [if_pos h, if_pos h]; omega
  · unfold byV; rw [if_neg h, if_neg h]; omega
theorem by_w {u d : Int} (h : (n = 0 ∧ u = 8) ∨ (n ≠ 0 ∧ u = 16)) (X : Int) : 16 * X + byV n (d * u) = 16 * (X + d) := by
  rcases h with ⟨h, rfl⟩ | ⟨h, rfl⟩
  · unfold byV; rw [if_pos h]; omega
  · unfold byV; rw [if_neg h]; omega
theorem tdiv_bd {v u : Int} (hv : -4095 ≤ v ∧ v ≤ 4095) (hu : u = 2 ∨ u = 8 ∨ u = 16) : -(4095 / u) ≤ v.tdiv u ∧ v.tdiv u ≤ 4095 / u := by
  have h1 := Int.mul_tdiv_add_tmod v u
  have h2 := Int.tmod_lt_of_pos v (show 0 < u by omega)
  have h3 := Int.tmod_lt_of_pos (-v) (show 0 < u by omega)
  rw [Int.neg_tmod] at h3
  have h4 : 0 ≤ v → 0 ≤ v.tmod u := fun h => Int.tmod_nonneg _ h
  have h5 : v ≤ 0 → v.tmod u ≤ 0 := fun h => by
    have := Int.tmod_nonneg u (show 0 ≤ -v by omega)
    rw [Int.neg_tmod] at this
    omega
  rcases hu with rfl | rfl | rfl <;> omega
theorem selBytes (h0 : Bytes xs0) (h1 : Bytes xs1) (h2 : Bytes xs2) : Bytes (selI n xs0 xs1 xs2) := by
  unfold selI; split
  · exact h0
  · split
    · exact h1
    · exact h2
theorem selRd {w : World} {A0 A1 A2 : Option Addr} (h0 : Rd w A0 m0 1 (u8s xs0)) (h1 : Rd w A1 m1 1 (u8s xs1)) (h2 : Rd w A2 m2 1 (u8s xs2)) : Rd w (selI n A0 A1 A2) (selI n m0 m1 m2) 1 (u8s (selI n xs0 xs1 xs2)) := by
  unfold selI
  by_cases a : n = 0
  · rw [if_pos a, if_pos a, if_pos a]; exact h0
  · rw [if_neg a, if_neg a, if_neg a]
    by_cases b : n = 1
    · rw [if_pos b, if_pos b, if_pos b]; exact h1
    · rw [if_neg b, if_neg b, if_neg b]; exact h2
theorem sel3 {A0 A1 A2 : Option Addr} {c0 c1 c2 : Nat} (h0 : 0 ≤ n) (h1 : n ≤ 2) : (([.int .i64 W0, .int .i64 H0, .slice A0 m0 c0, .int .i64 W1, .int .i64 H1, .slice A1 m1 c1, .int .i64 W2, .int .i64 H2, .slice A2 m2 c2] : List Value).drop (n.toNat * 3)).take 3 =
    [.int .i64 (selI n W0 W1 W2), .int .i64 (selI n H0 H1 H2), .slice (selI n A0 A1 A2) (selI n m0 m1 m2) (selI n c0 c1 c2)] := by
  have : n = 0 ∨ n = 1 ∨ n = 2 := by omega
  rcases this with rfl | rfl | rfl <;> rfl
theorem cells3 {cs L : List Value} {o k : Nat} {C : Nat → Value → Prop} (h : ∀ j v, ((cs.drop o).take k)[j]? = some v → C j v) (e : (cs.drop o).take k = L) : ∀ j v, L[j]? = some v → C j v := e ▸ h
theorem whole_law {u dx dy : Int} (hw : wholeF W0 H0 m0 W1 H1 m1 W2 H2 m2 = 0) (hx : Bytes (selI n xs0 xs1 xs2)) (hu : (n = 0 ∧ u = 8) ∨ (n ≠ 0 ∧ u = 16)) (hn : 0 ≤ n ∧ n ≤ 2) (hX : 0 ≤ X ∧ X ≤ 1024) (hY : 0 ≤ Y ∧ Y ≤ 1024) (hbw : 4 ≤ bw ∧ bw ≤ 64) (hbh : 4 ≤ bh ∧ bh ≤ 64)
    (hvx : -4095 ≤ dx * u ∧ dx * u ≤ 4095) (hvy : -4095 ≤ dy * u ∧ dy * u ≤ 4095) (hk : 0 ≤ kd ∧ kd ≤ 2) {i : Nat} (hi : (i : Int) < bw * bh) :
    gi (singleOut W0 H0 m0 W1 H1 m1 W2 H2 m2 xs0 xs1 xs2 n X Y bw bh (dx * u) (dy * u) kd) i = atF (selI n xs0 xs1 xs2) (selI n W0 W1 W2) (selI n H0 H1 H2) (selI n m0 m1 m2) (X + (i : Int) % bw + dx) (Y + (i : Int) / bw + dy) := by
  rw [(single_fine (xs0 := xs0) (xs1 := xs1) (xs2 := xs2) hw hn hX hY hbw hbh hvx hvy hk).2.1, by_w hu, by_w hu, fetch_whole hx hk.1 hk.2 hi, atF, if_pos (sel_check hw)]
  congr 1 <;> omega
end
/-! ### Pairs -/
theorem pair_comm {a b : List Int} (h : a.length = b.length) : pairOut a b = pairOut b a := by
  unfold pairOut
  rw [if_pos h, if_pos h.symm, h]
  generalize b.length = k
  induction k with
  | zero => rfl
  | succ k ih => rw [pairTo, pairTo, ih, pairV, pairV, Int.add_comm (gi a k)]
theorem pair_self (a : List Int) : pairOut a a = a := by
  unfold pairOut
  rw [if_pos rfl]
  have h : pairIn a a a.length = a := by
    have key : ∀ k, k ≤ a.length → pairIn a a k = a := by
      intro k
      induction k with
      | zero => intro _; rfl
      | succ k ih =>
        intro hk
        rw [← pairIn_next (by omega), ih (by omega)]
        have : pairV a a k = gi a k := by unfold pairV; omega
        rw [this]
        refine gi_list_eq (by simp) fun p hp => ?_
        by_cases e : p = k
        · subst e; rw [gi_set_eq (by omega) (by omega)]
        · rw [gi_set_ne (by omega)]
    exact key _ (Nat.le_refl _)
  rw [pairIn_done] at h
  exact h
theorem pairTo_at {a b : List Int} {i : Nat} : ∀ {k : Nat}, i < k → gi (pairTo a b k) i = pairV a b i
  | 0, h => by omega
  | k + 1, h => by
    unfold gi
    rw [pairTo, List.getD_eq_getElem?_getD]
    rcases Nat.lt_or_ge i k with hi | hi
    · rw [List.getElem?_append_left (by rw [pairTo_length]; omega)]
      have := pairTo_at (a := a) (b := b) hi
      unfold gi at this
      rw [List.getD_eq_getElem?_getD] at this
      exact this
    · have : i = k := by omega
      subst this
      rw [List.getElem?_append_right (by rw [pairTo_length]; omega), pairTo_length]
      simp
theorem gi_take {xs : List Int} {n i : Nat} (h : i < n) : gi (xs.take n) i = gi xs i := by
  unfold gi
  rw [List.getD_eq_getElem?_getD, List.getD_eq_getElem?_getD, List.getElem?_take, if_pos (by simpa using h)]
theorem pair_between {xs ys : List Int} {n i : Nat} (hl : (xs.take n).length = n) (hl2 : (ys.take n).length = n) (hi : i < n) : min (gi xs i) (gi ys i) ≤ gi (pairOut (xs.take n) (ys.take n)) i ∧ gi (pairOut (xs.take n) (ys.take n)) i ≤ max (gi xs i) (gi ys i) := by
  unfold pairOut
  rw [if_pos (by rw [hl, hl2]), hl, pairTo_at hi, pairV, gi_take hi, gi_take hi]
  omega
/-! ### Blends, as the statements ask -/
section
variable {up : Bool} {xs ys : List Int} {sw X Y W H n : Int}
theorem blend_two (h : blendE xs ys sw X Y W H n ≠ 0) : blendE xs ys sw X Y W H n = 2 := by
  unfold blendE at h ⊢
  split at h
  · omega
  · rename_i k; rw [if_neg k]
theorem blend_of (h : blendE xs ys sw X Y W H n = 0) : blendOk xs.length sw X Y W H n ys.length := by
  unfold blendE at h
  split at h
  · assumption
  · omega
theorem blend_len0 (h : blendE xs ys sw X Y W H n ≠ 0) : blendOut up xs ys sw X Y W H n = [] := by
  unfold blendE at h
  split at h
  · omega
  · rename_i k; exact (blend_nay k).2
theorem blend_len (h : blendE xs ys sw X Y W H n = 0) : (blendOut up xs ys sw X Y W H n).length = xs.length := by
  rw [(blend_yes (up := up) (blend_of h)).2, blendTo_length]
theorem beside_law (h : blendE xs ys sw X Y W H n = 0) {i : Nat} (ho : ¬ ((X ≤ (i : Int) % sw ∧ (i : Int) % sw < X + W) ∧ (Y ≤ (i : Int) / sw ∧ (i : Int) / sw < Y + H))) : gi (blendOut up xs ys sw X Y W H n) i = gi xs i := by
  have k := blend_of h
  rw [(blend_yes (up := up) k).2]
  exact blend_beside k.2.1 k.2.2 (by omega) ho
theorem inside_law (hn : n = bif up then H else W) (h : blendE xs ys sw X Y W H n = 0) {i : Nat} {q : Int} (hx : X ≤ (i : Int) % sw ∧ (i : Int) % sw < X + W) (hy : Y ≤ (i : Int) / sw ∧ (i : Int) / sw < Y + H) (hq : q = ((i : Int) / sw - Y) * W + ((i : Int) % sw - X)) :
    min (gi xs i) (gi ys q) ≤ gi (blendOut up xs ys sw X Y W H n) i ∧ gi (blendOut up xs ys sw X Y W H n) i ≤ max (gi xs i) (gi ys q) := by
  subst hq
  have k := blend_of h
  rw [(blend_yes (up := up) k).2, blend_get k.2.1 k.2.2 (by omega) hx hy]
  refine mix_between ?_
  have := wt_bd (n := n) (q := bif up then (i : Int) / sw - Y else (i : Int) % sw - X) k.1.1 (by cases up <;> simp only [cond_true, cond_false] <;> omega) (by subst hn; cases up <;> simp only [cond_true, cond_false] <;> omega)
  omega
end
/-! ### Weights rise -/
theorem wt_rise {n : Int} (hn : 4 ≤ n) {i : Nat} (hi : (i : Int) + 1 < n) : gi (wtTo n n.toNat) i ≤ gi (wtTo n n.toNat) ((i : Int) + 1) := by
  rw [wtTo_at n (by omega), show ((i : Int) + 1) = ((i + 1 : Nat) : Int) from by omega, wtTo_at n (by omega)]
  unfold wtV
  have := Int.ediv_le_ediv (a := (2 * (i : Int) + 1) * 16) (b := (2 * ((i + 1 : Nat) : Int) + 1) * 16) (c := n) (by omega) (by omega)
  omega
/-- The last weight of k + 3. -/
def lastF : Nat → Int
  | 0 => 0
  | k + 1 => gi (wtOut ((k : Int) + 4)) ((k : Int) + 4 - 1)
theorem last_63 : lastF 29 = 63 := by kernel_rfl
theorem turned_law15 {xs ys : List Int} {sw X Y W H : Int} {m m2 : Nat} (hm : xs.length = m) (hm2 : ys.length = m2) (h : blendE xs ys sw X Y W H H = 0) :
    blendE (turnTo sw ((m : Int) / sw) xs m m) (turnTo W ((m2 : Int) / W) ys m2 m2) ((m : Int) / sw) Y X H W H = 0 ∧
    blendOut false (turnTo sw ((m : Int) / sw) xs m m) (turnTo W ((m2 : Int) / W) ys m2 m2) ((m : Int) / sw) Y X H W H = turnTo sw ((m : Int) / sw) (blendOut true xs ys sw X Y W H H) m m := by
  obtain ⟨k1, k2, k3⟩ := blend_of h
  have hy := (blend_yes (up := true) ⟨k1, k2, k3⟩).2
  have hlf := lies_facts k2
  rw [hm2] at k3
  have hq : (m2 : Int) / W = H := by rw [k3, Int.mul_ediv_cancel_left _ (by omega)]
  rw [hm] at k2
  have k4 := lies_turn k2
  have hok : blendOk ((turnTo sw ((m : Int) / sw) xs m m).length : Int) ((m : Int) / sw) Y X H W H ((turnTo W ((m2 : Int) / W) ys m2 m2).length : Int) := by
    rw [turnTo_length, turnTo_length]
    exact ⟨k1, k4, by rw [k3, Int.mul_comm]⟩
  obtain ⟨e1, e2⟩ := blend_yes (up := false) hok
  refine ⟨e1, ?_⟩
  rw [e2, hy, turnTo_length, hq, hm2]
  subst hm
  exact turned_blend (oth := ys) k2 rfl k3 hm2
end Go.Proofs.Zed
