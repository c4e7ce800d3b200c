/- Plain words that the chapters share: places in a plane, lists whose elements are set, numbers brought into bounds. No program in sight. -/
import Derived.Test.YtobfcnfkcmhmaaaZg
set_option linter.unusedVariables false
namespace Go.Proofs.Zed
open Go Go.RowKit

def clipF (v a b : Int) : Int := min (max v a) b
theorem emod_byte (x : Int) : 0 ≤ x % 256 ∧ x % 256 ≤ 255 := by omega
theorem clipF_bd (v a b : Int) : clipF v a b = min (max v a) b := rfl
theorem clip_byte (v : Int) : 0 ≤ clipF v 0 255 ∧ clipF v 0 255 ≤ 255 := by unfold clipF; omega
/-- What Check answers of a plane of sides W, H that has n samples. -/
def checkF (W H : Int) (n : Nat) : Int := if (¬ (((1 ≤ W ∧ W ≤ 512) ∧ 1 ≤ H) ∧ H ≤ 512)) ∨ (n : Int) ≠ W * H then 2 else 0
theorem checkF_iff (W H : Int) (n : Nat) : (checkF W H n = 0 ∧ 1 ≤ W ∧ W ≤ 512 ∧ 1 ≤ H ∧ H ≤ 512 ∧ (n : Int) = W * H) ∨ (checkF W H n = 2 ∧ ¬ (1 ≤ W ∧ W ≤ 512 ∧ 1 ≤ H ∧ H ≤ 512 ∧ (n : Int) = W * H)) := by
  unfold checkF
  split
  · rename_i h; exact Or.inr ⟨rfl, fun k => by rcases h with h | h; exact h ⟨⟨⟨k.1, k.2.1⟩, k.2.2.1⟩, k.2.2.2.1⟩; exact h k.2.2.2.2⟩
  · rename_i h
    rw [not_or, Decidable.not_not, Decidable.not_not] at h
    exact Or.inl ⟨rfl, h.1.1.1.1, h.1.1.1.2, h.1.1.2, h.1.2, h.2⟩
/-- A place in a plane. -/
theorem place_in {W H r c : Int} (h0 : 0 ≤ r) (h1 : r < H) (h2 : 0 ≤ c) (h3 : c < W) : 0 ≤ r * W + c ∧ r * W + c < W * H := by
  have hm := Int.mul_nonneg h0 (Int.le_trans h2 (Int.le_of_lt h3))
  have h4 : (r + 1) * W ≤ H * W := Int.mul_le_mul_of_nonneg_right (by omega) (by omega)
  rw [Int.add_mul, Int.one_mul, Int.mul_comm H W] at h4
  omega

theorem ge_of_div {a b : Int} (h0 : 0 < b) (h : 1 ≤ a / b) : b ≤ a := by
  have := (Int.le_ediv_iff_mul_le h0).1 h
  omega
theorem mod_le {a b : Int} (h0 : 0 < b) (h : 0 ≤ a) : a % b ≤ a := by
  have h1 := Int.mul_ediv_add_emod a b
  have h2 := Int.mul_nonneg (Int.le_of_lt h0) (Int.ediv_nonneg h (Int.le_of_lt h0))
  omega
def bringF (i n : Int) : Int := if n ≤ 0 then 0 else i % n
theorem bringF_bd {i n : Int} (h : 0 < n) : 0 ≤ bringF i n ∧ bringF i n < n := by
  unfold bringF; rw [if_neg (by omega)]; exact ⟨Int.emod_nonneg _ (by omega), Int.emod_lt_of_pos _ h⟩
theorem tmod_bd {i n : Int} (h : 0 < n) : -n < Int.tmod i n ∧ Int.tmod i n < n := by
  have h1 := Int.tmod_lt_of_pos i h
  have h2 := Int.tmod_lt_of_pos (-i) h
  rw [Int.neg_tmod] at h2
  omega
theorem tmod_emod (i n : Int) : Int.tmod i n % n = i % n := by
  have h := Int.mul_tdiv_add_tmod i n
  have h2 : (n * i.tdiv n + i.tmod n) % n = i.tmod n % n := by rw [Int.add_comm, Int.add_mul_emod_self_left]
  rw [← h2, h]
theorem bring_neg {i n : Int} (h : ¬ n ≤ 0) (k : Int.tmod i n < 0) : Int.tmod i n + n = bringF i n := by
  have hb := tmod_bd (i := i) (n := n) (by omega)
  have he : (Int.tmod i n + n) % n = i % n := by
    rw [Int.add_emod_right, tmod_emod]
  rw [bringF, if_neg h, ← he, Int.emod_eq_of_lt (by omega) (by omega)]
theorem bring_pos {i n : Int} (h : ¬ n ≤ 0) (k : ¬ Int.tmod i n < 0) : Int.tmod i n = bringF i n := by
  have hb := tmod_bd (i := i) (n := n) (by omega)
  have he : (Int.tmod i n) % n = i % n := by
    rw [tmod_emod]
  rw [bringF, if_neg h, ← he, Int.emod_eq_of_lt (by omega) (by omega)]
theorem div_bd {a b : Int} (h0 : 0 ≤ a) (h1 : 1 ≤ b) : 0 ≤ a / b ∧ a / b ≤ a := ⟨Int.ediv_nonneg h0 (by omega), Int.ediv_le_self _ h0⟩
theorem gi_set_ne {xs : List Int} {i : Nat} {v k : Int} (h : i ≠ k.toNat) : gi (xs.set i v) k = gi xs k := by
  unfold gi
  rw [List.getD_eq_getElem?_getD, List.getD_eq_getElem?_getD, List.getElem?_set_ne h]
theorem gi_set_eq {xs : List Int} {i : Nat} {v k : Int} (h : i = k.toNat) (hl : i < xs.length) : gi (xs.set i v) k = v := by
  subst h
  unfold gi
  rw [List.getD_eq_getElem?_getD, List.getElem?_set_self hl]; rfl
theorem set_out {xs : List Int} {i : Nat} {v : Int} (h : ¬ i < xs.length) : xs.set i v = xs := List.set_eq_of_length_le (by omega)
theorem place_mod {W r c : Int} (h0 : 0 ≤ c) (h1 : c < W) : (r * W + c) % W = c ∧ (r * W + c) / W = r := by
  constructor
  · rw [Int.add_comm, Int.add_mul_emod_self_right, Int.emod_eq_of_lt h0 h1]
  · rw [Int.add_comm, Int.add_mul_ediv_right _ _ (by omega), Int.ediv_eq_zero_of_lt h0 h1, Int.zero_add]
theorem gi_rep {n : Nat} {v i : Int} (h0 : 0 ≤ i) (h1 : i < n) : gi (List.replicate n v) i = v := by
  unfold gi
  rw [List.getD_eq_getElem?_getD, List.getElem?_replicate, if_pos (by omega)]; rfl
/-- the plane turned over: k samples are laid -/
def turnTo (W H : Int) (pix : List Int) (N : Nat) : Nat → List Int
  | 0 => List.replicate N 0
  | k + 1 => (turnTo W H pix N k).set ((k : Int) % W * H + (k : Int) / W).toNat (gi pix k)
theorem turnTo_length (W H : Int) (pix : List Int) (N : Nat) : ∀ k, (turnTo W H pix N k).length = N
  | 0 => by simp [turnTo]
  | k + 1 => by unfold turnTo; rw [List.length_set, turnTo_length W H pix N k]
theorem turnTo_bytes {pix : List Int} (h : Bytes pix) (W H : Int) (N : Nat) : ∀ k, Bytes (turnTo W H pix N k)
  | 0 => Bytes.rep (by decide)
  | k + 1 => by unfold turnTo; exact (turnTo_bytes h W H N k).set (gi_bytes h _)
theorem turn_at {W H : Int} {pix : List Int} {N : Nat} (hW : 0 < W) (hH : 0 < H) (hN : (N : Int) = W * H) {p : Nat} : ∀ m : Nat, m ≤ N → p < m → gi (turnTo W H pix N m) ((p : Int) % W * H + (p : Int) / W) = gi pix p
  | 0, _, h => by omega
  | m + 1, hm, h => by
    have place : ∀ q : Nat, q < N → (0 ≤ (q : Int) % W ∧ (q : Int) % W < W) ∧ (0 ≤ (q : Int) / W ∧ (q : Int) / W < H) := fun q hq =>
      ⟨⟨Int.emod_nonneg _ (by omega), Int.emod_lt_of_pos _ hW⟩, Int.ediv_nonneg (by omega) (by omega), Int.ediv_lt_of_lt_mul hW (by rw [Int.mul_comm]; omega)⟩
    have hp := place p (by omega)
    have hq := place m (by omega)
    have ip := place_in (W := H) (H := W) (r := (p : Int) % W) (c := (p : Int) / W) hp.1.1 hp.1.2 hp.2.1 hp.2.2
    have iq := place_in (W := H) (H := W) (r := (m : Int) % W) (c := (m : Int) / W) hq.1.1 hq.1.2 hq.2.1 hq.2.2
    unfold turnTo
    by_cases e : ((m : Int) % W * H + (m : Int) / W).toNat = ((p : Int) % W * H + (p : Int) / W).toNat
    · have e2 : (m : Int) % W * H + (m : Int) / W = (p : Int) % W * H + (p : Int) / W := by omega
      have mp := place_mod (W := H) (r := (p : Int) % W) (c := (p : Int) / W) hp.2.1 hp.2.2
      have mq := place_mod (W := H) (r := (m : Int) % W) (c := (m : Int) / W) hq.2.1 hq.2.2
      rw [e2] at mq
      have h1 := Int.mul_ediv_add_emod (m : Int) W
      have h2 := Int.mul_ediv_add_emod (p : Int) W
      have hd : (m : Int) / W = (p : Int) / W := mq.1.symm.trans mp.1
      have hm2 : (m : Int) % W = (p : Int) % W := mq.2.symm.trans mp.2
      rw [hd, hm2] at h1
      have : m = p := by omega
      subst this
      rw [gi_set_eq e (by rw [turnTo_length]; rw [Int.mul_comm H W, ← hN] at iq; omega)]
    · rw [gi_set_ne e]
      have : p ≠ m := fun h3 => e (by rw [h3])
      exact turn_at hW hH hN m (by omega) (by omega)
theorem HS.all {w0 w : World} {H : List Ent} (h : HS w0 H w) (i : Nat) {b : Nat} {cs : List Value} {t : TypeId} (hi : H[i]? = some (.blk b cs t)) : ∀ j v, cs[j]? = some v → w.cell? ((⟨b, 0, none⟩ : Addr).add j) = some v := fun j v hj => by
  rw [add_blk, Nat.zero_add]
  exact h.cell i hi j hj
theorem tmod2 (a : Int) : Int.tmod a 2 = 0 ↔ a % 2 = 0 := by
  have h1 := tmod_emod a 2
  have h2 := tmod_bd (i := a) (n := 2) (by decide)
  omega
/-- A frame's side. -/
def sideP (n : Int) : Prop := n % 2 = 0 ∧ 16 ≤ n ∧ n ≤ 256
instance (n : Int) : Decidable (sideP n) := by unfold sideP; infer_instance
/-- A frame that may be. -/
def wholeP (W0 H0 : Int) (m0 : Nat) (W1 H1 : Int) (m1 : Nat) (W2 H2 : Int) (m2 : Nat) : Prop :=
  (checkF W0 H0 m0 = 0 ∧ sideP W0 ∧ sideP H0) ∧ (checkF W1 H1 m1 = 0 ∧ W1 = W0 / 2 ∧ H1 = H0 / 2) ∧ checkF W2 H2 m2 = 0 ∧ W2 = W0 / 2 ∧ H2 = H0 / 2
instance (W0 H0 : Int) (m0 : Nat) (W1 H1 : Int) (m1 : Nat) (W2 H2 : Int) (m2 : Nat) : Decidable (wholeP W0 H0 m0 W1 H1 m1 W2 H2 m2) := by unfold wholeP; infer_instance
def wholeF (W0 H0 : Int) (m0 : Nat) (W1 H1 : Int) (m1 : Nat) (W2 H2 : Int) (m2 : Nat) : Int := if wholeP W0 H0 m0 W1 H1 m1 W2 H2 m2 then 0 else 2
theorem check_ok {W H : Int} {n : Nat} (h : checkF W H n = 0) : 1 ≤ W ∧ W ≤ 512 ∧ 1 ≤ H ∧ H ≤ 512 ∧ (n : Int) = W * H := by
  rcases checkF_iff W H n with k | k
  · exact k.2
  · omega
theorem gi_list_eq {xs ys : List Int} (hl : xs.length = ys.length) (h : ∀ p : Nat, p < xs.length → gi xs p = gi ys p) : xs = ys := eq_to h (Nat.le_refl _) hl
/-- A sample of a plane, of what is nearest. -/
def nearF (xs : List Int) (W H r c : Int) : Int := gi xs (min (max r 0) (H - 1) * W + min (max c 0) (W - 1))
def atF (xs : List Int) (W H : Int) (n : Nat) (x y : Int) : Int := if checkF W H n = 0 then nearF xs W H y x else 0
theorem atF_byte {xs : List Int} (hx : Bytes xs) (W H : Int) (n : Nat) (x y : Int) : 0 ≤ atF xs W H n x y ∧ atF xs W H n x y ≤ 255 := by
  unfold atF nearF
  split
  · exact gi_bytes hx _
  · decide
/-- So many are laid, of a sample that is repeated. -/
def repIn (x : Int) (n k : Nat) : List Int := List.replicate k x ++ List.replicate (n - k) 0
theorem repIn_bytes {x : Int} (hb : 0 ≤ x ∧ x ≤ 255) (n k : Nat) : Bytes (repIn x n k) := (Bytes.rep hb).append (Bytes.rep (by decide))
theorem repIn_length {x : Int} {n k : Nat} (hk : k ≤ n) : (repIn x n k).length = n := by
  rw [repIn, List.length_append, List.length_replicate, List.length_replicate]; omega
theorem repIn_first {x : Int} {n : Nat} : putL (List.replicate n 0) 0 (List.take (min 1 n) [x]) = repIn x n (min 1 n) := by
  rcases n with _ | n
  · rfl
  · simp [putL, repIn, List.drop_replicate]
theorem repIn_next {x : Int} {n k : Nat} (hk : k ≤ n) : putL (repIn x n k) k (List.take (min k (n - k)) (List.take k (repIn x n k))) = repIn x n (k + min k (n - k)) := by
  unfold repIn putL
  rw [List.take_append_of_le_length (by simp)]
  simp only [List.take_replicate, List.length_replicate, Nat.min_self, List.drop_append, List.drop_replicate, List.replicate_append_replicate]
  have e1 : k - (k + min (min k (n - k)) k) = 0 := by omega
  have e2 : min (min k (n - k)) k = min k (n - k) := by omega
  rw [e1, e2, List.replicate_zero, List.nil_append]
  congr 2
  omega
theorem repIn_done {x : Int} {n : Nat} : repIn x n n = List.replicate n x := by simp [repIn]
end Go.Proofs.Zed
