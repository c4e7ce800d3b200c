/- Small words for walks that a program prints: splitting on a test, typed rows. No program in sight. -/
import Derived.Test.YtobfcnfkcmhmaaaZd
set_option linter.unusedVariables false
set_option linter.unusedSimpArgs false
namespace Go.Proofs.Zed
open Go Go.RowKit

theorem now {w : World} {p : World → Prop} (h : p w) : ∀ x, x = w → p x := fun _ e => e ▸ h

/-! ### Typed rows -/
def u8s (xs : List Int) : List Value := xs.map (Value.int .u8)
def i64s (xs : List Int) : List Value := xs.map (Value.int .i64)
def bools (xs : List Bool) : List Value := xs.map Value.bool
def gi (xs : List Int) (i : Int) : Int := xs.getD i.toNat 0
def gb (xs : List Bool) (i : Int) : Bool := xs.getD i.toNat false
/-- All are bytes. -/
def Bytes (xs : List Int) : Prop := ∀ x ∈ xs, 0 ≤ x ∧ x ≤ 255
theorem gi_bytes {xs : List Int} (h : Bytes xs) (i : Int) : 0 ≤ gi xs i ∧ gi xs i ≤ 255 := by
  unfold gi
  rw [List.getD_eq_getElem?_getD]
  cases hx : xs[i.toNat]? with
  | none => simp
  | some x => exact h x (List.mem_of_getElem? hx)
theorem u8s_at {xs : List Int} {i : Int} (h0 : 0 ≤ i) (h1 : i < xs.length) : (u8s xs)[i.toNat]? = some (.int .u8 (gi xs i)) := by
  have hl : i.toNat < xs.length := by omega
  simp [u8s, gi, List.getElem?_eq_getElem hl, List.getD_eq_getElem?_getD]
theorem i64s_at {xs : List Int} {i : Int} (h0 : 0 ≤ i) (h1 : i < xs.length) : (i64s xs)[i.toNat]? = some (.int .i64 (gi xs i)) := by
  have hl : i.toNat < xs.length := by omega
  simp [i64s, gi, List.getElem?_eq_getElem hl, List.getD_eq_getElem?_getD]
theorem bools_at {xs : List Bool} {i : Int} (h0 : 0 ≤ i) (h1 : i < xs.length) : (bools xs)[i.toNat]? = some (.bool (gb xs i)) := by
  have hl : i.toNat < xs.length := by omega
  simp [bools, gb, List.getElem?_eq_getElem hl, List.getD_eq_getElem?_getD]
theorem u8s_length (xs : List Int) : (u8s xs).length = xs.length := by simp [u8s]
theorem i64s_length (xs : List Int) : (i64s xs).length = xs.length := by simp [i64s]
theorem bools_length (xs : List Bool) : (bools xs).length = xs.length := by simp [bools]
theorem u8s_put {xs : List Int} {i : Nat} {v : Int} (h : i < xs.length) : put (u8s xs) i [.int .u8 v] = u8s (xs.set i v) := by
  rw [put_one (by rw [u8s_length]; exact h)]; simp [u8s, List.map_set]
theorem i64s_put {xs : List Int} {i : Nat} {v : Int} (h : i < xs.length) : put (i64s xs) i [.int .i64 v] = i64s (xs.set i v) := by
  rw [put_one (by rw [i64s_length]; exact h)]; simp [i64s, List.map_set]
theorem bools_put {xs : List Bool} {i : Nat} {v : Bool} (h : i < xs.length) : put (bools xs) i [.bool v] = bools (xs.set i v) := by
  rw [put_one (by rw [bools_length]; exact h)]; simp [bools, List.map_set]
theorem u8s_append (xs ys : List Int) : u8s xs ++ u8s ys = u8s (xs ++ ys) := by simp [u8s]
theorem i64s_append (xs ys : List Int) : i64s xs ++ i64s ys = i64s (xs ++ ys) := by simp [i64s]
theorem bools_append (xs ys : List Bool) : bools xs ++ bools ys = bools (xs ++ ys) := by simp [bools]
theorem u8s_rep (n : Nat) (v : Int) : List.replicate n (Value.int .u8 v) = u8s (List.replicate n v) := by simp [u8s]
theorem i64s_rep (n : Nat) (v : Int) : List.replicate n (Value.int .i64 v) = i64s (List.replicate n v) := by simp [i64s]
theorem bools_rep (n : Nat) (v : Bool) : List.replicate n (Value.bool v) = bools (List.replicate n v) := by simp [bools]
theorem u8s_one (xs : List Int) : (u8s xs).all (·.oneCell') = true := by simp [u8s, Value.oneCell']
theorem i64s_one (xs : List Int) : (i64s xs).all (·.oneCell') = true := by simp [i64s, Value.oneCell']
theorem bools_one (xs : List Bool) : (bools xs).all (·.oneCell') = true := by simp [bools, Value.oneCell']
theorem Bytes.set {xs : List Int} (h : Bytes xs) {i : Nat} {v : Int} (hv : 0 ≤ v ∧ v ≤ 255) : Bytes (xs.set i v) := fun x hx => by
  rcases List.mem_or_eq_of_mem_set hx with h1 | h1
  · exact h x h1
  · rw [h1]; exact hv
theorem Bytes.append {xs ys : List Int} (h : Bytes xs) (k : Bytes ys) : Bytes (xs ++ ys) := fun x hx => (List.mem_append.1 hx).elim (h x) (k x)
theorem Bytes.rep {n : Nat} {v : Int} (hv : 0 ≤ v ∧ v ≤ 255) : Bytes (List.replicate n v) := fun x hx => by rw [(List.mem_replicate.1 hx).2]; exact hv
theorem Bytes.nil : Bytes [] := fun x hx => by simp at hx

section
variable {w : World} {A : Option Addr} {m : Nat} {i : Int}
theorem Rd.isSome {sz : Nat} {cs : List Value} (h : Rd w A m sz cs) (h0 : 0 ≤ i) (h1 : i < m) : A.isSome = true := h.some_ (by omega)
theorem Rd.u8 {xs : List Int} (h : Rd w A m 1 (u8s xs)) (h0 : 0 ≤ i) (h1 : i < m) : w.cell? ((A.getD default).add (i.toNat * 1)) = some (.int .u8 (gi xs i)) := by
  have hl := h.len
  rw [u8s_length] at hl
  rw [Nat.mul_one]
  exact h.cell _ _ (u8s_at h0 (by omega))
theorem Rd.i64 {xs : List Int} (h : Rd w A m 1 (i64s xs)) (h0 : 0 ≤ i) (h1 : i < m) : w.cell? ((A.getD default).add (i.toNat * 1)) = some (.int .i64 (gi xs i)) := by
  have hl := h.len
  rw [i64s_length] at hl
  rw [Nat.mul_one]
  exact h.cell _ _ (i64s_at h0 (by omega))
theorem Rd.bool {xs : List Bool} (h : Rd w A m 1 (bools xs)) (h0 : 0 ≤ i) (h1 : i < m) : w.cell? ((A.getD default).add (i.toNat * 1)) = some (.bool (gb xs i)) := by
  have hl := h.len
  rw [bools_length] at hl
  rw [Nat.mul_one]
  exact h.cell _ _ (bools_at h0 (by omega))
end
theorem gi_mem {xs : List Int} {i : Int} (h0 : 0 ≤ i) (h1 : i < xs.length) : gi xs i ∈ xs := by
  have h : i.toNat < xs.length := by omega
  unfold gi
  rw [List.getD_eq_getElem?_getD, List.getElem?_eq_getElem h]
  exact List.getElem_mem h
theorem not_mem_to {xs : List Int} {y : Int} {k : Nat} (h : ∀ j : Nat, j < k → gi xs j ≠ y) (hk : xs.length ≤ k) : ¬ y ∈ xs := fun hm => by
  obtain ⟨j, hj, e⟩ := List.getElem_of_mem hm
  refine h j (by omega) ?_
  unfold gi
  rw [List.getD_eq_getElem?_getD, Int.toNat_natCast, List.getElem?_eq_getElem hj]
  exact e
theorem any_yes {xs : List Int} {p : Int → Bool} {i : Int} (h0 : 0 ≤ i) (h1 : i < xs.length) (h : p (gi xs i) = true) : xs.any p = true := List.any_eq_true.2 ⟨_, gi_mem h0 h1, h⟩
theorem any_no {xs : List Int} {p : Int → Bool} {k : Nat} (h : ∀ j : Nat, j < k → p (gi xs j) = false) (hk : xs.length ≤ k) : xs.any p = false := List.any_eq_false.2 fun x hm => by
  obtain ⟨j, hj, e⟩ := List.getElem_of_mem hm
  have h2 := h j (by omega)
  unfold gi at h2
  rw [List.getD_eq_getElem?_getD, Int.toNat_natCast, List.getElem?_eq_getElem hj] at h2
  rw [← e]
  intro h3
  exact absurd h2 (by rw [show (some xs[j]).getD 0 = xs[j] from rfl, h3]; decide)
theorem bool_iff {p : Prop} [Decidable p] {b : Bool} (h : p ↔ b = true) : decide p = b := by
  cases b with
  | true => exact decide_eq_true (h.2 rfl)
  | false => exact decide_eq_false (fun hp => by have := h.1 hp; cases this)
theorem mul_bd {a b x y : Int} (h1 : 0 ≤ a) (h2 : a ≤ x) (h3 : 0 ≤ b) (h4 : b ≤ y) : 0 ≤ a * b ∧ a * b ≤ x * y :=
  ⟨Int.mul_nonneg h1 h3, Int.le_trans (Int.mul_le_mul_of_nonneg_right h2 h3) (Int.mul_le_mul_of_nonneg_left h4 (Int.le_trans h1 h2))⟩
theorem eq_to {xs ys : List Int} {k : Nat} (h : ∀ j : Nat, j < k → gi xs j = gi ys j) (h1 : xs.length ≤ k) (h2 : xs.length = ys.length) : xs = ys :=
  List.ext_getElem h2 fun j hj hk => by
    have := h j (by omega)
    unfold gi at this
    rw [List.getD_eq_getElem?_getD, List.getD_eq_getElem?_getD, Int.toNat_natCast, List.getElem?_eq_getElem hj, List.getElem?_eq_getElem hk] at this
    exact this
theorem tup2 {a : Value} {x y : Int} (h : x = y) : Value.tuple #[a, .int .i64 x] = Value.tuple #[a, .int .i64 y] := h ▸ rfl
theorem pass_tup {s : Value} {x y a b c d : Int} (h1 : x = a) (h2 : y = b) (h3 : c = d) : Value.tuple #[.agg #[.int .i64 x, .int .i64 y, s], .int .i64 c] = Value.tuple #[.agg #[.int .i64 a, .int .i64 b, s], .int .i64 d] := by rw [h1, h2, h3]
/-- s[l:h]: where it begins. -/
def slA (A : Option Addr) (l c s : Nat) : Option Addr := if c = l then A else A.map (·.add (l * s))
theorem Rd.sub {w : World} {A : Option Addr} {m sz c : Nat} {cs : List Value} (hr : Rd w A m sz cs) (l h : Nat) (h1 : l ≤ h) (h2 : h ≤ m) (hc : m ≤ c) : Rd w (slA A l c sz) (h - l) sz ((cs.drop (l * sz)).take ((h - l) * sz)) := by
  have hlen := hr.len
  have hb := hr.big
  have hm : l * sz + (h - l) * sz ≤ m * sz := by
    rw [← Nat.add_mul]; exact Nat.mul_le_mul_right _ (by omega)
  refine ⟨by rw [List.length_take, List.length_drop, hlen]; omega, by omega, fun h0 => ?_, fun j v hj => ?_⟩
  · have := hr.some_ (by omega)
    unfold slA
    split
    · exact this
    · rw [Option.isSome_map]; exact this
  · have hj2 := (List.getElem?_eq_some_iff.1 hj).1
    rw [List.length_take, List.length_drop, hlen] at hj2
    rw [List.getElem?_take, if_pos (by omega), List.getElem?_drop] at hj
    have hcell := hr.cell _ v hj
    have hlh : l < h := by
      rcases Nat.lt_or_ge l h with h5 | h5
      · exact h5
      · rw [show h - l = 0 from by omega, Nat.zero_mul] at hj2; omega
    unfold slA
    rw [if_neg (by omega)]
    cases A with
    | none => have := hr.some_ (by omega); cases this
    | some ad =>
      show w.cell? ((ad.add (l * sz)).add j) = some v
      rw [add_add]
      exact hcell
theorem Rd.at_ {w : World} {b k sz j : Nat} {cs : List Value} {v : Value} (h : Rd w (some ⟨b, 0, none⟩) k sz cs) (hj : cs[j]? = some v) : w.cell? ⟨b, j, none⟩ = some v := by
  have h2 := h.cell j v hj
  rw [show ((some (⟨b, 0, none⟩ : Addr)).getD default) = ⟨b, 0, none⟩ from rfl, add_blk, Nat.zero_add] at h2
  exact h2
theorem HS.rdBlk {w0 w : World} {H : List Ent} (h : HS w0 H w) (i : Nat) {b : Nat} {cs : List Value} {t : TypeId} (hi : H[i]? = some (.blk b cs t)) (hl : cs.length ≤ 9223372036854775807) : Rd w (some ⟨b, 0, none⟩) cs.length 1 cs :=
  ⟨by simp, hl, fun _ => rfl, fun j v hj => by
    have h2 := h.cell i hi j hj
    rw [show ((some (⟨b, 0, none⟩ : Addr)).getD default) = ⟨b, 0, none⟩ from rfl, add_blk, Nat.zero_add]
    exact h2⟩
theorem HS.to {w0 w : World} {H H' : List Ent} (h : HS w0 H w) (e : H = H') : HS w0 H' w := e ▸ h

section
variable {P : Program} {n : Nat} {Q : Post} {e : Env} {w w0 : World} {ops : Array Oper} {d : Nat} {l : List Oper} {T : List Nat} {S : World → Prop} {fuel : Nat} {listed : Array Bool}
theorem lookI {t : Nat} {k : IntKind} {x y : Int} (h : look e t = some (.int k x)) (hxy : x = y) : look e t = some (.int k y) := hxy ▸ h
theorem lookB {t : Nat} {b c : Bool} (h : look e t = some (.bool b)) (hbc : b = c) : look e t = some (.bool c) := hbc ▸ h
theorem lookV {t : Nat} {u v : Value} (h : look e t = some u) (huv : u = v) : look e t = some v := huv ▸ h

theorem Ops.dec {p : Prop} [Decidable p] (ht : p → Ops P n ops Q l ((d, .bool true) :: e) w) (hf : ¬ p → Ops P n ops Q l ((d, .bool false) :: e) w) : Ops P n ops Q l ((d, .bool (decide p)) :: e) w := by
  by_cases h : p
  · rw [decide_eq_true h]; exact ht h
  · rw [decide_eq_false h]; exact hf h
theorem Ops.dec1 {p : Prop} [Decidable p] (hp : p) (ht : Ops P n ops Q l ((d, .bool true) :: e) w) : Ops P n ops Q l ((d, .bool (decide p)) :: e) w := by rw [decide_eq_true hp]; exact ht
theorem Ops.dec0 {p : Prop} [Decidable p] (hp : ¬ p) (ht : Ops P n ops Q l ((d, .bool false) :: e) w) : Ops P n ops Q l ((d, .bool (decide p)) :: e) w := by rw [decide_eq_false hp]; exact ht
theorem Ops.boo {b : Bool} (ht : b = true → Ops P n ops Q l ((d, .bool true) :: e) w) (hf : b = false → Ops P n ops Q l ((d, .bool false) :: e) w) : Ops P n ops Q l ((d, .bool b) :: e) w := by
  cases b
  · exact hf rfl
  · exact ht rfl
theorem Drw.dec {p : Prop} [Decidable p] (ht : p → Drw P n ops Q T S fuel listed ((d, .bool true) :: e) w) (hf : ¬ p → Drw P n ops Q T S fuel listed ((d, .bool false) :: e) w) : Drw P n ops Q T S fuel listed ((d, .bool (decide p)) :: e) w := by
  by_cases h : p
  · rw [decide_eq_true h]; exact ht h
  · rw [decide_eq_false h]; exact hf h
theorem Drw.dec1 {p : Prop} [Decidable p] (hp : p) (ht : Drw P n ops Q T S fuel listed ((d, .bool true) :: e) w) : Drw P n ops Q T S fuel listed ((d, .bool (decide p)) :: e) w := by rw [decide_eq_true hp]; exact ht
theorem Drw.dec0 {p : Prop} [Decidable p] (hp : ¬ p) (ht : Drw P n ops Q T S fuel listed ((d, .bool false) :: e) w) : Drw P n ops Q T S fuel listed ((d, .bool (decide p)) :: e) w := by rw [decide_eq_false hp]; exact ht
theorem Drw.boo {b : Bool} (ht : b = true → Drw P n ops Q T S fuel listed ((d, .bool true) :: e) w) (hf : b = false → Drw P n ops Q T S fuel listed ((d, .bool false) :: e) w) : Drw P n ops Q T S fuel listed ((d, .bool b) :: e) w := by
  cases b
  · exact hf rfl
  · exact ht rfl
theorem Le.trans {a b c : Env} (h : Le a b) (k : Le b c) : Le a c := fun s v hl => k s v (h s v hl)
theorem Run.le {c : Code} {e' : Env} (h : Le e' e) (k : Run P n c Q e' w) : Run P n c Q e w := fun a ha => k a (ha.le h)
theorem HS.keepS {a : World} {B : Nat} {H' : List Ent} {w' : World} (hS : Below B a w) (hB : B ≤ a.heap.size) (h : HS w H' w') : Below B a w' := hS.trans (h.below.mono (Nat.le_trans hB hS.size))
/-- Ways that meet again: what holds where they meet. -/
theorem Run.cut {c : Code} {K : Env → World → Prop} (F : Env → World → Prop) (h : Run P n c (seqQ F Q) e w) (k : ∀ e w, F e w → K e w) : Run P n c (seqQ K Q) e w :=
  h.mono fun x e w hq => by
    cases x with
    | normal => exact k e w hq
    | _ => exact hq
end
end Go.Proofs.Zed
