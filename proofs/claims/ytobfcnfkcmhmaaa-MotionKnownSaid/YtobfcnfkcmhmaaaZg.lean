/- More operations of the small logic: parts of slices, make with room, copy, bits, arrays that are values, numbers of other kinds. No program in sight. -/
import Derived.Test.YtobfcnfkcmhmaaaZe
set_option linter.unusedVariables false
set_option linter.unusedSimpArgs false
namespace Go.Proofs.Zed
open Go Go.RowKit

/-! ### Numbers of other kinds -/
theorem wrap_u64 {x : Int} (h0 : 0 ≤ x) (h1 : x ≤ 18446744073709551615) : IntKind.u64.wrap x = x := IntWalk.u64_in x ⟨h0, h1⟩
theorem wrap_u8 {x : Int} (h0 : 0 ≤ x) (h1 : x ≤ 255) : IntKind.u8.wrap x = x := IntWalk.u8_in x ⟨h0, h1⟩
theorem wrap_u16 {x : Int} (h0 : 0 ≤ x) (h1 : x ≤ 65535) : IntKind.u16.wrap x = x := IntWalk.u16_in x ⟨h0, h1⟩
theorem wrap_u8' (x : Int) : IntKind.u8.wrap x = x % 256 := IntKind.wrap_u8 x
theorem toV {k : IntKind} {x y : Int} (h : x = y) : Value.int k x = .int k y := h ▸ rfl
theorem toB {x y : Bool} (h : x = y) : Value.bool x = .bool y := h ▸ rfl

section
variable {P : Program} {n : Nat} {e : Env} {S : World → Prop} {dst : Option Tmp} {X Y Z : Operand} {t t2 ty : TypeId} {pos : String} {af : Array Edge} {g : Option (Nat × Bool)} {v u : Value} {x y : Int} {k : IntKind} {w : World}

theorem Yv.shrk {k' : IntKind} (hx : val e X = some (.int k x)) (hy : val e Y = some (.int k' y)) (m : Nat) (hm : y = m) (hk : m ≤ k.bits) : Yv P n e S ⟨dst, .binOp .shr t X Y t2, ty, pos, af, g⟩ (.int k (x / 2 ^ m)) := fun a ha w _ => by
  subst hm
  have h2 : ¬ ((m : Int) < 0) := by omega
  have h3 : Min.min m k.bits = m := by omega
  have h4 : x.fdiv (2 ^ m) = x / 2 ^ m := Int.fdiv_eq_ediv_of_nonneg _ (Int.le_of_lt (Int.pow_pos (by decide)))
  simp [execOp, ha.eval hx, ha.eval hy, eqGuard, binOp, Op.shift, h2, h3, h4]
theorem Yv.bits {op : BinOp} (hop : op = .and ∨ op = .or ∨ op = .xor) (hx : val e X = some (.int k x)) (hy : val e Y = some (.int k y)) :
    Yv P n e S ⟨dst, .binOp op t X Y t2, ty, pos, af, g⟩ (.int k (k.wrap ((match op with | .and => BitVec.ofInt k.bits x &&& BitVec.ofInt k.bits y | .or => BitVec.ofInt k.bits x ||| BitVec.ofInt k.bits y | _ => BitVec.ofInt k.bits x ^^^ BitVec.ofInt k.bits y).toNat))) := fun a ha w _ => by
  rcases hop with rfl | rfl | rfl <;> simp [execOp, ha.eval hx, ha.eval hy, eqGuard, binOp, Op.intBits]
theorem and_mask (x : Int) (m : Nat) (hm : m < 64) : (BitVec.ofInt 64 x &&& BitVec.ofInt 64 ((2 : Int) ^ m - 1)).toNat = (x % 2 ^ m).toNat := by
  have hp : (2 : Nat) ^ m ≤ 2 ^ 63 := Nat.pow_le_pow_right (by decide) (by omega)
  have hp0 : 0 < (2 : Nat) ^ m := Nat.pow_pos (by decide)
  rw [BitVec.toNat_and, BitVec.toNat_ofInt, BitVec.toNat_ofInt]
  have e2 : (((2 : Int) ^ m - 1) % ((2 ^ 64 : Nat) : Int)).toNat = 2 ^ m - 1 := by
    rw [show ((2 : Int) ^ m) = ((2 ^ m : Nat) : Int) from by rw [Int.natCast_pow]; rfl]
    rw [Int.emod_eq_of_lt (by omega) (by omega)]
    omega
  rw [e2, Nat.and_two_pow_sub_one_eq_mod]
  have hd : ((2 ^ m : Nat) : Int) ∣ ((2 ^ 64 : Nat) : Int) := by
    rw [Int.natCast_dvd_natCast]
    exact Nat.pow_dvd_pow 2 (by omega)
  have h0 : 0 ≤ x % ((2 ^ 64 : Nat) : Int) := Int.emod_nonneg _ (by decide)
  have h5 : ((x % ((2 ^ 64 : Nat) : Int)).toNat : Int) % ((2 ^ m : Nat) : Int) = x % ((2 ^ m : Nat) : Int) := by
    rw [Int.toNat_of_nonneg h0, Int.emod_emod_of_dvd _ hd]
  have h6 : (((x % ((2 ^ 64 : Nat) : Int)).toNat % 2 ^ m : Nat) : Int) = x % ((2 ^ m : Nat) : Int) := by rw [Int.natCast_emod]; exact h5
  have h7 : (2 : Int) ^ m = ((2 ^ m : Nat) : Int) := by rw [Int.natCast_pow]; rfl
  rw [h7, ← h6, Int.toNat_natCast]
theorem Yv.andm (hx : val e X = some (.int .i64 x)) (hy : val e Y = some (.int .i64 y)) (m : Nat) (hm : m < 63) (hym : y = 2 ^ m - 1) : Yv P n e S ⟨dst, .binOp .and t X Y t2, ty, pos, af, g⟩ (.int .i64 (x % 2 ^ m)) := by
  subst hym
  refine (Yv.bits (.inl rfl) hx hy).to (toV ?_)
  show IntKind.i64.wrap (((BitVec.ofInt 64 x &&& BitVec.ofInt 64 (2 ^ m - 1)).toNat : Nat) : Int) = _
  rw [and_mask x m (by omega)]
  have hp0 : 0 < (2 : Int) ^ m := Int.pow_pos (by decide)
  have h0 := Int.emod_nonneg x (Int.ne_of_gt hp0)
  have h1 := Int.emod_lt_of_pos x hp0
  rw [Int.toNat_of_nonneg h0]
  refine wrap_i64 ⟨by omega, ?_⟩
  have hp : (2 : Nat) ^ m ≤ 2 ^ 62 := Nat.pow_le_pow_right (by decide) (by omega)
  have hp2 : (2 : Int) ^ m ≤ 2 ^ 62 := by
    rw [show ((2 : Int) ^ m) = ((2 ^ m : Nat) : Int) from by rw [Int.natCast_pow]; rfl]
    exact_mod_cast hp
  omega
theorem Yv.andu (hx : val e X = some (.int .u64 x)) (hy : val e Y = some (.int .u64 y)) (m : Nat) (hm : m < 63) (hym : y = 2 ^ m - 1) : Yv P n e S ⟨dst, .binOp .and t X Y t2, ty, pos, af, g⟩ (.int .u64 (x % 2 ^ m)) := by
  subst hym
  refine (Yv.bits (.inl rfl) hx hy).to (toV ?_)
  show IntKind.u64.wrap (((BitVec.ofInt 64 x &&& BitVec.ofInt 64 (2 ^ m - 1)).toNat : Nat) : Int) = _
  rw [and_mask x m (by omega)]
  have hp0 : 0 < (2 : Int) ^ m := Int.pow_pos (by decide)
  have h0 := Int.emod_nonneg x (Int.ne_of_gt hp0)
  have h1 := Int.emod_lt_of_pos x hp0
  rw [Int.toNat_of_nonneg h0]
  have hp : (2 : Nat) ^ m ≤ 2 ^ 62 := Nat.pow_le_pow_right (by decide) (by omega)
  have hp2 : (2 : Int) ^ m ≤ 2 ^ 62 := by
    rw [show ((2 : Int) ^ m) = ((2 ^ m : Nat) : Int) from by rw [Int.natCast_pow]; rfl]
    exact_mod_cast hp
  exact wrap_u64 h0 (by omega)
/-- x ^ y of bytes. -/
def xorF (x y : Int) : Int := ((x.toNat ^^^ y.toNat : Nat) : Int)
theorem xorF_bd {x y : Int} (hx : 0 ≤ x ∧ x ≤ 255) (hy : 0 ≤ y ∧ y ≤ 255) : 0 ≤ xorF x y ∧ xorF x y ≤ 255 := by
  have := Nat.xor_lt_two_pow (x := x.toNat) (y := y.toNat) (n := 8) (by omega) (by omega)
  unfold xorF
  omega
theorem Yv.xor8 (hx : val e X = some (.int .u8 x)) (hy : val e Y = some (.int .u8 y)) (hbx : 0 ≤ x ∧ x ≤ 255) (hby : 0 ≤ y ∧ y ≤ 255) : Yv P n e S ⟨dst, .binOp .xor t X Y t2, ty, pos, af, g⟩ (.int .u8 (xorF x y)) := by
  refine (Yv.bits (.inr (.inr rfl)) hx hy).to (toV ?_)
  show IntKind.u8.wrap (((BitVec.ofInt 8 x ^^^ BitVec.ofInt 8 y).toNat : Nat) : Int) = _
  rw [BitVec.toNat_xor, BitVec.toNat_ofInt, BitVec.toNat_ofInt, Int.emod_eq_of_lt hbx.1 (by omega), Int.emod_eq_of_lt hby.1 (by omega)]
  have := xorF_bd hbx hby
  exact wrap_u8 this.1 this.2
/-- A conversion into a kind that holds the number. -/
theorem Yv.convK {d : TypeId} {k' : IntKind} (hd : P.underlying d = some (.int k')) (hs : (P.underlying t).isSome = true) (hx : val e X = some (.int k x)) (hw : k'.wrap x = x) : Yv P n e S ⟨dst, .convert t d X, ty, pos, af, g⟩ (.int k' x) :=
  (Yv.conv hd hs hx).to (toV hw)

/-! ### An element of an array that is a value, of several cells -/
theorem Yv.elems {el m sz : Nat} {cs : Array Value} (h : arrInfo P t = some (m, el, sz)) (hel : Agg P el true) (hx : val e X = some (.agg cs)) (hy : val e Y = some (.int k x)) (h0 : 0 ≤ x) (h1 : x < m) {l : List Value} (hv : (cs.toList.drop (x.toNat * sz)).take sz = l) :
    Yv P n e S ⟨dst, .index t X Y, ty, pos, af, g⟩ (.agg l.toArray) := fun a ha w _ => by
  subst hv
  unfold arrInfo at h
  split at h
  · rename_i m' e' hu
    split at h
    · rename_i i hi
      injection h with h
      injection h with h2 h3
      injection h3 with h3 h4
      subst h2 h3
      have he : cs.extract (x.toNat * sz) (x.toNat * sz + sz) = ((cs.toList.drop (x.toNat * sz)).take sz).toArray := by
        apply Array.ext'
        rw [Array.toList_extract]
        simp [List.extract, Nat.add_sub_cancel_left]
      simp [execOp, ha.eval hx, ha.eval hy, Instr.index, asIntOf, run_underlying hu, h0, h1, sizeOf, typeInfo, hi, h4, part, run_isAgg hel, he]
    · cases h
  · cases h
/-- A field of a struct that is a value. -/
def fieldT (P : Program) (s : TypeId) (f : Nat) : Option (Nat × TypeId) :=
  match P.underlying s with
  | some (.struct fs) => (fs[f]?).map fun fd => (fd.offset, fd.type)
  | _ => none

theorem fieldT_run {s f off ft : Nat} (h : fieldT P s f = some (off, ft)) : ∃ fs fd, P.underlying s = some (.struct fs) ∧ fs[f]? = some fd ∧ fd.offset = off ∧ fd.type = ft := by
  unfold fieldT at h
  split at h
  · rename_i fs hu
    obtain ⟨fd, h1, h2⟩ := Option.map_eq_some_iff.1 h
    injection h2 with h2 h3
    exact ⟨fs, fd, hu, h1, h2, h3⟩
  · cases h
theorem Yv.fieldv {s f off ft : Nat} {cs : Array Value} (h : fieldT P s f = some (off, ft)) (hA : Agg P ft false) (hx : val e X = some (.agg cs)) (hv : cs[off]? = some v) : Yv P n e S ⟨dst, .field s X f, ty, pos, af, g⟩ v := fun a ha w _ => by
  obtain ⟨fs, fd, hu, h1, rfl, rfl⟩ := fieldT_run h
  simp [execOp, ha.eval hx, Instr.field, run_underlying hu, h1, part, run_isAgg hA, asAgg, hv]
theorem Yv.fields {s f off ft sz : Nat} {cs : Array Value} {l : List Value} (h : fieldT P s f = some (off, ft)) (hA : Agg P ft true) (hs : Sz P ft sz) (hx : val e X = some (.agg cs)) (hv : (cs.toList.drop off).take sz = l) : Yv P n e S ⟨dst, .field s X f, ty, pos, af, g⟩ (.agg l.toArray) := fun a ha w _ => by
  obtain ⟨fs, fd, hu, h1, rfl, rfl⟩ := fieldT_run h
  subst hv
  have he : cs.extract fd.offset (fd.offset + sz) = ((cs.toList.drop fd.offset).take sz).toArray := by
    apply Array.ext'
    rw [Array.toList_extract]
    simp [List.extract, Nat.add_sub_cancel_left]
  simp [execOp, ha.eval hx, Instr.field, run_underlying hu, h1, part, run_isAgg hA, asAgg, run_sizeOf' hs, he]

/-- All of an array that is a variable, as a slice. -/
theorem Yv.arrAll {m el sz b o : Nat} (h : arrInfo P t = some (m, el, sz)) (hx : val e X = some (.pointer (some ⟨b, o, none⟩))) : Yv P n e S ⟨dst, .slice t X none none none, ty, pos, af, g⟩ (.slice (some ⟨b, o, none⟩) m m) := fun a ha w _ => by
  unfold arrInfo at h
  split at h
  · rename_i m' e' hu
    split at h
    · rename_i i hi
      injection h with h
      injection h with h2 h3
      injection h3 with h3 h4
      subst h2 h3
      have had : ∀ (k : Nat) (ad : Addr), ad.add (0 * k) = ad := fun k ad => by rw [Nat.zero_mul]; rfl
      have hif : (if m' = 0 then (⟨b, o, none⟩ : Addr) else (⟨b, o, none⟩ : Addr).add (0 * i.size)) = ⟨b, o, none⟩ := by rw [had]; split <;> rfl
      have hsz := (run_sizeOf' (P := P) (t := e') (k := i.size) (w := w) (by unfold Sz; rw [hi]; simp))
      have key : (Instr.sliceBounds false m' m' none none none).run P w = .ok (0, m', m') w := by
        unfold Instr.sliceBounds
        simp
      simp only [execOp, ha.eval hx, Instr.sliceAt, Option.map_none, Sem.run_bind, run_underlying hu, Result.andThen_ok, Instr.sureAddr, Sem.run_pure, key, hsz, hif, Nat.sub_zero]
    · cases h
  · cases h

/-! ### Parts of slices -/
def loOK (e : Env) (lo : Option Operand) (l : Nat) : Prop := match lo with
  | none => l = 0
  | some Y => ∃ k x, val e Y = some (.int k x) ∧ x = (l : Int)
def hiOK (e : Env) (hi : Option Operand) (m h : Nat) : Prop := match hi with
  | none => h = m
  | some Y => ∃ k x, val e Y = some (.int k x) ∧ x = (h : Int)
theorem run_bound {k : IntKind} {l b : Nat} {cd : BoundsCode} (h : l ≤ b) : (Instr.sliceBound (.int k (l : Int)) b cd).run P w = .ok l w := by
  unfold Instr.sliceBound
  have h1 : (0 : Int) ≤ (l : Int) ∧ (l : Int) ≤ (b : Int) := by omega
  simp [asIntOf, h1]
theorem Yv.part {el sz bts m c : Nat} {A : Option Addr} {lo hi : Option Operand} (l h : Nat) (ht : slcInfo P t = some (el, sz, bts)) (hx : val e X = some (.slice A m c)) (hlo : loOK e lo l) (hhi : hiOK e hi m h) (h1 : l ≤ h) (h2 : h ≤ c) :
    Yv P n e S ⟨dst, .slice t X lo hi none, ty, pos, af, g⟩ (.slice (slA A l c sz) (h - l) (c - l)) := fun a ha w _ => by
  unfold slcInfo at ht
  split at ht
  · rename_i e' hu
    split at ht
    · rename_i i hi'
      injection ht with ht
      injection ht with h3 h4
      injection h4 with h4 h5
      subst h3
      have hsz := (run_sizeOf' (P := P) (t := e') (k := sz) (w := w) (by unfold Sz; rw [hi']; simp [h4]))
      have key : (Instr.sliceBounds true m c (lo.map a.eval) (hi.map a.eval) none).run P w = .ok (l, h, c) w := by
        unfold Instr.sliceBounds
        cases hi with
        | none =>
          cases lo with
          | none => simp only [hiOK, loOK] at hhi hlo; subst hhi hlo; simp
          | some Y =>
            simp only [hiOK, loOK] at hhi hlo
            subst hhi
            obtain ⟨k, x, hv, rfl⟩ := hlo
            have := run_bound (P := P) (w := w) (k := k) (cd := .sliceB) h1
            simp [ha.eval hv, this]
        | some Z =>
          obtain ⟨k2, x2, hv2, rfl⟩ := hhi
          have hb2 := run_bound (P := P) (w := w) (k := k2) (cd := .sliceAcap) h2
          cases lo with
          | none => simp only [loOK] at hlo; subst hlo; simp [ha.eval hv2, hb2]
          | some Y =>
            obtain ⟨k, x, hv, rfl⟩ := hlo
            have := run_bound (P := P) (w := w) (k := k) (cd := .sliceB) h1
            simp [ha.eval hv, ha.eval hv2, this, hb2]
      simp [execOp, ha.eval hx, Instr.sliceAt, Instr.slice, run_underlying hu, key, hsz, slA]
    · cases ht
  · cases ht
/-- x[:h] -/
theorem Yv.partTo {el sz bts m c : Nat} {A : Option Addr} {Y : Operand} {k2 : IntKind} {x2 : Int} (h : Nat) (ht : slcInfo P t = some (el, sz, bts)) (hx : val e X = some (.slice A m c)) (hv : val e Y = some (.int k2 x2)) (he : x2 = (h : Int)) (h2 : h ≤ c) :
    Yv P n e S ⟨dst, .slice t X none (some Y) none, ty, pos, af, g⟩ (.slice A h c) := by
  refine (Yv.part (lo := none) (hi := some Y) 0 h ht hx (show (0 : Nat) = 0 from rfl) (show ∃ k x, val e Y = some (.int k x) ∧ x = (h : Int) from ⟨_, _, hv, he⟩) (Nat.zero_le _) h2).to ?_
  rw [Nat.sub_zero, Nat.sub_zero]
  congr 1
  unfold slA
  split
  · rfl
  · cases A with
    | none => rfl
    | some a => show some (a.add (0 * sz)) = some a; rw [Nat.zero_mul]; rfl
/-- x[l:h:c2] -/
theorem Yv.part3 {el sz bts m c c2 : Nat} {A : Option Addr} {lo : Option Operand} {HI MX : Operand} {k2 k3 : IntKind} {x2 x3 : Int} (l h : Nat) (ht : slcInfo P t = some (el, sz, bts)) (hx : val e X = some (.slice A m c)) (hlo : loOK e lo l)
    (hv2 : val e HI = some (.int k2 x2)) (he2 : x2 = (h : Int)) (hv3 : val e MX = some (.int k3 x3)) (he3 : x3 = (c2 : Int)) (h1 : l ≤ h) (h2 : h ≤ c2) (h3 : c2 ≤ c) :
    Yv P n e S ⟨dst, .slice t X lo (some HI) (some MX), ty, pos, af, g⟩ (.slice (slA A l c2 sz) (h - l) (c2 - l)) := fun a ha w _ => by
  subst he2 he3
  unfold slcInfo at ht
  split at ht
  · rename_i e' hu
    split at ht
    · rename_i i hi'
      injection ht with ht
      injection ht with h3' h4
      injection h4 with h4 h5
      subst h3'
      have hsz := (run_sizeOf' (P := P) (t := e') (k := sz) (w := w) (by unfold Sz; rw [hi']; simp [h4]))
      have key : (Instr.sliceBounds true m c (lo.map a.eval) (some (a.eval HI)) (some (a.eval MX))).run P w = .ok (l, h, c2) w := by
        unfold Instr.sliceBounds
        have hb3 := run_bound (P := P) (w := w) (k := k3) (cd := .slice3Acap) h3
        have hb2 := run_bound (P := P) (w := w) (k := k2) (cd := .slice3B) h2
        cases lo with
        | none => simp only [loOK] at hlo; subst hlo; simp [ha.eval hv2, ha.eval hv3, hb2, hb3]
        | some Y =>
          obtain ⟨k, x, hv, rfl⟩ := hlo
          have := run_bound (P := P) (w := w) (k := k) (cd := .slice3C) h1
          simp [ha.eval hv, ha.eval hv2, ha.eval hv3, hb3, hb2, this]
      simp [execOp, ha.eval hx, Instr.sliceAt, Instr.slice, run_underlying hu, key, hsz, slA]
    · cases ht
  · cases ht
/-- Where an element of a part of a slice lies. -/
theorem slA_at {A : Option Addr} {l c s i : Nat} (hA : A.isSome = true) (hc : c ≠ l) : ((slA A l c s).getD default).add i = (A.getD default).add (l * s + i) := by
  unfold slA
  rw [if_neg hc]
  cases A with
  | none => cases hA
  | some a => show (a.add (l * s)).add i = _; rw [add_add]; rfl
theorem Yv.idxs {el bts m c l : Nat} {A : Option Addr} (h : slcInfo P t = some (el, 1, bts)) (hx : val e X = some (.slice (slA A l c 1) m (c - l))) (hy : val e Y = some (.int k x)) (hA : A.isSome = true) (h0 : 0 ≤ x) (h1 : x < m) (hc : l < c) (q : Int) (hq : q = (l : Int) + x) :
    Yv P n e S ⟨dst, .indexAddr t X Y, ty, pos, af, g⟩ (.pointer (some ((A.getD default).add (q.toNat * 1)))) := by
  have hs : (slA A l c 1).isSome = true := by
    unfold slA; split
    · exact hA
    · rw [Option.isSome_map]; exact hA
  refine (Yv.idx h hx hy hs h0 h1).to ?_
  rw [slA_at hA (by omega)]
  congr 3
  omega
end

theorem u8s_drop (xs : List Int) (l : Nat) : (u8s xs).drop l = u8s (xs.drop l) := by simp [u8s]
theorem u8s_take (xs : List Int) (l : Nat) : (u8s xs).take l = u8s (xs.take l) := by simp [u8s]
theorem i64s_drop (xs : List Int) (l : Nat) : (i64s xs).drop l = i64s (xs.drop l) := by simp [i64s]
theorem i64s_take (xs : List Int) (l : Nat) : (i64s xs).take l = i64s (xs.take l) := by simp [i64s]
/-- A part of a list. -/
def subL (xs : List Int) (l h : Nat) : List Int := (xs.drop l).take (h - l)
theorem sub_bytes {xs : List Int} (hx : Bytes xs) (l h : Nat) : Bytes (subL xs l h) := fun x hm => hx x (List.mem_of_mem_drop (List.mem_of_mem_take hm))
theorem sub_length {xs : List Int} {l h : Nat} (hh : h ≤ xs.length) : (subL xs l h).length = h - l := by simp [subL]; omega
theorem gi_sub {xs : List Int} {l h : Nat} {i : Int} (h0 : 0 ≤ i) (h1 : i < (h : Int) - l) : gi (subL xs l h) i = gi xs ((l : Int) + i) := by
  unfold gi subL
  rw [List.getD_eq_getElem?_getD, List.getD_eq_getElem?_getD, List.getElem?_take, if_pos (by omega), List.getElem?_drop]
  congr 2
  omega
theorem Rd.sub8 {w : World} {A : Option Addr} {m c : Nat} {xs : List Int} (hr : Rd w A m 1 (u8s xs)) (l h : Nat) (h1 : l ≤ h) (h2 : h ≤ m) (hc : m ≤ c) : Rd w (slA A l c 1) (h - l) 1 (u8s (subL xs l h)) := by
  have := hr.sub l h h1 h2 hc
  rw [Nat.mul_one, Nat.mul_one, u8s_drop, u8s_take] at this
  exact this
theorem Rd.subI {w : World} {A : Option Addr} {m c : Nat} {xs : List Int} (hr : Rd w A m 1 (i64s xs)) (l h : Nat) (h1 : l ≤ h) (h2 : h ≤ m) (hc : m ≤ c) : Rd w (slA A l c 1) (h - l) 1 (i64s (subL xs l h)) := by
  have := hr.sub l h h1 h2 hc
  rw [Nat.mul_one, Nat.mul_one, i64s_drop, i64s_take] at this
  exact this
theorem Rd.m {w : World} {A : Option Addr} {m m' sz : Nat} {cs : List Value} (hr : Rd w A m sz cs) (h : m = m') : Rd w A m' sz cs := h ▸ hr
theorem Rd.pre {w : World} {A : Option Addr} {m : Nat} {cs : List Value} (hr : Rd w A m 1 cs) (h : Nat) (hh : h ≤ m) : Rd w A h 1 (cs.take h) :=
  ⟨by rw [List.length_take, hr.len]; omega, by have := hr.big; omega, fun h0 => hr.some_ (by omega), fun j v hj => hr.cell j v (by
    rw [List.getElem?_take] at hj
    split at hj
    · exact hj
    · cases hj)⟩
theorem Rd.pre8 {w : World} {A : Option Addr} {m : Nat} {xs : List Int} (hr : Rd w A m 1 (u8s xs)) (h : Nat) (hh : h ≤ m) : Rd w A h 1 (u8s (xs.take h)) := u8s_take xs h ▸ hr.pre h hh
theorem Rd.preI {w : World} {A : Option Addr} {m : Nat} {xs : List Int} (hr : Rd w A m 1 (i64s xs)) (h : Nat) (hh : h ≤ m) : Rd w A h 1 (i64s (xs.take h)) := i64s_take xs h ▸ hr.pre h hh
theorem take_bytes {xs : List Int} (hx : Bytes xs) (h : Nat) : Bytes (xs.take h) := fun x hm => hx x (List.mem_of_mem_take hm)
def putL (xs : List Int) (o : Nat) (ys : List Int) : List Int := xs.take o ++ ys ++ xs.drop (o + ys.length)
theorem u8s_putL (xs : List Int) (o : Nat) (ys : List Int) : put (u8s xs) o (u8s ys) = u8s (putL xs o ys) := by simp [put, putL, u8s]
theorem i64s_putL (xs : List Int) (o : Nat) (ys : List Int) : put (i64s xs) o (i64s ys) = i64s (putL xs o ys) := by simp [put, putL, i64s]
theorem putL_bytes {xs ys : List Int} (hx : Bytes xs) (hy : Bytes ys) (o : Nat) (h : Nat) : Bytes (putL xs o (ys.take h)) := fun x hm => by
  unfold putL at hm
  simp only [List.mem_append] at hm
  rcases hm with (hm | hm) | hm
  · exact hx x (List.mem_of_mem_take hm)
  · exact hy x (List.mem_of_mem_take hm)
  · exact hx x (List.mem_of_mem_drop hm)
theorem putL_length {xs ys : List Int} {o : Nat} (h : o + ys.length ≤ xs.length) : (putL xs o ys).length = xs.length := by
  simp [putL]; omega
theorem slA_copy {A : Option Addr} {l c : Nat} (hA : A.isSome = true) (hc : l < c) : slA A l c 1 = some ((A.getD default).add l) := by
  unfold slA
  rw [if_neg (by omega)]
  cases A with
  | none => cases hA
  | some a => show some (a.add (l * 1)) = some (a.add l); rw [Nat.mul_one]
theorem row_copy {A : Option Addr} (hA : A.isSome = true) : A = some ((A.getD default).add 0) := by
  cases A with
  | none => cases hA
  | some a => rfl
theorem arr_i64 {xs : List Int} {n : Nat} {x : Int} (hl : xs.length = n) (h0 : 0 ≤ x) (h1 : x < n) : (i64s xs).toArray[x.toNat]? = some (.int .i64 (gi xs x)) := by
  rw [List.getElem?_toArray]; exact i64s_at h0 (by omega)
/-- The room of a row of one's own. -/
theorem HS.cap {w0 w : World} {H : List Ent} (h : HS w0 H w) (i : Nat) {A : Option Addr} {m c sz : Nat} {cs : List Value} {t : TypeId} (hi : H[i]? = some (.row A m c cs t sz)) : m ≤ c := by
  have hown : w.ownsRow w0.heap.size t sz (.slice A m c) m cs := h.ok i _ hi
  rcases hown.2 with ⟨hv, h0⟩ | ⟨g', cap, cur, hv, _, _, hnc, _⟩
  · omega
  · injection hv with _ _ hc
    omega

/-! ### make with room; copy -/
section
variable {P : Program} {n : Nat} {Q : Post} {e : Env} {w w0 : World} {ops : Array Oper} {d : Nat} {ty t : TypeId} {pos : String} {af : Array Edge} {rest : List Oper} {g : Option (Nat × Bool)} {X Y : Operand} {v : Value} {H : List Ent} {cs : List Value} {K : Env → World → Prop}
theorem HS.newRow0 {w0 w : World} {H : List Ent} (h : HS w0 H w) (cs : List Value) (t : TypeId) (c sz : Nat) (hl : cs.length = c * sz) (hm : c ≤ 9223372036854775807) : HS w0 (.row (some ⟨w.heap.size, 0, none⟩) 0 c [] t sz :: H) (w.alloc (.cells cs.toArray t)) := by
  have hb := h.alloc cs t
  refine ⟨hb.below, fun i x hx => ?_, fun i j x y hi hj hne => ?_⟩
  · cases i with
    | zero =>
      simp only [List.getElem?_cons_zero, Option.some.injEq] at hx
      subst hx
      have h2 := World.ownsRow_made (e := t) (size := sz) w cs.toArray c h.size (by simpa [maxLen] using hm) (by simpa using hl)
      exact h2
    | succ i => exact hb.ok (i + 1) x (by simpa using hx)
  · cases i with
    | zero =>
      cases j with
      | zero => exact absurd rfl hne
      | succ j =>
        simp only [List.getElem?_cons_zero, Option.some.injEq] at hi
        subst hi
        have := hb.apart 0 (j + 1) _ y rfl (by simpa using hj) (by omega)
        exact this
    | succ i =>
      cases j with
      | zero =>
        simp only [List.getElem?_cons_zero, Option.some.injEq] at hj
        subst hj
        have h3 := hb.apart 0 (i + 1) _ x rfl (by simpa using hi) (by omega)
        exact Ent.off.symm h3
      | succ j => exact hb.apart (i + 1) (j + 1) x y (by simpa using hi) (by simpa using hj) (by omega)
/-- make([]T, 0, c), T of one cell. -/
theorem Step.make0 {el bts : Nat} {z : Value} {c : Int} {k0 k1 : IntKind} (hs : HS w0 H w) (ht : slcInfo P t = some (el, 1, bts)) (hz : Zv P el z) (hz1 : z.cells = #[z]) (hx : val e X = some (.int k0 0)) (hy : val e Y = some (.int k1 c)) (h0 : 0 ≤ c) (hb : (bts : Int) * c ≤ 281474976710656) (hm : c ≤ 9223372036854775807)
    (h : ∀ b w', HS w0 (.row (some ⟨b, 0, none⟩) 0 c.toNat [] el 1 :: H) w' → Below w.heap.size w w' → K ((d, .slice (some ⟨b, 0, none⟩) 0 c.toNat) :: e) w') (hg : Wants ops e g := by exact True.intro) (hn : Nat.blt d n = true := by rfl) :
    Step P n ops Q ⟨some d, .makeSlice t X Y, ty, pos, af, g⟩ K e w := by
  obtain ⟨m, rfl⟩ := Int.eq_ofNat_of_zero_le h0
  simp only [Int.toNat_natCast] at h
  have hu : P.underlying t = some (.slice el) ∧ (P.info? el).map (fun i => (i.zero, i.size, i.bytes)) = some (some z, 1, bts) := by
    unfold slcInfo at ht
    split at ht
    · rename_i e' hu
      split at ht
      · rename_i i hi
        injection ht with ht
        injection ht with h2 h3
        injection h3 with h3 h4
        subst h2
        refine ⟨hu, ?_⟩
        unfold Zv at hz
        rw [hi] at hz ⊢
        simp at hz
        simp [hz, h3, h4]
      · cases ht
    · cases ht
  have hbn : bts * m ≤ 281474976710656 := by
    have h2 : ((bts * m : Nat) : Int) ≤ 281474976710656 := by simpa using hb
    omega
  have hsz : (madeCells #[z] m).size = m * 1 := by rw [size_madeCells]; simp
  refine Step.m (v := .slice (some ⟨w.heap.size, 0, none⟩) 0 m) (w' := w.alloc (.cells (madeCells #[z] m) el)) (fun a ha => ?_) (h _ _ (by
    have := hs.newRow0 (madeCells #[z] m).toList el m 1 (by simpa using hsz) (by omega)
    simpa using this) ((Below.refl _ _).alloc (Nat.le_refl _) _)) hg hn
  obtain ⟨iI, hiI, hi2⟩ := Option.map_eq_some_iff.1 hu.2
  injection hi2 with hi2 hi3
  injection hi3 with hi3 hi4
  have hr := run_make (P := P) w t el iI z hu.1 hiI hi2 k0 k1 0 m (Int.le_refl _) (by omega) (by rw [hi4]; exact hb) (by omega)
  simp only [Int.toNat_natCast, hi3, Nat.mul_one, hz1] at hr
  simp [execOp, ha.eval hx, ha.eval hy, hr]
/-- copy into a row of one's own, from its o-th element on. -/
theorem HS.copy {el bts m c m1 c1 m2 c2 : Nat} {A A2 : Option Addr} {cs cs2 : List Value} {tys : Array TypeId} (i : Nat) (hs : HS w0 H w) (o : Nat) (hi : H[i]? = some (.row A m c cs el 1)) (ht : slcInfo P t = some (el, 1, bts)) (ht0 : tys[0]? = some t)
    (hr : Rd w A2 m2 1 cs2) (h1 : cs2.all (·.oneCell') = true) (ho : o + min m2 m1 ≤ m) (B : Option Addr) (hB : 0 < min m2 m1 → B = some ((A.getD default).add o)) (hB0 : min m2 m1 = 0 → B = none ∨ B.isSome = true) :
    ∃ w', (Builtin.copy_ tys ty #[.slice B m1 c1, .slice A2 m2 c2]).run P w = .ok (.int .i64 ((min m2 m1 : Nat) : Int)) w' ∧ HS w0 (H.set i (.row A m c (put cs o (cs2.take (min m2 m1))) el 1)) w' := by
  have hl2 : cs2.length = m2 := by have := hr.len; omega
  have hcl : cs.length = m := by have := (hs.rdRow i hi).len; omega
  obtain ⟨hu, hsz⟩ : P.underlying t = some (.slice el) ∧ Sz P el 1 := by
    unfold slcInfo at ht
    split at ht
    · rename_i e' hu
      split at ht
      · rename_i iI hiI
        injection ht with ht
        injection ht with h2 h3
        injection h3 with h3 h4
        subst h2
        exact ⟨hu, by unfold Sz; rw [hiI]; simp [h3]⟩
      · cases ht
    · cases ht
  have hsr := run_sizeOf' (w := w) hsz
  have hgi : ∀ k : Nat, goInt k = .int .i64 (k : Int) := fun _ => rfl
  rcases Nat.eq_zero_or_pos (min m2 m1) with h0 | hpos
  · refine ⟨w, ?_, ?_⟩
    · have hn0 : Nat.min m2 m1 = 0 := h0
      have hlc : ∀ a : Addr, (loadCells a 0).run P w = .ok #[] w := fun a => by
        have := run_loadCells_list (P := P) w a [] (by simp)
        simpa using this
      have hst : ∀ a : Addr, (storeCells a []).run P w = .ok () w := fun a => by simp [storeCells]
      cases A2 <;> cases B <;> simp [Builtin.copy_, ht0, run_underlying hu, Builtin.lenOf, hn0, hsr, Builtin.firstCells, hlc, hst, h0, goInt]
    · have : H.set i (.row A m c (put cs o (cs2.take (min m2 m1))) el 1) = H := by
        rw [h0]
        have hp : put cs o (cs2.take 0) = cs := by simp [put]
        rw [hp]
        apply List.ext_getElem?
        intro j
        rcases Nat.decEq j i with hne | rfl
        · rw [List.getElem?_set_ne (fun e => hne e.symm)]
        · rw [List.getElem?_set_self (List.getElem?_eq_some_iff.1 hi).1, hi]
      rw [this]
      exact hs
  · have hBs := hB hpos
    subst hBs
    obtain ⟨w', hr', hs'⟩ := hs.storeRow (P := P) i hi o (cs2.take (min m2 m1)) (by rw [List.length_take, hl2, hcl]; omega) (by rw [List.length_take, hl2]; omega) (fun u hu => List.all_eq_true.1 h1 u (List.mem_of_mem_take hu))
    refine ⟨w', ?_, hs'⟩
    have hA2 := hr.some_ (by omega)
    cases A2 with
    | none => cases hA2
    | some a2 =>
      have hn0 : Nat.min m2 m1 = min m2 m1 := rfl
      have hlc : (loadCells a2 (min m2 m1)).run P w = .ok (cs2.take (min m2 m1)).toArray w := by
        have := run_loadCells_list (P := P) w a2 (cs2.take (min m2 m1)) (fun j v hj => hr.cell j v (by
          rw [List.getElem?_take] at hj
          split at hj
          · exact hj
          · cases hj))
        rw [List.length_take, hl2, Nat.min_eq_left (by omega)] at this
        exact this
      simp [Builtin.copy_, ht0, run_underlying hu, Builtin.lenOf, hn0, hsr, Builtin.firstCells, hlc, hr', goInt]
theorem Step.copy {el bts m c m1 c1 m2 c2 : Nat} {A A2 B : Option Addr} {cs cs2 : List Value} {t2 : TypeId} (i : Nat) (hs : HS w0 H w) (hx : val e X = some (.slice B m1 c1)) (hy : val e Y = some (.slice A2 m2 c2)) (o : Nat) (hi : H[i]? = some (.row A m c cs el 1)) (ht : slcInfo P t = some (el, 1, bts))
    (hr : Rd w A2 m2 1 cs2) (h1 : cs2.all (·.oneCell') = true) (ho : o + min m2 m1 ≤ m) (hB : 0 < min m2 m1 → B = some ((A.getD default).add o))
    (h : ∀ w', HS w0 (H.set i (.row A m c (put cs o (cs2.take (min m2 m1))) el 1)) w' → K ((d, .int .i64 ((min m2 m1 : Nat) : Int)) :: e) w') (hg : Wants ops e g := by exact True.intro) (hn : Nat.blt d n = true := by rfl) :
    Step P n ops Q ⟨some d, .call { callee := .builtin .copy, args := #[X, Y], argTypes := #[t, t2] }, ty, pos, af, g⟩ K e w := by
  obtain ⟨w', hrun, hs'⟩ := hs.copy (P := P) (ty := ty) (t := t) (tys := #[t, t2]) (c1 := c1) (c2 := c2) (m1 := m1) i o hi ht rfl hr h1 ho B hB (fun _ => by cases B <;> simp)
  refine Step.m (v := .int .i64 ((min m2 m1 : Nat) : Int)) (w' := w') (fun a ha => ?_) (h w' hs') hg hn
  simp [execOp, resolve, invoke, builtin, ha.eval hx, ha.eval hy, hrun]
/-- copy, its count not asked for. -/
theorem Step.copy_ {el bts m c m1 c1 m2 c2 : Nat} {A A2 B : Option Addr} {cs cs2 : List Value} {t2 : TypeId} (i : Nat) (hs : HS w0 H w) (hx : val e X = some (.slice B m1 c1)) (hy : val e Y = some (.slice A2 m2 c2)) (o : Nat) (hi : H[i]? = some (.row A m c cs el 1)) (ht : slcInfo P t = some (el, 1, bts))
    (hr : Rd w A2 m2 1 cs2) (h1 : cs2.all (·.oneCell') = true) (ho : o + min m2 m1 ≤ m) (hB : 0 < min m2 m1 → B = some ((A.getD default).add o))
    (h : ∀ w', HS w0 (H.set i (.row A m c (put cs o (cs2.take (min m2 m1))) el 1)) w' → K e w') (hg : Wants ops e g := by exact True.intro) :
    Step P n ops Q ⟨none, .call { callee := .builtin .copy, args := #[X, Y], argTypes := #[t, t2] }, ty, pos, af, g⟩ K e w := by
  obtain ⟨w', hrun, hs'⟩ := hs.copy (P := P) (ty := ty) (t := t) (tys := #[t, t2]) (c1 := c1) (c2 := c2) (m1 := m1) i o hi ht rfl hr h1 ho B hB (fun _ => by cases B <;> simp)
  intro a ha K' hK
  rw [if_pos (wants ha hg)]
  unfold Oper.wp
  have : (execOp a.eval ⟨none, .call { callee := .builtin .copy, args := #[X, Y], argTypes := #[t, t2] }, ty, pos, af, g⟩).run P w = .ok (.value (.int .i64 ((min m2 m1 : Nat) : Int))) w' := by
    simp [execOp, resolve, invoke, builtin, ha.eval hx, ha.eval hy, hrun]
  rw [this]
  exact hK _ _ _ (ha.putNone _) (h w' hs')
end
end Go.Proofs.Zed
