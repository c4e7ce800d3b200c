/- The operations of the small logic: what each comes to (arithmetic, tests, addresses, loads, literals). No program in sight. -/
import Derived.Test.YtobfcnfkcmhmaaaZa
import Derived.Laws.Cells
import Derived.ChangeKeysEq
import Derived.Laws.Entries
import Derived.IntWalk
set_option linter.unusedVariables false
set_option linter.unusedSimpArgs false
namespace Go.Proofs.Zed
open Go Go.RowKit

/-- A number of int. -/
abbrev I64 (x : Int) : Prop := -9223372036854775808 ≤ x ∧ x ≤ 9223372036854775807
theorem wrap_i64 {x : Int} (h : I64 x) : IntKind.i64.wrap x = x := IntWalk.i64_in x h

/-! ### What is asked of a program's types -/
def isAggD : TypeDesc → Bool
  | .struct _ | .array _ _ => true
  | _ => false
def Agg (P : Program) (t : TypeId) (b : Bool) : Prop := (P.underlying t).map isAggD = some b
def Sz (P : Program) (t : TypeId) (k : Nat) : Prop := (P.info? t).map (·.size) = some k
def Zv (P : Program) (t : TypeId) (z : Value) : Prop := (P.info? t).map (·.zero) = some (some z)
/-- Field f of struct s: its place, and its cells (0 cells: not asked for). -/
def fieldInfo (P : Program) (s : TypeId) (f : Nat) : Option Nat :=
  match P.underlying s with
  | some (.struct fs) => match fs[f]? with
    | some fd => match P.info? fd.type with
      | some i => if i.size = 0 then none else some fd.offset
      | none => none
    | none => none
  | _ => none
/-- A slice type: its element type, that one's cells and bytes. -/
def slcInfo (P : Program) (t : TypeId) : Option (TypeId × Nat × Nat) :=
  match P.underlying t with
  | some (.slice e) => match P.info? e with
    | some i => some (e, i.size, i.bytes)
    | none => none
  | _ => none
def arrInfo (P : Program) (t : TypeId) : Option (Nat × TypeId × Nat) :=
  match P.underlying t with
  | some (.array n e) => match P.info? e with
    | some i => some (n, e, i.size)
    | none => none
  | _ => none

section
variable {P : Program} {n : Nat} {e : Env} {S : World → Prop} {dst : Option Tmp} {X Y Z : Operand} {t t2 ty : TypeId} {pos : String} {af : Array Edge} {g : Option (Nat × Bool)} {v u : Value} {x y : Int} {k : IntKind} {w : World}

theorem run_isAgg {b : Bool} (h : Agg P t b) : (isAgg t).run P w = .ok b w := by
  unfold Agg at h
  obtain ⟨d, hd, hb⟩ := Option.map_eq_some_iff.1 h
  unfold isAgg
  subst hb
  cases d <;> simp [run_underlying hd, isAggD]
theorem run_sizeOf' {k : Nat} (h : Sz P t k) : (sizeOf t).run P w = .ok k w := by
  obtain ⟨i, hi, hk⟩ := Option.map_eq_some_iff.1 h
  simp [sizeOf, typeInfo, hi, hk]
theorem run_zeroValue' {z : Value} (h : Zv P t z) : (zeroValue t).run P w = .ok z w := by
  obtain ⟨i, hi, hk⟩ := Option.map_eq_some_iff.1 h
  simp [zeroValue, typeInfo, hi, hk]

theorem Yv.move (hx : val e X = some v) : Yv P n e S ⟨dst, .move X, ty, pos, af, g⟩ v := fun a ha w _ => by simp [execOp, ha.eval hx]
theorem Yv.assign (hx : val e X = some v) : Yv P n e S ⟨dst, .assign X, ty, pos, af, g⟩ v := fun a ha w _ => by simp [execOp, ha.eval hx]

theorem Yv.arith {op : BinOp} (hop : op = .add ∨ op = .sub ∨ op = .mul) (hx : val e X = some (.int k x)) (hy : val e Y = some (.int k y)) :
    Yv P n e S ⟨dst, .binOp op t X Y t2, ty, pos, af, g⟩ (.int k (k.wrap (match op with | .add => x + y | .sub => x - y | _ => x * y))) := fun a ha w _ => by
  rcases hop with rfl | rfl | rfl <;> simp [execOp, ha.eval hx, ha.eval hy, eqGuard, binOp, Op.intArith]
theorem Yv.add (hx : val e X = some (.int .i64 x)) (hy : val e Y = some (.int .i64 y)) (hb : I64 (x + y)) : Yv P n e S ⟨dst, .binOp .add t X Y t2, ty, pos, af, g⟩ (.int .i64 (x + y)) := by
  have := Yv.arith (P := P) (n := n) (S := S) (dst := dst) (t := t) (t2 := t2) (ty := ty) (pos := pos) (af := af) (g := g) (op := .add) (.inl rfl) hx hy
  rwa [wrap_i64 hb] at this
theorem Yv.sub (hx : val e X = some (.int .i64 x)) (hy : val e Y = some (.int .i64 y)) (hb : I64 (x - y)) : Yv P n e S ⟨dst, .binOp .sub t X Y t2, ty, pos, af, g⟩ (.int .i64 (x - y)) := by
  have := Yv.arith (P := P) (n := n) (S := S) (dst := dst) (t := t) (t2 := t2) (ty := ty) (pos := pos) (af := af) (g := g) (op := .sub) (.inr (.inl rfl)) hx hy
  rwa [wrap_i64 hb] at this
theorem Yv.mul (hx : val e X = some (.int .i64 x)) (hy : val e Y = some (.int .i64 y)) (hb : I64 (x * y)) : Yv P n e S ⟨dst, .binOp .mul t X Y t2, ty, pos, af, g⟩ (.int .i64 (x * y)) := by
  have := Yv.arith (P := P) (n := n) (S := S) (dst := dst) (t := t) (t2 := t2) (ty := ty) (pos := pos) (af := af) (g := g) (op := .mul) (.inr (.inr rfl)) hx hy
  rwa [wrap_i64 hb] at this
theorem Yv.addw (hx : val e X = some (.int k x)) (hy : val e Y = some (.int k y)) : Yv P n e S ⟨dst, .binOp .add t X Y t2, ty, pos, af, g⟩ (.int k (k.wrap (x + y))) := Yv.arith (.inl rfl) hx hy
theorem Yv.subw (hx : val e X = some (.int k x)) (hy : val e Y = some (.int k y)) : Yv P n e S ⟨dst, .binOp .sub t X Y t2, ty, pos, af, g⟩ (.int k (k.wrap (x - y))) := Yv.arith (.inr (.inl rfl)) hx hy
theorem Yv.mulw (hx : val e X = some (.int k x)) (hy : val e Y = some (.int k y)) : Yv P n e S ⟨dst, .binOp .mul t X Y t2, ty, pos, af, g⟩ (.int k (k.wrap (x * y))) := Yv.arith (.inr (.inr rfl)) hx hy
theorem Yv.neg (hx : val e X = some (.int .i64 x)) (hb : I64 (-x)) : Yv P n e S ⟨dst, .unOp .neg t X, ty, pos, af, g⟩ (.int .i64 (-x)) := fun a ha w _ => by
  have : IntKind.i64.wrap (-x) = -x := wrap_i64 hb
  simp [execOp, ha.eval hx, Op.unary, Op.intArith, this]
theorem Yv.quo (hx : val e X = some (.int .i64 x)) (hy : val e Y = some (.int .i64 y)) (h0 : 0 ≤ x) (h1 : 1 ≤ y) (hb : x ≤ 9223372036854775807) : Yv P n e S ⟨dst, .binOp .quo t X Y t2, ty, pos, af, g⟩ (.int .i64 (x / y)) := fun a ha w _ => by
  have hne : ¬ y = 0 := by omega
  simp [execOp, ha.eval hx, ha.eval hy, eqGuard, binOp, Op.intDiv, hne, IntWalk.i64_quo x y ⟨h0, hb, h1⟩]
theorem Yv.quot (hx : val e X = some (.int .i64 x)) (hy : val e Y = some (.int .i64 y)) (hb : I64 x) (h1 : 1 ≤ y) : Yv P n e S ⟨dst, .binOp .quo t X Y t2, ty, pos, af, g⟩ (.int .i64 (x.tdiv y)) := fun a ha w _ => by
  have hne : ¬ y = 0 := by omega
  simp [execOp, ha.eval hx, ha.eval hy, eqGuard, binOp, Op.intDiv, hne, IntWalk.i64_quo' x y ⟨hb.1, hb.2, h1⟩]
theorem Yv.rem (hx : val e X = some (.int k x)) (hy : val e Y = some (.int k y)) (h0 : 0 ≤ x) (h1 : 1 ≤ y) : Yv P n e S ⟨dst, .binOp .rem t X Y t2, ty, pos, af, g⟩ (.int k (x % y)) := fun a ha w _ => by
  have hne : ¬ y = 0 := by omega
  simp [execOp, ha.eval hx, ha.eval hy, eqGuard, binOp, Op.intDiv, hne, Int.tmod_eq_emod_of_nonneg h0]
theorem Yv.remt (hx : val e X = some (.int k x)) (hy : val e Y = some (.int k y)) (h1 : y ≠ 0) : Yv P n e S ⟨dst, .binOp .rem t X Y t2, ty, pos, af, g⟩ (.int k (x.tmod y)) := fun a ha w _ => by
  simp [execOp, ha.eval hx, ha.eval hy, eqGuard, binOp, Op.intDiv, h1]

theorem Yv.lt (hx : val e X = some (.int k x)) (hy : val e Y = some (.int k y)) : Yv P n e S ⟨dst, .binOp .lss t X Y t2, ty, pos, af, g⟩ (.bool (decide (x < y))) := fun a ha w _ => by simp [execOp, ha.eval hx, ha.eval hy, eqGuard, binOp, Op.intCmp]
theorem Yv.le (hx : val e X = some (.int k x)) (hy : val e Y = some (.int k y)) : Yv P n e S ⟨dst, .binOp .leq t X Y t2, ty, pos, af, g⟩ (.bool (decide (x ≤ y))) := fun a ha w _ => by simp [execOp, ha.eval hx, ha.eval hy, eqGuard, binOp, Op.intCmp]
theorem Yv.gt (hx : val e X = some (.int k x)) (hy : val e Y = some (.int k y)) : Yv P n e S ⟨dst, .binOp .gtr t X Y t2, ty, pos, af, g⟩ (.bool (decide (y < x))) := fun a ha w _ => by simp [execOp, ha.eval hx, ha.eval hy, eqGuard, binOp, Op.intCmp]
theorem Yv.ge (hx : val e X = some (.int k x)) (hy : val e Y = some (.int k y)) : Yv P n e S ⟨dst, .binOp .geq t X Y t2, ty, pos, af, g⟩ (.bool (decide (y ≤ x))) := fun a ha w _ => by simp [execOp, ha.eval hx, ha.eval hy, eqGuard, binOp, Op.intCmp]
theorem Yv.eq (hx : val e X = some (.int k x)) (hy : val e Y = some (.int k y)) : Yv P n e S ⟨dst, .binOp .eql t X Y t2, ty, pos, af, g⟩ (.bool (decide (x = y))) := fun a ha w _ => by
  simp [execOp, ha.eval hx, ha.eval hy, eqGuard, binOp, Op.intCmp]; rfl
theorem Yv.ne (hx : val e X = some (.int k x)) (hy : val e Y = some (.int k y)) : Yv P n e S ⟨dst, .binOp .neq t X Y t2, ty, pos, af, g⟩ (.bool (decide (x ≠ y))) := fun a ha w _ => by
  simp [execOp, ha.eval hx, ha.eval hy, eqGuard, binOp, Op.intCmp]
  by_cases h : x = y <;> simp [h]
/-- A test whose outcome is known. -/
theorem Yv.yes {o : Oper} {p : Prop} [Decidable p] (h : Yv P n e S o (.bool (decide p))) (hp : p) : Yv P n e S o (.bool true) := by rwa [decide_eq_true hp] at h
theorem Yv.no {o : Oper} {p : Prop} [Decidable p] (h : Yv P n e S o (.bool (decide p))) (hp : ¬ p) : Yv P n e S o (.bool false) := by rwa [decide_eq_false hp] at h
theorem Yv.to {o : Oper} (h : Yv P n e S o u) (hv : u = v) : Yv P n e S o v := hv ▸ h
theorem Yv.not {b : Bool} (hx : val e X = some (.bool b)) : Yv P n e S ⟨dst, .unOp .not t X, ty, pos, af, g⟩ (.bool (!b)) := fun a ha w _ => by simp [execOp, ha.eval hx, Op.unary]
theorem Yv.notp {p : Prop} [Decidable p] (hx : val e X = some (.bool (decide p))) : Yv P n e S ⟨dst, .unOp .not t X, ty, pos, af, g⟩ (.bool (decide (¬ p))) := (Yv.not hx).to (by simp)
theorem Yv.pick1 (hc : val e X = some (.bool true)) (hy : val e Y = some v) : Yv P n e S ⟨dst, .pick X Y Z, ty, pos, af, g⟩ v := fun a ha w _ => by simp [execOp, ha.eval hc, ha.eval hy, asBool]
theorem Yv.pick0 (hc : val e X = some (.bool false)) (hz : val e Z = some v) : Yv P n e S ⟨dst, .pick X Y Z, ty, pos, af, g⟩ v := fun a ha w _ => by simp [execOp, ha.eval hc, ha.eval hz, asBool]

theorem Yv.toInt {d : TypeId} (hd : P.underlying d = some (.int .i64)) (hs : (P.underlying t).isSome = true) (hx : val e X = some (.int k x)) (hb : I64 x) : Yv P n e S ⟨dst, .convert t d X, ty, pos, af, g⟩ (.int .i64 x) := fun a ha w _ => by
  obtain ⟨s, hs⟩ := Option.isSome_iff_exists.1 hs
  have h1 := wrap_i64 hb
  simp [execOp, ha.eval hx, convert, run_underlying hd, run_underlying hs, Conv.intToInt, h1]
theorem Yv.conv {d : TypeId} {k' : IntKind} (hd : P.underlying d = some (.int k')) (hs : (P.underlying t).isSome = true) (hx : val e X = some (.int k x)) : Yv P n e S ⟨dst, .convert t d X, ty, pos, af, g⟩ (.int k' (k'.wrap x)) := fun a ha w _ => by
  obtain ⟨s, hs⟩ := Option.isSome_iff_exists.1 hs
  simp [execOp, ha.eval hx, convert, run_underlying hd, run_underlying hs, Conv.intToInt]
theorem Yv.toU8 {d : TypeId} (hd : P.underlying d = some (.int .u8)) (hs : (P.underlying t).isSome = true) (hx : val e X = some (.int k x)) : Yv P n e S ⟨dst, .convert t d X, ty, pos, af, g⟩ (.int .u8 (x % 256)) := by
  have := Yv.conv (P := P) (n := n) (S := S) (dst := dst) (t := t) (ty := ty) (pos := pos) (af := af) (g := g) hd hs hx
  rwa [IntKind.wrap_u8] at this
theorem Yv.toByte {d : TypeId} (hd : P.underlying d = some (.int .u8)) (hs : (P.underlying t).isSome = true) (hx : val e X = some (.int k x)) (hb : 0 ≤ x ∧ x ≤ 255) : Yv P n e S ⟨dst, .convert t d X, ty, pos, af, g⟩ (.int .u8 x) :=
  (Yv.toU8 hd hs hx).to (by rw [Int.emod_eq_of_lt hb.1 (by omega)])
theorem Yv.shl {k' : IntKind} (hx : val e X = some (.int .i64 x)) (hy : val e Y = some (.int k' y)) (m : Nat) (hm : y = m) (h64 : m ≤ 64) (hb : I64 (x * 2 ^ m)) : Yv P n e S ⟨dst, .binOp .shl t X Y t2, ty, pos, af, g⟩ (.int .i64 (x * 2 ^ m)) := fun a ha w _ => by
  subst hm
  have h1 := wrap_i64 hb
  have h2 : ¬ ((m : Int) < 0) := by omega
  have h3 : min m IntKind.i64.bits = m := by simp [IntKind.bits]; omega
  simp [execOp, ha.eval hx, ha.eval hy, eqGuard, binOp, Op.shift, h2, h3, h1]
theorem Yv.shl8 {k' : IntKind} (hx : val e X = some (.int .u8 x)) (hy : val e Y = some (.int k' y)) (m : Nat) (hm : y = m) (h64 : m ≤ 8) (hb : 0 ≤ x * 2 ^ m ∧ x * 2 ^ m ≤ 255) : Yv P n e S ⟨dst, .binOp .shl t X Y t2, ty, pos, af, g⟩ (.int .u8 (x * 2 ^ m)) := fun a ha w _ => by
  subst hm
  have h1 := IntWalk.u8_in _ hb
  have h2 : ¬ ((m : Int) < 0) := by omega
  have h3 : min m IntKind.u8.bits = m := by simp [IntKind.bits]; omega
  simp [execOp, ha.eval hx, ha.eval hy, eqGuard, binOp, Op.shift, h2, h3, h1]
theorem Yv.shr {k' : IntKind} (hx : val e X = some (.int .i64 x)) (hy : val e Y = some (.int k' y)) (m : Nat) (hm : y = m) (h64 : m ≤ 64) : Yv P n e S ⟨dst, .binOp .shr t X Y t2, ty, pos, af, g⟩ (.int .i64 (x / 2 ^ m)) := fun a ha w _ => by
  subst hm
  have h2 : ¬ ((m : Int) < 0) := by omega
  have h3 : min m IntKind.i64.bits = m := by simp [IntKind.bits]; omega
  have h4 : x.fdiv (2 ^ m) = x / 2 ^ m := Int.fdiv_eq_ediv_of_nonneg _ (Int.le_of_lt (Int.pow_pos (by decide)))
  simp [execOp, ha.eval hx, ha.eval hy, eqGuard, binOp, Op.shift, h2, h3, h4]

theorem Yv.len {A : Option Addr} {m c : Nat} (hs : (slcInfo P t).isSome = true) (hx : val e X = some (.slice A m c)) :
    Yv P n e S ⟨dst, .call { callee := .builtin .len, args := #[X], argTypes := #[t] }, ty, pos, af, g⟩ (.int .i64 m) := fun a ha w _ => by
  obtain ⟨⟨el, sz, by_⟩, hsl⟩ := Option.isSome_iff_exists.1 hs
  unfold slcInfo at hsl
  split at hsl
  · rename_i e' hu
    simp [execOp, resolve, invoke, builtin, ha.eval hx, Builtin.len_, run_underlying hu, goInt]
  · cases hsl
theorem min2_eq (x y : Int) : (if y < x then y else x) = min x y := by omega
theorem max2_eq (x y : Int) : (if y > x then y else x) = max x y := by omega
theorem Yv.min {tys : Array TypeId} (hx : val e X = some (.int k x)) (hy : val e Y = some (.int k y)) :
    Yv P n e S ⟨dst, .call { callee := .builtin .min, args := #[X, Y], argTypes := tys }, ty, pos, af, g⟩ (.int k (min x y)) := fun a ha w _ => by
  simp [execOp, resolve, invoke, builtin, ha.eval hx, ha.eval hy, Builtin.min_, Builtin.min2, ← min2_eq]
theorem Yv.max {tys : Array TypeId} (hx : val e X = some (.int k x)) (hy : val e Y = some (.int k y)) :
    Yv P n e S ⟨dst, .call { callee := .builtin .max, args := #[X, Y], argTypes := tys }, ty, pos, af, g⟩ (.int k (max x y)) := fun a ha w _ => by
  simp [execOp, resolve, invoke, builtin, ha.eval hx, ha.eval hy, Builtin.max_, Builtin.max2, ← max2_eq]
theorem Yv.min4 {tys : Array TypeId} {Z' : Operand} {z z' : Int} (hx : val e X = some (.int k x)) (hy : val e Y = some (.int k y)) (hz : val e Z = some (.int k z)) (hz' : val e Z' = some (.int k z')) :
    Yv P n e S ⟨dst, .call { callee := .builtin .min, args := #[X, Y, Z, Z'], argTypes := tys }, ty, pos, af, g⟩ (.int k (Min.min (Min.min (Min.min x y) z) z')) := fun a ha w _ => by
  simp [execOp, resolve, invoke, builtin, ha.eval hx, ha.eval hy, ha.eval hz, ha.eval hz', Builtin.min_, Builtin.min2, ← min2_eq]

theorem Yv.extract {vs : Array Value} {i : Nat} (hx : val e X = some (.tuple vs)) (hv : vs[i]? = some v) : Yv P n e S ⟨dst, .extract X i, ty, pos, af, g⟩ v := fun a ha w _ => by simp [execOp, ha.eval hx, Instr.extract, hv]
theorem Yv.func {fn : Fn} {first cap : List Operand} {fs cs : List Value} (hf : vals e first = some fs) (hc : vals e cap = some cs) : Yv P n e S ⟨dst, .makeFunc fn first.toArray cap.toArray, ty, pos, af, g⟩ (.func fn fs.toArray cs.toArray) := fun a ha w _ => by
  simp [execOp, Instr.makeFunc, ha.evals hf, ha.evals hc]
theorem Yv.nilCheck {ad : Addr} (hx : val e X = some (.pointer (some ad))) : Yv P n e S ⟨dst, .nilCheck X, ty, pos, af, g⟩ (.pointer (some ad)) := fun a ha w _ => by simp [execOp, ha.eval hx]

theorem run_equalIn_nil {A : Option Addr} {m c : Nat} {t el : TypeId} (d : Nat) (w : World) (hu : P.underlying t = some (.slice el)) : (Op.equalIn (d + 1) t (.slice A m c) (.slice none 0 0)).run P w = .ok A.isNone w := by
  cases A <;> simp [Op.equalIn, run_underlying hu]
/-- s == nil -/
theorem Yv.eqNil {A : Option Addr} {m c : Nat} (hs : (slcInfo P t).isSome = true) (hx : val e X = some (.slice A m c)) (hy : val e Y = some (.slice none 0 0)) : Yv P n e S ⟨dst, .binOp .eql t X Y t2, ty, pos, af, g⟩ (.bool A.isNone) := fun a ha w _ => by
  obtain ⟨⟨el, sz, by_⟩, hsl⟩ := Option.isSome_iff_exists.1 hs
  unfold slcInfo at hsl
  split at hsl
  · rename_i e' hu
    have h := run_equalIn_nil (A := A) (m := m) (c := c) 9999 w hu
    have h2 : (Op.equal t (.slice A m c) (.slice none 0 0)).run P w = .ok A.isNone w := h
    simp only [execOp, ha.eval hx, ha.eval hy, eqGuard, Sem.run_bind, Result.andThen_ok, binOp, h2, Sem.run_pure, Bool.not_true, Bool.false_eq_true, if_false]
  · cases hsl

/-! ### Addresses -/
theorem add_blk (b o k : Nat) : (⟨b, o, none⟩ : Addr).add k = ⟨b, o + k, none⟩ := by unfold Addr.add; split <;> simp_all
theorem add_add (ad : Addr) (i j : Nat) : (ad.add i).add j = ad.add (i + j) := by
  unfold Addr.add
  by_cases h1 : i = 0 <;> by_cases h2 : j = 0 <;> simp [h1, h2, Nat.add_assoc]
theorem run_fieldAt {s f off : Nat} (h : fieldInfo P s f = some off) (ad : Addr) : (Instr.fieldAt s (.pointer (some ad)) f).run P w = .ok (.pointer (some (ad.add off))) w := by
  unfold fieldInfo at h
  split at h
  · rename_i fs hu
    split at h
    · rename_i fd hfd
      split at h
      · rename_i i hi
        split at h
        · cases h
        · rename_i hsz
          injection h with h
          subst h
          simp [Instr.fieldAt, run_underlying hu, hfd, Instr.sureAddr, fieldPlace, sizeOf, typeInfo, hi, hsz]
      · cases h
    · cases h
  · cases h
theorem Yv.fld {s f off b o o' : Nat} (h : fieldInfo P s f = some off) (hx : val e X = some (.pointer (some ⟨b, o, none⟩))) (ho : o + off = o' := by rfl) : Yv P n e S ⟨dst, .fieldAddr s X f, ty, pos, af, g⟩ (.pointer (some ⟨b, o', none⟩)) := fun a ha w _ => by
  simp [execOp, ha.eval hx, run_fieldAt h, add_blk, ho]
theorem Yv.flds {s f off i : Nat} {ad : Addr} (h : fieldInfo P s f = some off) (hx : val e X = some (.pointer (some (ad.add i)))) : Yv P n e S ⟨dst, .fieldAddr s X f, ty, pos, af, g⟩ (.pointer (some (ad.add (i + off)))) := fun a ha w _ => by
  simp [execOp, ha.eval hx, run_fieldAt h, add_add]
theorem run_indexAt_slc {el sz bts m c : Nat} {A : Option Addr} (h : slcInfo P t = some (el, sz, bts)) (hA : A.isSome = true) (h0 : 0 ≤ x) (h1 : x < m) :
    (Instr.indexAt t (.slice A m c) (.int k x)).run P w = .ok (.pointer (some ((A.getD default).add (x.toNat * sz)))) w := by
  unfold slcInfo at h
  split at h
  · rename_i e' hu
    split at h
    · rename_i i hi
      injection h with h
      injection h with h2 h3
      injection h3 with h3 h4
      subst h2 h3
      obtain ⟨ad, rfl⟩ := Option.isSome_iff_exists.1 hA
      simp [Instr.indexAt, asIntOf, run_underlying hu, h0, h1, sizeOf, typeInfo, hi]
    · cases h
  · cases h
theorem Yv.idx {el sz bts m c : Nat} {A : Option Addr} (h : slcInfo P t = some (el, sz, bts)) (hx : val e X = some (.slice A m c)) (hy : val e Y = some (.int k x)) (hA : A.isSome = true) (h0 : 0 ≤ x) (h1 : x < m) :
    Yv P n e S ⟨dst, .indexAddr t X Y, ty, pos, af, g⟩ (.pointer (some ((A.getD default).add (x.toNat * sz)))) := fun a ha w _ => by
  simp [execOp, ha.eval hx, ha.eval hy, run_indexAt_slc h hA h0 h1]
theorem Yv.idxa {el sz m b o o' : Nat} (h : arrInfo P t = some (m, el, sz)) (hx : val e X = some (.pointer (some ⟨b, o, none⟩))) (hy : val e Y = some (.int k x)) (h0 : 0 ≤ x) (h1 : x < m) (ho : o + x.toNat * sz = o' := by rfl) :
    Yv P n e S ⟨dst, .indexAddr t X Y, ty, pos, af, g⟩ (.pointer (some ⟨b, o', none⟩)) := fun a ha w _ => by
  unfold arrInfo at h
  split at h
  · rename_i m' e' hu
    split at h
    · rename_i i hi
      injection h with h
      injection h with h2 h3
      injection h3 with h3 h4
      subst h2 h3 h4
      simp [execOp, ha.eval hx, ha.eval hy, Instr.indexAt, asIntOf, run_underlying hu, Instr.sureAddr, h0, h1, sizeOf, typeInfo, hi, add_blk, ho]
    · cases h
  · cases h
/-- An element of an array that is a value. -/
theorem Yv.elem {el m : Nat} {cs : Array Value} (h : arrInfo P t = some (m, el, 1)) (hel : Agg P el false) (hx : val e X = some (.agg cs)) (hy : val e Y = some (.int k x)) (h0 : 0 ≤ x) (h1 : x < m) (hv : cs[x.toNat]? = some v) :
    Yv P n e S ⟨dst, .index t X Y, ty, pos, af, g⟩ v := fun a ha w _ => by
  unfold arrInfo at h
  split at h
  · rename_i m' e' hu
    split at h
    · rename_i i hi
      injection h with h
      injection h with h2 h3
      injection h3 with h3 h4
      subst h2 h3
      simp [execOp, ha.eval hx, ha.eval hy, Instr.index, asIntOf, run_underlying hu, h0, h1, sizeOf, typeInfo, hi, h4, part, run_isAgg hel, hv]
    · cases h
  · cases h

/-! ### Loads -/
theorem run_load1 {ad : Addr} (ht : Agg P t false) (hc : w.cell? ad = some v) : (loadVar t ad).run P w = .ok v w := by simp [loadVar, run_isAgg ht, load, Sem.run, hc]
theorem run_loadn {ad : Addr} {cs : List Value} (ht : Agg P t true) (hs : Sz P t cs.length) (hc : ∀ j v, cs[j]? = some v → w.cell? (ad.add j) = some v) : (loadVar t ad).run P w = .ok (.agg cs.toArray) w := by
  simp [loadVar, run_isAgg ht, run_sizeOf' hs, run_loadCells_list w ad cs hc]
theorem Yv.load {ad : Addr} (ht : Agg P t false) (hx : val e X = some (.pointer (some ad))) (hc : ∀ w, S w → w.cell? ad = some v) : Yv P n e S ⟨dst, .load t X, ty, pos, af, g⟩ v := fun a ha w hw => by
  simp [execOp, ha.eval hx, Instr.loadAt, Instr.sureAddr, run_load1 ht (hc w hw)]
theorem Yv.loadn {ad : Addr} {cs : List Value} (ht : Agg P t true) (hs : Sz P t cs.length) (hx : val e X = some (.pointer (some ad))) (hc : ∀ w, S w → ∀ j v, cs[j]? = some v → w.cell? (ad.add j) = some v) : Yv P n e S ⟨dst, .load t X, ty, pos, af, g⟩ (.agg cs.toArray) := fun a ha w hw => by
  simp [execOp, ha.eval hx, Instr.loadAt, Instr.sureAddr, run_loadn ht hs (hc w hw)]

/-! ### Structs and arrays as values -/
def pvals (e : Env) : List (Nat × Operand) → Option (List (Nat × Value))
  | [] => some []
  | (i, x) :: xs => match val e x with
    | none => none
    | some v => match pvals e xs with
      | none => none
      | some vs => some ((i, v) :: vs)
theorem pvals_eval {a : Act} (h : Fits n e a) : ∀ {xs : List (Nat × Operand)} {vs : List (Nat × Value)}, pvals e xs = some vs → xs.map (fun p => (p.1, a.eval p.2)) = vs
  | [], vs, hv => by simp [pvals] at hv; simp [hv]
  | (i, x) :: xs, vs, hv => by
    unfold pvals at hv
    cases hx : val e x with
    | none => simp [hx] at hv
    | some v =>
      cases hxs : pvals e xs with
      | none => simp [hx, hxs] at hv
      | some us =>
        simp [hx, hxs] at hv
        subst hv
        simp [h.eval hx, pvals_eval h hxs]
/-- The places of a struct's fields (place, cells) and its zero cells; of an array's elements. -/
def StrT (P : Program) (t : TypeId) (places : List (Nat × Nat)) (zero : List Value) : Prop :=
  Zv P t (.agg zero.toArray) ∧ ∃ fs, P.underlying t = some (.struct fs) ∧ fs.toList.map (fun f => (f.offset, P.cellsOf f.type)) = places ∧ fs.all (fun f => (P.info? f.type).isSome) = true
def ArrT (P : Program) (t : TypeId) (sz : Nat) (zero : List Value) : Prop :=
  Zv P t (.agg zero.toArray) ∧ ∃ m el, P.underlying t = some (.array m el) ∧ Sz P el sz
theorem StrT.of {t : TypeId} {places : List (Nat × Nat)} {zero : List Value} (hz : Zv P t (.agg zero.toArray))
    (h : (match P.underlying t with | some (.struct fs) => decide (fs.toList.map (fun f => (f.offset, P.cellsOf f.type)) = places) && fs.all (fun f => (P.info? f.type).isSome) | _ => false) = true) : StrT P t places zero := by
  refine ⟨hz, ?_⟩
  split at h
  · rename_i fs hu
    rw [Bool.and_eq_true] at h
    exact ⟨fs, hu, of_decide_eq_true h.1, h.2⟩
  · cases h
theorem ArrT.of {t : TypeId} {sz : Nat} {zero : List Value} (hz : Zv P t (.agg zero.toArray))
    (h : (match P.underlying t with | some (.array _ el) => decide ((P.info? el).map (·.size) = some sz) | _ => false) = true) : ArrT P t sz zero := by
  refine ⟨hz, ?_⟩
  split at h
  · rename_i m el hu
    exact ⟨m, el, hu, by unfold Sz; exact of_decide_eq_true h⟩
  · cases h
theorem run_places (fs : List Field) (h : fs.all (fun f => (P.info? f.type).isSome) = true) : (fs.mapM fun f => (do pure (f.offset, ← sizeOf f.type) : Sem (Nat × Nat))).run P w = .ok (fs.map fun f => (f.offset, P.cellsOf f.type)) w := by
  induction fs with
  | nil => simp
  | cons f fs ih =>
    simp only [List.all_cons, Bool.and_eq_true] at h
    obtain ⟨i, hi⟩ := Option.isSome_iff_exists.1 h.1
    have := ih h.2
    have hsz : (sizeOf f.type).run P w = .ok (P.cellsOf f.type) w := run_sizeOf w hi
    rw [List.mapM_cons]
    simp only [Sem.run_bind, hsz, Result.andThen_ok, Sem.run_pure, this, List.map_cons]
theorem Yv.buildS {places : List (Nat × Nat)} {zero : List Value} {parts : List (Nat × Operand)} {ps : List (Nat × Value)} {cs : Array Value} (h : StrT P t places zero) (hp : pvals e parts = some ps)
    (hf : Instr.fill (fun i => places.toArray[i]?) zero.toArray ps = some cs) : Yv P n e S ⟨dst, .build t parts.toArray, ty, pos, af, g⟩ (.agg cs) := fun a ha w _ => by
  obtain ⟨hz, fs, hu, hpl, hall⟩ := h
  have hm : (fs.mapM fun f => (do pure (f.offset, ← sizeOf f.type) : Sem (Nat × Nat))).run P w = .ok places.toArray w := by
    rw [← hpl]
    have := run_places (P := P) (w := w) fs.toList (by simpa using hall)
    rw [Array.mapM_eq_mapM_toList, Sem.run_map, this]
    rfl
  have hps := pvals_eval ha hp
  have hps' : Array.map (fun x => (x.1, a.eval x.2)) parts.toArray = ps.toArray := by simp [hps]
  have hb : (Instr.build t ps.toArray).run P w = .ok (.agg cs) w := by
    unfold Instr.build
    rw [Sem.run_bind, run_zeroValue' hz, Result.andThen_ok, Sem.run_bind, run_underlying hu, Result.andThen_ok]
    simp only []
    rw [Sem.run_bind, hm, Result.andThen_ok]
    have hf' : Instr.fill (fun i => places[i]?) zero.toArray ps = some cs := by simpa using hf
    simp [hf', Value.cells]
  show ((do pure (.value (← Instr.build t (Array.map (fun x => (x.1, a.eval x.2)) parts.toArray))) : Sem Next)).run P w = _
  rw [hps', Sem.run_bind, hb]
  rfl
theorem Yv.buildA {sz : Nat} {zero : List Value} {parts : List (Nat × Operand)} {ps : List (Nat × Value)} {cs : Array Value} (h : ArrT P t sz zero) (hp : pvals e parts = some ps)
    (hf : Instr.fill (fun i => some (i * sz, sz)) zero.toArray ps = some cs) : Yv P n e S ⟨dst, .build t parts.toArray, ty, pos, af, g⟩ (.agg cs) := fun a ha w _ => by
  obtain ⟨hz, m, el, hu, hsz⟩ := h
  have hps := pvals_eval ha hp
  simp only [execOp, Instr.build, Sem.run_bind, run_zeroValue' hz, Result.andThen_ok, run_underlying hu, run_sizeOf' hsz]
  simp [hps, hf, Value.cells]
end
end Go.Proofs.Zed
