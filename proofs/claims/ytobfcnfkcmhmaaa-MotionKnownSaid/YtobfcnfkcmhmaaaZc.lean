/- What a function owns while it runs: blocks and rows of its own, told as a list beside the world it began in; what each operation on memory does to that list. No program in sight. -/
import Derived.Test.YtobfcnfkcmhmaaaZb
import Derived.Laws.CopyRow
import Derived.Maps.AppendAt
import Derived.Laws.MakeOwn
import Derived.Laws.OwnMore
import Derived.Deep.OwnRows
import Derived.Laws.IdiomCopy
set_option linter.unusedVariables false
set_option linter.unusedSimpArgs false
namespace Go.Proofs.Zed
open Go Go.RowKit

/-! ### Slices that are read -/
/-- The slice A, of m elements of sz cells each, reads as these cells. -/
structure Rd (w : World) (A : Option Addr) (m sz : Nat) (cs : List Value) : Prop where
  len : cs.length = m * sz
  big : m ≤ 9223372036854775807
  some_ : 0 < m → A.isSome = true
  cell : ∀ j v, cs[j]? = some v → w.cell? ((A.getD default).add j) = some v
theorem Rd.nil (w : World) (A : Option Addr) (sz : Nat) : Rd w A 0 sz [] := ⟨by simp, by omega, fun h => by omega, fun j v h => by simp at h⟩
theorem Rd.below {w w' : World} {A : Option Addr} {m sz : Nat} {cs : List Value} (h : Rd w A m sz cs) (hb : Below w.heap.size w w') : Rd w' A m sz cs :=
  ⟨h.len, h.big, h.some_, fun j v hj => (hb.cell (World.block_lt_of_cell? w _ (h.cell j v hj))).trans (h.cell j v hj)⟩

/-! ### What is owned -/
inductive Ent where
  | blk (b : Nat) (cs : List Value) (t : TypeId)
  | row (A : Option Addr) (m c : Nat) (cs : List Value) (t : TypeId) (sz : Nat)
def Ent.fp : Ent → Option Nat
  | .blk b _ _ => some b
  | .row A _ _ _ _ _ => A.map (·.block)
def Ent.ok (base : Nat) (w : World) : Ent → Prop
  | .blk b cs t => base ≤ b ∧ w.heap[b]? = some (.cells cs.toArray t (0, 0))
  | .row A m c cs t sz => w.ownsRow base t sz (.slice A m c) m cs
def Ent.off (x y : Ent) : Prop := x.fp = none ∨ x.fp ≠ y.fp
theorem Ent.off.symm {x y : Ent} (h : x.off y) : y.off x := by
  unfold Ent.off at *
  rcases h with h | h
  · rw [h]
    cases y.fp
    · exact .inl rfl
    · exact .inr (by simp)
  · exact .inr (Ne.symm h)
structure HS (w0 : World) (H : List Ent) (w : World) : Prop where
  below : Below w0.heap.size w0 w
  ok : ∀ (i : Nat) (x : Ent), H[i]? = some x → x.ok w0.heap.size w
  apart : ∀ (i j : Nat) (x y : Ent), H[i]? = some x → H[j]? = some y → i ≠ j → x.off y

theorem own_fp {w : World} {base sz m c : Nat} {t : TypeId} {A : Option Addr} {cs : List Value} (h : w.ownsRow base t sz (.slice A m c) m cs) {b : Nat} (hb : A.map (·.block) = some b) : base ≤ b ∧ b < w.heap.size := by
  refine h.lt b ?_
  cases A with
  | none => simp at hb
  | some a => simpa [Value.ownBlock] using hb
theorem Ent.ok.lt {base : Nat} {w : World} {x : Ent} (h : x.ok base w) {b : Nat} (hb : x.fp = some b) : base ≤ b ∧ b < w.heap.size := by
  cases x with
  | blk b' cs t =>
    injection hb with hb
    subst hb
    exact ⟨h.1, (Array.getElem?_eq_some_iff.1 h.2).1⟩
  | row A m c cs t sz => exact own_fp h hb
theorem own_keep {w w' : World} {base sz m c : Nat} {t : TypeId} {A : Option Addr} {cs : List Value} (h : w.ownsRow base t sz (.slice A m c) m cs) (hk : ∀ b, A.map (·.block) = some b → w'.heap[b]? = w.heap[b]?) :
    w'.ownsRow base t sz (.slice A m c) m cs := by
  obtain ⟨h1, h2⟩ := h
  refine ⟨h1, ?_⟩
  rcases h2 with h2 | ⟨g, cap, cur, hv, hg, hh, r⟩
  · exact .inl h2
  · refine .inr ⟨g, cap, cur, hv, hg, ?_, r⟩
    injection hv with hA _ _
    rw [hk g (by rw [hA]; rfl)]
    exact hh
theorem Ent.ok.keep {base : Nat} {w w' : World} {x : Ent} (h : x.ok base w) (hk : ∀ b, x.fp = some b → w'.heap[b]? = w.heap[b]?) : x.ok base w' := by
  cases x with
  | blk b cs t => exact ⟨h.1, by rw [hk b rfl]; exact h.2⟩
  | row A m c cs t sz => exact own_keep h hk

theorem HS.start (w : World) : HS w [] w := ⟨Below.refl _ _, fun i x h => by simp at h, fun i j x y h => by simp at h⟩
theorem HS.size {w0 w : World} {H : List Ent} (h : HS w0 H w) : w0.heap.size ≤ w.heap.size := h.below.size
theorem HS.grow {w0 w w' : World} {H : List Ent} (h : HS w0 H w) (hb : Below w.heap.size w w') : HS w0 H w' :=
  ⟨h.below.trans (hb.mono h.size), fun i x hi => (h.ok i x hi).keep fun b hx => hb.block b ((h.ok i x hi).lt hx).2, h.apart⟩
theorem HS.rd {w0 w : World} {H : List Ent} (h : HS w0 H w) {A : Option Addr} {m sz : Nat} {cs : List Value} (hr : Rd w0 A m sz cs) : Rd w A m sz cs := hr.below h.below
theorem HS.drew {w0 w : World} {H : List Ent} (h : HS w0 H w) : HS w0 H w.drew := h.grow (Below.refl _ _).drew
/-- What a call that began in w has left. -/
theorem HS.call {w0 w w' : World} {H H' : List Ent} (h : HS w0 H w) (k : HS w H' w') : HS w0 (H' ++ H) w' := by
  have hg := h.grow k.below
  have hw : ∀ x : Ent, x.ok w.heap.size w' → x.ok w0.heap.size w' := by
    intro x hx
    have hs := h.size
    cases x with
    | blk b cs t => exact ⟨Nat.le_trans hs hx.1, hx.2⟩
    | row A m c cs t sz =>
      obtain ⟨h1, h2⟩ := hx
      refine ⟨h1, ?_⟩
      rcases h2 with h2 | ⟨g, cap, cur, hv, hg, r⟩
      · exact .inl h2
      · exact .inr ⟨g, cap, cur, hv, Nat.le_trans hs hg, r⟩
  have hoff : ∀ (i j : Nat) (x y : Ent), H'[i]? = some x → H[j]? = some y → x.off y := by
    intro i j x y hx hy
    cases hfx : x.fp with
    | none => exact .inl hfx
    | some b =>
      refine .inr ?_
      rw [hfx]
      intro hb
      have h1 := ((k.ok i x hx).lt hfx).1
      have h2 := ((h.ok j y hy).lt hb.symm).2
      omega
  refine ⟨hg.below, fun i x hi => ?_, fun i j x y hi hj hne => ?_⟩
  · rcases Nat.lt_or_ge i H'.length with hl | hl
    · rw [List.getElem?_append_left hl] at hi
      exact hw x (k.ok i x hi)
    · rw [List.getElem?_append_right hl] at hi
      exact hg.ok _ x hi
  · rcases Nat.lt_or_ge i H'.length with hl | hl <;> rcases Nat.lt_or_ge j H'.length with hm | hm
    · rw [List.getElem?_append_left hl] at hi
      rw [List.getElem?_append_left hm] at hj
      exact k.apart i j x y hi hj hne
    · rw [List.getElem?_append_left hl] at hi
      rw [List.getElem?_append_right hm] at hj
      exact hoff _ _ x y hi hj
    · rw [List.getElem?_append_right hl] at hi
      rw [List.getElem?_append_left hm] at hj
      exact (hoff _ _ y x hj hi).symm
    · rw [List.getElem?_append_right hl] at hi
      rw [List.getElem?_append_right hm] at hj
      exact h.apart _ _ x y hi hj (by omega)
/-- Some of the entries, in another order. -/
theorem HS.pick {w0 w : World} {H : List Ent} (h : HS w0 H w) (is : List Nat) (H' : List Ent) (hn : is.Nodup) (hp : is.map (H[·]?) = H'.map some) : HS w0 H' w := by
  have key : ∀ (k : Nat) (x : Ent), H'[k]? = some x → ∃ i : Nat, is[k]? = some i ∧ H[i]? = some x := by
    intro k x hk
    have h1 : (H'.map some)[k]? = some (some x) := by rw [List.getElem?_map, hk]; rfl
    rw [← hp, List.getElem?_map] at h1
    obtain ⟨i, hi, hx⟩ := Option.map_eq_some_iff.1 h1
    exact ⟨i, hi, hx⟩
  refine ⟨h.below, fun k x hk => ?_, fun k l x y hk hl hne => ?_⟩
  · obtain ⟨i, _, hx⟩ := key k x hk
    exact h.ok i x hx
  · obtain ⟨i, hi, hx⟩ := key k x hk
    obtain ⟨j, hj, hy⟩ := key l y hl
    refine h.apart i j x y hx hy ?_
    rintro rfl
    have h1 := List.getElem?_eq_some_iff.1 hi
    have h2 := List.getElem?_eq_some_iff.1 hj
    obtain ⟨a1, b1⟩ := h1
    obtain ⟨a2, b2⟩ := h2
    rcases Nat.lt_trichotomy k l with hkl | hkl | hkl
    · exact (List.pairwise_iff_getElem.1 hn k l a1 a2 hkl) (b1.trans b2.symm)
    · exact hne hkl
    · exact (List.pairwise_iff_getElem.1 hn l k a2 a1 hkl) (b2.trans b1.symm)
/-- A new block. -/
theorem HS.alloc {w0 w : World} {H : List Ent} (h : HS w0 H w) (cs : List Value) (t : TypeId) : HS w0 (.blk w.heap.size cs t :: H) (w.alloc (.cells cs.toArray t)) := by
  have k : HS w [.blk w.heap.size cs t] (w.alloc (.cells cs.toArray t)) := by
    refine ⟨(Below.refl _ _).alloc (Nat.le_refl _) _, fun i x hi => ?_, fun i j x y hi hj hne => ?_⟩
    · cases i with
      | zero =>
        simp at hi
        subst hi
        exact ⟨Nat.le_refl _, by simpa using heap_alloc_new w _⟩
      | succ i => simp at hi
    · have := (List.getElem?_eq_some_iff.1 hi).1
      have := (List.getElem?_eq_some_iff.1 hj).1
      simp at *
      omega
  exact h.call k
/-- A new row, made with all its cells. -/
theorem HS.newRow {w0 w : World} {H : List Ent} (h : HS w0 H w) (cs : List Value) (t : TypeId) (m sz : Nat) (hl : cs.length = m * sz) (hm : m ≤ 9223372036854775807) : HS w0 (.row (some ⟨w.heap.size, 0, none⟩) m m cs t sz :: H) (w.alloc (.cells cs.toArray t)) := by
  have k : HS w [.row (some ⟨w.heap.size, 0, none⟩) m m cs t sz] (w.alloc (.cells cs.toArray t)) := by
    refine ⟨(Below.refl _ _).alloc (Nat.le_refl _) _, fun i x hi => ?_, fun i j x y hi hj hne => ?_⟩
    · cases i with
      | zero =>
        simp at hi
        subst hi
        refine ⟨hl, .inr ⟨w.heap.size, m, cs.toArray, rfl, Nat.le_refl _, by simpa using heap_alloc_new w _, Nat.le_refl _, by simpa [maxLen] using hm, by simpa using hl, ?_⟩⟩
        simp [← hl]
      | succ i => simp at hi
    · have := (List.getElem?_eq_some_iff.1 hi).1
      have := (List.getElem?_eq_some_iff.1 hj).1
      simp at *
      omega
  exact h.call k
/-- A nil slice is a row of one's own. -/
theorem HS.nilRow {w0 w : World} {H : List Ent} (h : HS w0 H w) (t : TypeId) (sz : Nat) : HS w0 (.row none 0 0 [] t sz :: H) w := by
  refine ⟨h.below, fun i x hi => ?_, fun i j x y hi hj hne => ?_⟩
  · cases i with
    | zero => simp at hi; subst hi; exact ⟨by simp, .inl ⟨rfl, rfl⟩⟩
    | succ i => exact h.ok i x (by simpa using hi)
  · cases i with
    | zero => simp at hi; subst hi; exact .inl rfl
    | succ i =>
      cases j with
      | zero => simp at hj; subst hj; exact Ent.off.symm (.inl rfl)
      | succ j => exact h.apart i j x y (by simpa using hi) (by simpa using hj) (by omega)

theorem HS.cell {w0 w : World} {H : List Ent} (h : HS w0 H w) (i : Nat) {b : Nat} {cs : List Value} {t : TypeId} (hi : H[i]? = some (.blk b cs t)) (j : Nat) {v : Value} (hj : cs[j]? = some v) : w.cell? ⟨b, j, none⟩ = some v := by
  have := (h.ok i _ hi).2
  simp [World.cell?, this, hj]
theorem HS.cells {w0 w : World} {H : List Ent} (h : HS w0 H w) (i : Nat) {b : Nat} {cs : List Value} {t : TypeId} (hi : H[i]? = some (.blk b cs t)) (o k : Nat) : ∀ j v, ((cs.drop o).take k)[j]? = some v → w.cell? ((⟨b, o, none⟩ : Addr).add j) = some v := by
  intro j v hj
  rw [add_blk]
  refine h.cell i hi (o + j) ?_
  rw [List.getElem?_take] at hj
  split at hj
  · rwa [List.getElem?_drop] at hj
  · cases hj
theorem own_rd {w : World} {base sz m c : Nat} {t : TypeId} {A : Option Addr} {cs : List Value} (h : w.ownsRow base t sz (.slice A m c) m cs) : Rd w A m sz cs := by
  refine ⟨h.1, ?_, fun hm => ?_, fun j v hj => ?_⟩
  · rcases h.2 with ⟨_, h0⟩ | ⟨g, cap, cur, hv, _, _, hle, hmax, _⟩
    · omega
    · simp only [maxLen] at hmax; omega
  · rcases h.2 with ⟨_, h0⟩ | ⟨g, cap, cur, hv, _⟩
    · omega
    · injection hv with hA _ _; rw [hA]; rfl
  · rcases h.2 with ⟨_, h0⟩ | ⟨g, cap, cur, hv, _⟩
    · have := h.1
      subst h0
      simp at this
      subst this
      simp at hj
    · injection hv with hA _ _
      subst hA
      exact h.cells (g := g) rfl j v hj
theorem HS.rdRow {w0 w : World} {H : List Ent} (h : HS w0 H w) (i : Nat) {A : Option Addr} {m c sz : Nat} {cs : List Value} {t : TypeId} (hi : H[i]? = some (.row A m c cs t sz)) : Rd w A m sz cs := own_rd (h.ok i _ hi)

/-! ### Stores -/
/-- vs laid over cs from o on. -/
def put (cs : List Value) (o : Nat) (vs : List Value) : List Value := cs.take o ++ vs ++ cs.drop (o + vs.length)
theorem put_length {cs vs : List Value} {o : Nat} (h : o + vs.length ≤ cs.length) : (put cs o vs).length = cs.length := by
  unfold put
  simp only [List.length_append, List.length_take, List.length_drop]
  omega
theorem put_one {cs : List Value} {o : Nat} {v : Value} (h : o < cs.length) : put cs o [v] = cs.set o v := by
  unfold put
  rw [List.set_eq_take_append_cons_drop, if_pos h]
  simp
theorem HS.setEnt {w0 w w' : World} {H : List Ent} (h : HS w0 H w) (i : Nat) {x y : Ent} (hi : H[i]? = some x) {b : Nat} (hx : x.fp = some b) (hy : y.fp = some b) (hok : y.ok w0.heap.size w')
    (hos : w'.os = w.os) (htape : w'.tape = w.tape) (hout : w'.output = w.output) (hsz : w'.heap.size = w.heap.size) (hkeep : ∀ k, k ≠ b → w'.heap[k]? = w.heap[k]?) : HS w0 (H.set i y) w' := by
  have hb := (h.ok i x hi).lt hx
  have hil := (List.getElem?_eq_some_iff.1 hi).1
  refine ⟨h.below.trans ⟨hos, htape, hout, by omega, fun k hk => hkeep k (by omega)⟩, fun j z hj => ?_, fun j k z u hj hk hne => ?_⟩
  · rcases Nat.decEq j i with hne | rfl
    · rw [List.getElem?_set_ne (fun e => hne e.symm)] at hj
      refine (h.ok j z hj).keep fun c hc => hkeep c ?_
      rintro rfl
      rcases h.apart i j x z hi hj (fun e => hne e.symm) with h1 | h1
      · rw [hx] at h1; cases h1
      · exact h1 (hx.trans hc.symm)
    · rw [List.getElem?_set_self hil] at hj
      injection hj with hj
      subst hj
      exact hok
  · have hfp : ∀ (j : Nat) (z : Ent), (H.set i y)[j]? = some z → ∃ z', H[j]? = some z' ∧ z'.fp = z.fp := by
      intro j z hj
      rcases Nat.decEq j i with hne | rfl
      · rw [List.getElem?_set_ne (fun e => hne e.symm)] at hj
        exact ⟨z, hj, rfl⟩
      · rw [List.getElem?_set_self hil] at hj
        injection hj with hj
        subst hj
        exact ⟨x, hi, hx.trans hy.symm⟩
    obtain ⟨z', h1, h2⟩ := hfp j z hj
    obtain ⟨u', h3, h4⟩ := hfp k u hk
    have := h.apart j k z' u' h1 h3 hne
    unfold Ent.off at *
    rwa [h2, h4] at this
theorem setRow_facts (w : World) (g : Nat) (cs : Array Value) (cur : Array Value) (t : TypeId) (h : w.heap[g]? = some (.cells cur t (0, 0))) :
    (w.setRow g cs).heap[g]? = some (.cells cs t (0, 0)) ∧ (w.setRow g cs).heap.size = w.heap.size ∧ (∀ k, k ≠ g → (w.setRow g cs).heap[k]? = w.heap[k]?) ∧ (w.setRow g cs).os = w.os ∧ (w.setRow g cs).tape = w.tape ∧ (w.setRow g cs).output = w.output := by
  refine ⟨?_, ?_, ?_, rfl, rfl, rfl⟩
  · simp [World.setRow, Array.getElem?_modify, h]
  · simp [World.setRow]
  · intro k hk
    simp [World.setRow, Array.getElem?_modify, Ne.symm hk]
/-- Cells stored into a block of one's own. -/
theorem HS.storeBlk {P : Program} {w0 w : World} {H : List Ent} (h : HS w0 H w) (i : Nat) {b : Nat} {cs : List Value} {t : TypeId} (hi : H[i]? = some (.blk b cs t)) (o : Nat) (vs : List Value) (ho : o + vs.length ≤ cs.length) (h1 : ∀ v ∈ vs, v.oneCell' = true) :
    ∃ w', (storeCells ⟨b, o, none⟩ vs).run P w = .ok () w' ∧ HS w0 (H.set i (.blk b (put cs o vs) t)) w' := by
  have hb := h.ok i _ hi
  have hr := run_storeCells_at (P := P) b o t vs 0 cs.toArray w hb.2 (by simpa using ho) h1
  obtain ⟨f1, f2, f3, f4, f5, f6⟩ := setRow_facts w b (put cs o vs).toArray cs.toArray t hb.2
  refine ⟨_, hr, ?_⟩
  have he : ((cs.toArray.toList.take (o + 0) ++ vs ++ cs.toArray.toList.drop (o + 0 + vs.length)).toArray) = (put cs o vs).toArray := by simp [put]
  rw [he]
  exact h.setEnt i hi (b := b) rfl rfl ⟨hb.1, f1⟩ f4 f5 f6 f2 f3
/-- Cells stored into a row of one's own. -/
theorem HS.storeRow {P : Program} {w0 w : World} {H : List Ent} (h : HS w0 H w) (i : Nat) {A : Option Addr} {m c sz : Nat} {cs : List Value} {t : TypeId} (hi : H[i]? = some (.row A m c cs t sz)) (o : Nat) (vs : List Value) (ho : o + vs.length ≤ cs.length) (h0 : 0 < vs.length) (h1 : ∀ v ∈ vs, v.oneCell' = true) :
    ∃ w', (storeCells ((A.getD default).add o) vs).run P w = .ok () w' ∧ HS w0 (H.set i (.row A m c (put cs o vs) t sz)) w' := by
  obtain ⟨hl, h2⟩ := (h.ok i _ hi : w.ownsRow _ _ _ _ _ _)
  rcases h2 with ⟨_, hm⟩ | ⟨g, cap, cur, hv, hg, hh, hmc, hcap, hsz, htk⟩
  · subst hm
    have : cs.length = 0 := by simpa using hl
    omega
  · injection hv with hA hm hc
    subst hA hc
    have hlen : m * sz ≤ cur.size := by rw [hsz]; exact Nat.mul_le_mul_right _ hmc
    have ho' : o + 0 + vs.length ≤ cur.size := by omega
    have hr := run_storeCells_at (P := P) g o t vs 0 cur w hh ho' h1
    obtain ⟨f1, f2, f3, f4, f5, f6⟩ := setRow_facts w g (put cur.toList o vs).toArray cur t hh
    have he : ((cur.toList.take (o + 0) ++ vs ++ cur.toList.drop (o + 0 + vs.length)).toArray) = (put cur.toList o vs).toArray := by simp [put]
    rw [he] at hr
    have ha : ((some (⟨g, 0, none⟩ : Addr)).getD default).add o = ⟨g, o, none⟩ := by simp [add_blk]
    rw [ha]
    refine ⟨_, hr, ?_⟩
    have hpl : (put cur.toList o vs).length = cur.size := by rw [put_length (by simpa using ho')]; simp
    have hpc : (put cs o vs).length = m * sz := by rw [put_length ho, hl]
    have htake : (put cur.toList o vs).take (m * sz) = put cs o vs := by
      unfold put
      rw [← htk]
      rw [List.take_append, List.take_append]
      simp only [List.length_append, List.length_take, Array.length_toList, List.take_take, List.drop_take]
      have e1 : min (m * sz) o = o := by omega
      have e2 : min o (m * sz) = o := by omega
      have e3 : min o cur.size = o := by omega
      rw [e1, e2, e3]
      have e4 : List.take (m * sz - o) vs = vs := List.take_of_length_le (by omega)
      rw [e4]
    refine HS.setEnt h i hi (b := g) rfl rfl ?_ f4 f5 f6 f2 f3
    exact ⟨hpc, .inr ⟨g, c, _, rfl, hg, f1, hmc, hcap, by simpa [hpl] using hsz, by simpa using htake⟩⟩

section
variable {P : Program} {n : Nat} {Q : Post} {e : Env} {w w0 : World} {ops : Array Oper} {d : Nat} {ty t : TypeId} {pos : String} {af : Array Edge} {rest : List Oper} {g : Option (Nat × Bool)} {X Y : Operand} {v : Value} {H : List Ent} {cs : List Value} {K : Env → World → Prop}

/-- A variable in memory, of a value. -/
theorem Step.box (hs : HS w0 H w) (hx : val e X = some v) (hcs : v.cells.toList = cs) (h : ∀ b w', HS w0 (.blk b cs t :: H) w' → Below w.heap.size w w' → K ((d, .pointer (some ⟨b, 0, none⟩)) :: e) w') (hg : Wants ops e g := by exact True.intro) (hn : Nat.blt d n = true := by rfl) :
    Step P n ops Q ⟨some d, .box t X, ty, pos, af, g⟩ K e w := by
  refine Step.m (v := .pointer (some ⟨w.heap.size, 0, none⟩)) (w' := w.alloc (.cells cs.toArray t)) (fun a ha => ?_) (h _ _ (hs.alloc cs t) ((Below.refl _ _).alloc (Nat.le_refl _) _)) hg hn
  subst hcs
  simp [execOp, ha.eval hx, Instr.box, newVar, newRow]
theorem Step.alloc {z : Value} (hs : HS w0 H w) (hz : Zv P t z) (hcs : z.cells.toList = cs) (h : ∀ b w', HS w0 (.blk b cs t :: H) w' → Below w.heap.size w w' → K ((d, .pointer (some ⟨b, 0, none⟩)) :: e) w') (hg : Wants ops e g := by exact True.intro) (hn : Nat.blt d n = true := by rfl) :
    Step P n ops Q ⟨some d, .alloc t, ty, pos, af, g⟩ K e w := by
  refine Step.m (v := .pointer (some ⟨w.heap.size, 0, none⟩)) (w' := w.alloc (.cells cs.toArray t)) (fun a ha => ?_) (h _ _ (hs.alloc cs t) ((Below.refl _ _).alloc (Nat.le_refl _) _)) hg hn
  subst hcs
  simp [execOp, Instr.alloc, newVar, newRow, run_zeroValue' hz]
theorem exec_store {a : Act} {ad : Addr} {o : Oper} {w' : World} (ho : o.op = .store t X Y) (hX : a.eval X = .pointer (some ad)) (hY : a.eval Y = v) (hsz : Sz P t v.cells.size) (hr : (storeCells ad v.cells.toList).run P w = .ok () w') :
    (execOp a.eval o).run P w = .ok .skip w' := by
  have hss := run_sizeOf' (w := w) hsz
  simp [execOp, ho, hX, hY, Instr.storeAt, Instr.sureAddr, storeVar, hss, hr]
/-- A store into a variable of one's own. -/
theorem Step.store (i : Nat) {b o : Nat} {t' : TypeId} {vs : List Value} (hs : HS w0 H w) (hX : val e X = some (.pointer (some ⟨b, o, none⟩))) (hY : val e Y = some v) (hv : v.cells.toList = vs) (hi : H[i]? = some (.blk b cs t')) (hsz : Sz P t vs.length)
    (ho : o + vs.length ≤ cs.length) (h1 : vs.all (·.oneCell') = true) (h : ∀ w', HS w0 (H.set i (.blk b (put cs o vs) t')) w' → K e w') (hg : Wants ops e g := by exact True.intro) :
    Step P n ops Q ⟨none, .store t X Y, ty, pos, af, g⟩ K e w := by
  subst hv
  obtain ⟨w', hr, hs'⟩ := hs.storeBlk (P := P) i hi o v.cells.toList ho (fun u hu => List.all_eq_true.1 h1 u hu)
  exact Step.m0 (fun a ha => exec_store rfl (ha.eval hX) (ha.eval hY) (by simpa using hsz) hr) (h w' hs') hg
/-- A store into a row of one's own. -/
theorem Step.storeRow (i : Nat) {A : Option Addr} {m c sz o : Nat} {t' : TypeId} {vs : List Value} (hs : HS w0 H w) (hX : val e X = some (.pointer (some ((A.getD default).add o)))) (hY : val e Y = some v) (hv : v.cells.toList = vs) (hi : H[i]? = some (.row A m c cs t' sz)) (hsz : Sz P t vs.length)
    (ho : o + vs.length ≤ cs.length) (h0 : 0 < vs.length) (h1 : vs.all (·.oneCell') = true) (h : ∀ w', HS w0 (H.set i (.row A m c (put cs o vs) t' sz)) w' → K e w') (hg : Wants ops e g := by exact True.intro) :
    Step P n ops Q ⟨none, .store t X Y, ty, pos, af, g⟩ K e w := by
  subst hv
  obtain ⟨w', hr, hs'⟩ := hs.storeRow (P := P) i hi o v.cells.toList ho h0 (fun u hu => List.all_eq_true.1 h1 u hu)
  exact Step.m0 (fun a ha => exec_store rfl (ha.eval hX) (ha.eval hY) (by simpa using hsz) hr) (h w' hs') hg

/-- make([]T, n), T of one cell. -/
theorem Step.make {el bts : Nat} {z : Value} {x : Int} (hs : HS w0 H w) (ht : slcInfo P t = some (el, 1, bts)) (hz : Zv P el z) (hz1 : z.cells = #[z]) (hx : val e X = some (.int .i64 x)) (h0 : 0 ≤ x) (hb : (bts : Int) * x ≤ 281474976710656) (hm : x ≤ 9223372036854775807)
    (h : ∀ b w', HS w0 (.row (some ⟨b, 0, none⟩) x.toNat x.toNat (List.replicate x.toNat z) el 1 :: H) w' → Below w.heap.size w w' → K ((d, .slice (some ⟨b, 0, none⟩) x.toNat x.toNat) :: e) w') (hg : Wants ops e g := by exact True.intro) (hn : Nat.blt d n = true := by rfl) :
    Step P n ops Q ⟨some d, .makeSlice t X X, ty, pos, af, g⟩ K e w := by
  obtain ⟨m, rfl⟩ := Int.eq_ofNat_of_zero_le h0
  simp only [Int.toNat_natCast] at h
  have hu : P.underlying t = some (.slice el) ∧ (P.info? el).map (fun i => (i.zero, i.size, i.bytes)) = some (some z, 1, bts) := by
    unfold slcInfo at ht
    split at ht
    · rename_i e' hu
      split at ht
      · rename_i i hi
        injection ht with ht
        injection ht with h2 h3
        injection h3 with h3 h4
        subst h2
        refine ⟨hu, ?_⟩
        unfold Zv at hz
        rw [hi] at hz ⊢
        simp at hz
        simp [hz, h3, h4]
      · cases ht
    · cases ht
  have hbn : bts * m ≤ 281474976710656 := by
    have h2 : ((bts * m : Nat) : Int) ≤ 281474976710656 := by simpa using hb
    omega
  have hr := run_make_row' (P := P) t el z bts hu.1 hu.2 hz1 .i64 .i64 m hbn (by omega) w
  have hmc : madeCells #[z] m = (List.replicate m z).toArray := by
    apply Array.ext
    · simp [size_madeCells]
    · intro i h1 h2
      simp [madeCells, Nat.mod_one]
  rw [hmc] at hr
  refine Step.m (v := .slice (some ⟨w.heap.size, 0, none⟩) m m) (w' := w.alloc (.cells (List.replicate m z).toArray el)) (fun a ha => ?_) (h _ _ (hs.newRow (List.replicate m z) el m 1 (by simp) (by omega)) ((Below.refl _ _).alloc (Nat.le_refl _) _)) hg hn
  simp [execOp, ha.eval hx, hr]
/-- A slice's literal, its cells written out. -/
theorem Step.lit {el sz bts len : Nat} {z : List Value} {parts : List (Nat × Operand)} {ps : List (Nat × Value)} (hs : HS w0 H w) (ht : slcInfo P t = some (el, sz, bts)) (hz : ∃ zv, Zv P el zv ∧ zv.cells.toList = z) (hp : pvals e parts = some ps) (hsz : len * sz ≤ 16777216) (hlen : len ≤ 9223372036854775807)
    (hf : Instr.fill (fun i => some (i * sz, sz)) ((Array.range (len * sz)).map (z.toArray[· % z.toArray.size]!)) ps = some cs.toArray) (hcs : cs.length = len * sz) (h0 : len * sz ≠ 0)
    (h : ∀ b w', HS w0 (.row (some ⟨b, 0, none⟩) len len cs el sz :: H) w' → Below w.heap.size w w' → K ((d, .slice (some ⟨b, 0, none⟩) len len) :: e) w') (hg : Wants ops e g := by exact True.intro) (hn : Nat.blt d n = true := by rfl) :
    Step P n ops Q ⟨some d, .buildSlice t len parts.toArray, ty, pos, af, g⟩ K e w := by
  obtain ⟨zv, hzv, hzc⟩ := hz
  have hu : P.underlying t = some (.slice el) ∧ Sz P el sz := by
    unfold slcInfo at ht
    split at ht
    · rename_i e' hu
      split at ht
      · rename_i i hi
        injection ht with ht
        injection ht with h2 h3
        injection h3 with h3 h4
        subst h2
        exact ⟨hu, by unfold Sz; rw [hi]; simp [h3]⟩
      · cases ht
    · cases ht
  have hzc' : zv.cells = z.toArray := by rw [← hzc]
  refine Step.m (v := .slice (some ⟨w.heap.size, 0, none⟩) len len) (w' := w.alloc (.cells cs.toArray el)) (fun a ha => ?_) (h _ _ (hs.newRow cs el len sz hcs hlen) ((Below.refl _ _).alloc (Nat.le_refl _) _)) hg hn
  have hps := pvals_eval ha hp
  have hps' : Array.map (fun x => (x.1, a.eval x.2)) parts.toArray = ps.toArray := by simp [hps]
  have hsz' : ¬ 2 ^ 24 < len * sz := by omega
  have hb : (Instr.buildSlice t len ps.toArray).run P w = .ok (.slice (some ⟨w.heap.size, 0, none⟩) len len) (w.alloc (.cells cs.toArray el)) := by
    unfold Instr.buildSlice
    rw [Sem.run_bind, run_underlying hu.1, Result.andThen_ok]
    simp only []
    rw [Sem.run_bind, run_sizeOf' hu.2, Result.andThen_ok]
    simp only [gt_iff_lt, hsz', if_false, h0]
    simp only [Sem.run_bind, run_zeroValue' hzv, Result.andThen_ok, Sem.run_pure, hzc', hf]
    simp [newRow]
  show ((do pure (.value (← Instr.buildSlice t len (Array.map (fun x => (x.1, a.eval x.2)) parts.toArray))) : Sem Next)).run P w = _
  rw [hps', Sem.run_bind, hb]
  rfl
/-- []T{}. -/
theorem Step.lit0 {el sz bts : Nat} (hs : HS w0 H w) (ht : slcInfo P t = some (el, sz, bts)) 
    (h : ∀ b w', HS w0 (.row (some ⟨b, 0, none⟩) 0 0 [] el sz :: H) w' → Below w.heap.size w w' → K ((d, .slice (some ⟨b, 0, none⟩) 0 0) :: e) w') (hg : Wants ops e g := by exact True.intro) (hn : Nat.blt d n = true := by rfl) :
    Step P n ops Q ⟨some d, .buildSlice t 0 #[], ty, pos, af, g⟩ K e w := by
  have hu : P.underlying t = some (.slice el) ∧ Sz P el sz := by
    unfold slcInfo at ht
    split at ht
    · rename_i e' hu
      split at ht
      · rename_i i hi
        injection ht with ht
        injection ht with h2 h3
        injection h3 with h3 h4
        subst h2
        exact ⟨hu, by unfold Sz; rw [hi]; simp [h3]⟩
      · cases ht
    · cases ht
  refine Step.m (v := .slice (some ⟨w.heap.size, 0, none⟩) 0 0) (w' := w.alloc (.cells #[] el)) (fun a ha => ?_) (h _ _ (hs.newRow [] el 0 sz (by simp) (by omega)) ((Below.refl _ _).alloc (Nat.le_refl _) _)) hg hn
  have hsu := run_sizeOf' (w := w) hu.2
  have hr0 : Array.map (fun x : Nat => (default : Value)) (Array.range 0) = #[] := Array.eq_empty_of_size_eq_zero (by simp)
  simp [execOp, Instr.buildSlice, run_underlying hu.1, hsu, Instr.fill, newRow, hr0]

/-- append, onto a row of one's own, of whatever can be read. -/
theorem HS.append {el sz bts m m2 c c2 : Nat} {A A2 : Option Addr} {cs2 : List Value} {z : Value} (hs : HS w0 H w) (i : Nat) (ht : slcInfo P t = some (el, sz, bts)) (hz : Zv P el z) (hzs : z.cells.size = sz) (hsz : 0 < sz) (hi : H[i]? = some (.row A m c cs el sz)) (hr : Rd w A2 m2 sz cs2)
    (h1 : ∀ u ∈ cs2, u.oneCell' = true) (hm : m + m2 ≤ 9223372036854775807) (hb : (m + m2) * bts ≤ 140737488355328) :
    ∃ A' c' w', (Builtin.append_ #[t, t] ty #[.slice A m c, .slice A2 m2 c2]).run P w = .ok (.slice A' (m + m2) c') w' ∧ HS w0 (H.set i (.row A' (m + m2) c' (cs ++ cs2) el sz)) w' := by
  obtain ⟨iI, hiI, hu, hI1, hI2, hI3⟩ : ∃ iI, P.info? el = some iI ∧ P.underlying t = some (.slice el) ∧ iI.size = sz ∧ iI.bytes = bts ∧ iI.zero = some z := by
    unfold slcInfo at ht
    split at ht
    · rename_i e' hu
      split at ht
      · rename_i iI hiI
        injection ht with ht
        injection ht with h2 h3
        injection h3 with h3 h4
        subst h2
        unfold Zv at hz
        rw [hiI] at hz
        exact ⟨iI, hiI, hu, h3, h4, by simpa using hz⟩
      · cases ht
    · cases ht
  have hown : w.ownsRow w0.heap.size el sz (.slice A m c) m cs := hs.ok i _ hi
  have hil := (List.getElem?_eq_some_iff.1 hi).1
  -- what the law of the library leaves
  have fin : ∀ v' w', w'.ownsRow w0.heap.size el sz v' (m + m2) (cs ++ cs2) → w.grownBy w' (Value.slice A m c).ownBlock → (v'.ownBlock = (Value.slice A m c).ownBlock ∨ v'.ownBlock = some w.heap.size) →
      ∃ A' c', v' = .slice A' (m + m2) c' ∧ HS w0 (H.set i (.row A' (m + m2) c' (cs ++ cs2) el sz)) w' := by
    intro v' w' ho hg hat
    obtain ⟨A', c', rfl⟩ : ∃ A' c', v' = .slice A' (m + m2) c' := by
      rcases ho.2 with ⟨hv, h0⟩ | ⟨g', cap, cur, hv, _⟩
      · rw [h0]; exact ⟨none, 0, hv⟩
      · exact ⟨_, cap, hv⟩
    refine ⟨A', c', rfl, ?_⟩
    have hob : ∀ (B : Option Addr) (m c : Nat), (Value.slice B m c).ownBlock = B.map (·.block) := by intro B m c; cases B <;> rfl
    rw [hob] at hg
    rw [hob, hob] at hat
    have hbl : ∀ k, A.map (·.block) = some k → w0.heap.size ≤ k ∧ k < w.heap.size := fun k hk => own_fp hown hk
    refine ⟨hs.below.grown hg hs.size (fun k hk => (hbl k hk).1), fun j x hj => ?_, fun j k x y hj hk hne => ?_⟩
    · rcases Nat.decEq j i with hne | rfl
      · rw [List.getElem?_set_ne (fun e => hne e.symm)] at hj
        refine (hs.ok j x hj).keep fun b hb => hg.block b ((hs.ok j x hj).lt hb).2 ?_
        intro hbA
        rcases hs.apart i j _ x hi hj (fun e => hne e.symm) with h2 | h2
        · rw [show Ent.fp (.row A m c cs el sz) = A.map (·.block) from rfl] at h2
          rw [h2] at hbA
          cases hbA
        · exact h2 (hbA.symm.trans hb.symm)
      · rw [List.getElem?_set_self hil] at hj
        injection hj with hj
        subst hj
        exact ho
    · have key : ∀ (k : Nat) (y : Ent), k ≠ i → H[k]? = some y → Ent.off (.row A' (m + m2) c' (cs ++ cs2) el sz) y := by
        intro k y hki hy
        show A'.map (·.block) = none ∨ A'.map (·.block) ≠ y.fp
        rcases hat with h2 | h2
        · rw [h2]
          exact hs.apart i k _ y hi hy (fun e => hki e.symm)
        · rw [h2]
          refine .inr fun he => ?_
          have := ((hs.ok k y hy).lt he.symm).2
          omega
      rcases Nat.decEq j i with hji | rfl
      · rw [List.getElem?_set_ne (fun e => hji e.symm)] at hj
        rcases Nat.decEq k i with hki | rfl
        · rw [List.getElem?_set_ne (fun e => hki e.symm)] at hk
          exact hs.apart j k x y hj hk hne
        · rw [List.getElem?_set_self hil] at hk
          injection hk with hk
          subst hk
          exact (key j x hji hj).symm
      · rw [List.getElem?_set_self hil] at hj
        injection hj with hj
        subst hj
        rw [List.getElem?_set_ne hne] at hk
        exact key k y (fun e => hne e.symm) hk
  cases A2 with
  | some a2 =>
    obtain ⟨v', w', hrun, ho, hg, _, hat⟩ := run_append_own_at (P := P) w w0.heap.size t ty el iI z sz bts hu hiI hI3 hI1 hI2 hzs hsz (.slice A m c) m cs hown a2 m2 c2 cs2 hr.len (fun j u hj => hr.cell j u hj) h1 (by simpa [maxLen] using hm) hb hs.size
    obtain ⟨A', c', rfl, hs'⟩ := fin v' w' ho hg hat
    exact ⟨A', c', w', hrun, hs'⟩
  | none =>
    have h0 : m2 = 0 := by
      rcases Nat.eq_zero_or_pos m2 with h | h
      · exact h
      · have := hr.some_ h; cases this
    subst h0
    have hnil : cs2 = [] := List.eq_nil_of_length_eq_zero (by simpa using hr.len)
    subst hnil
    refine ⟨A, c, w, ?_, ?_⟩
    · rcases hown.2 with ⟨hv, hn0⟩ | ⟨g', cap, cur, hv, _, _, hnc, _⟩
      · injection hv with hA hm0 hc0
        subst hA hn0 hc0
        simp [Builtin.append_, run_underlying hu, sizeOf, typeInfo, hiI, Builtin.lenOf, Builtin.firstCells]
      · injection hv with hA hm0 hc0
        subst hA hc0
        simp [Builtin.append_, run_underlying hu, sizeOf, typeInfo, hiI, Builtin.lenOf, Builtin.firstCells, hnc, storeCells]
    · have : H.set i (.row A (m + 0) c (cs ++ []) el sz) = H := by
        rw [Nat.add_zero, List.append_nil]
        apply List.ext_getElem?
        intro j
        rcases Nat.decEq j i with hne | rfl
        · rw [List.getElem?_set_ne (fun e => hne e.symm)]
        · rw [List.getElem?_set_self hil, hi]
      rw [this]
      exact hs
theorem Step.append {el sz bts m m2 c c2 : Nat} {A A2 : Option Addr} {cs2 : List Value} {z : Value} (i : Nat) (hs : HS w0 H w) (hx : val e X = some (.slice A m c)) (hy : val e Y = some (.slice A2 m2 c2)) (ht : slcInfo P t = some (el, sz, bts)) (hz : Zv P el z) (hzs : z.cells.size = sz) (hsz : 0 < sz)
    (hi : H[i]? = some (.row A m c cs el sz)) (hr : Rd w A2 m2 sz cs2) (h1 : cs2.all (·.oneCell') = true) (hb : (m + m2) * bts ≤ 140737488355328) (hb0 : 0 < bts)
    (h : ∀ A' c' w', HS w0 (H.set i (.row A' (m + m2) c' (cs ++ cs2) el sz)) w' → K ((d, .slice A' (m + m2) c') :: e) w') (hg : Wants ops e g := by exact True.intro) (hn : Nat.blt d n = true := by rfl) :
    Step P n ops Q ⟨some d, .call { callee := .builtin .append, args := #[X, Y], argTypes := #[t, t] }, ty, pos, af, g⟩ K e w := by
  have hm : m + m2 ≤ 9223372036854775807 := by
    have : m + m2 ≤ (m + m2) * bts := Nat.le_mul_of_pos_right _ hb0
    omega
  obtain ⟨A', c', w', hrun, hs'⟩ := hs.append (P := P) (ty := ty) (c2 := c2) i ht hz hzs hsz hi hr (by simpa using h1) hm hb
  refine Step.m (v := .slice A' (m + m2) c') (w' := w') (fun a ha => ?_) (h A' c' w' hs') hg hn
  simp [execOp, resolve, invoke, builtin, ha.eval hx, ha.eval hy, hrun]
/-- append onto an empty row of one's own. -/
theorem Step.append0 {el sz bts m2 c c2 : Nat} {A A2 : Option Addr} {cs2 : List Value} {z : Value} (i : Nat) (hs : HS w0 H w) (hx : val e X = some (.slice A 0 c)) (hy : val e Y = some (.slice A2 m2 c2)) (ht : slcInfo P t = some (el, sz, bts)) (hz : Zv P el z) (hzs : z.cells.size = sz) (hsz : 0 < sz)
    (hi : H[i]? = some (.row A 0 c [] el sz)) (hr : Rd w A2 m2 sz cs2) (h1 : cs2.all (·.oneCell') = true) (hb : m2 * bts ≤ 140737488355328) (hb0 : 0 < bts)
    (h : ∀ A' c' w', HS w0 (H.set i (.row A' m2 c' cs2 el sz)) w' → K ((d, .slice A' m2 c') :: e) w') (hg : Wants ops e g := by exact True.intro) (hn : Nat.blt d n = true := by rfl) :
    Step P n ops Q ⟨some d, .call { callee := .builtin .append, args := #[X, Y], argTypes := #[t, t] }, ty, pos, af, g⟩ K e w :=
  Step.append i hs hx hy ht hz hzs hsz hi hr h1 (by rw [Nat.zero_add]; exact hb) hb0 (fun A' c' w' hs' => by
    rw [Nat.zero_add, List.nil_append] at hs'
    have := h A' c' w' hs'
    rwa [Nat.zero_add]) hg hn
end
end Go.Proofs.Zed
