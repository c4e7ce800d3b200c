/- What comes in, opened by its type's shape; and what a law's statement asks behind the call. -/
import Derived.Test.YtobfcnfkcmhmaaaZe
import Derived.ProofKit
import Derived.Carry
import Derived.OpenShut
import Derived.Deep.Slices
import Derived.SizedLaws
set_option linter.unusedVariables false
namespace Go.Proofs.Zed
open Go Go.RowKit Go.ChangeShapes Go.WideShapes

/-- The shape of a type: integers, bools, slices, aggregates (nil, cons: their parts). -/
inductive Sh where
  | int (k : IntKind) | bool | slc (bts : Nat) (e : Sh) | agg (s : Sh) | nil | cons (a b : Sh)
def Sh.size : Sh → Nat
  | .int _ | .bool | .slc _ _ => 1
  | .agg s => s.size
  | .nil => 0
  | .cons a b => a.size + b.size
def Sh.Den : Sh → Type
  | .int _ => Int
  | .bool => Bool
  | .slc _ e => Option Addr × Nat × Nat × List e.Den
  | .agg s => s.Den
  | .nil => Unit
  | .cons a b => a.Den × b.Den
def Sh.cells : (s : Sh) → s.Den → List Value
  | .int k, n => [.int k n]
  | .bool, b => [.bool b]
  | .slc _ _, d => [.slice d.1 d.2.1 d.2.2.1]
  | .agg s, d => s.cells d
  | .nil, _ => []
  | .cons a b, d => a.cells d.1 ++ b.cells d.2
def Sh.good (w : World) : (s : Sh) → s.Den → Prop
  | .int k, n => (Lit.int k n).wf = true
  | .bool, _ => True
  | .slc bts e, d => Rd w d.1 d.2.1 e.size (d.2.2.2.flatMap e.cells) ∧ d.2.2.2.length = d.2.1 ∧ (∀ x ∈ d.2.2.2, e.good w x) ∧ d.2.1 ≤ d.2.2.1 ∧ d.2.1 * bts ≤ 140737488351232
  | .agg s, d => s.good w d
  | .nil, _ => True
  | .cons a b, d => a.good w d.1 ∧ b.good w d.2
/-- The value as a whole: an aggregate, or one cell. -/
def Sh.val : (s : Sh) → s.Den → Value
  | .agg s, d => .agg (s.cells d).toArray
  | .int k, n => .int k n
  | .bool, b => .bool b
  | .slc _ _, d => .slice d.1 d.2.1 d.2.2.1
  | _, _ => undef
/-- Are a struct's fields laid one behind the other, from o on? -/
def laidFrom (P : Program) : Nat → List Field → Bool
  | _, [] => true
  | o, f :: fs => (f.offset == o) && laidFrom P (o + P.cellsOf f.type) fs
mutual
def Sh.ofT (P : Program) : Sh → TypeId → Bool
  | .int k, t => match P.underlying t with
    | some (.int q) => decide (q = k)
    | _ => false
  | .bool, t => match P.underlying t with
    | some .bool => true
    | _ => false
  | .slc bts e, t => match P.underlying t with
    | some (.slice el) => Sh.ofT P e el && decide (P.cellsOf el = e.size) && decide (0 < e.size) && decide (P.bytesOf el = bts)
    | _ => false
  | .agg s, t => match P.underlying t with
    | some (.struct fs) => Sh.ofL P s (fs.toList.map (·.type)) && laidFrom P 0 fs.toList && decide (P.cellsOf t = s.size)
    | some (.array n el) => Sh.ofL P s (List.replicate n el) && decide (P.cellsOf t = s.size)
    | _ => false
  | _, _ => false
def Sh.ofL (P : Program) : Sh → List TypeId → Bool
  | .nil, [] => true
  | .cons a b, t :: ts => Sh.ofT P a t && Sh.ofL P b ts && decide (P.cellsOf t = a.size)
  | _, _ => false
end

section
variable {H : Type} {enc : TypeId × Value → H} {P : Program} {w : World}
theorem Sh.cells_length : ∀ (s : Sh) (d : s.Den), (s.cells d).length = s.size
  | .int _, _ | .bool, _ | .slc _ _, _ => rfl
  | .agg s, d => Sh.cells_length s d
  | .nil, _ => rfl
  | .cons a b, d => by
    show (a.cells d.1 ++ b.cells d.2).length = a.size + b.size
    rw [List.length_append, Sh.cells_length a d.1, Sh.cells_length b d.2]
/-- Where the parts of an aggregate lie. -/
def offs (P : Program) : List TypeId → Nat → Nat
  | [], _ => 0
  | _, 0 => 0
  | t :: ts, i + 1 => P.cellsOf t + offs P ts i
theorem laid_offs : ∀ (fs : List Field) (o : Nat), laidFrom P o fs = true → ∀ i f, fs[i]? = some f → f.offset = o + offs P (fs.map (·.type)) i
  | [], _, _, i, f, h => by simp at h
  | g :: fs, o, hl, i, f, h => by
    simp only [laidFrom, Bool.and_eq_true, beq_iff_eq] at hl
    cases i with
    | zero => simp at h; subst h; simp [offs, hl.1]
    | succ i =>
      have := laid_offs fs _ hl.2 i f (by simpa using h)
      simp [offs, this, Nat.add_assoc]
theorem offs_rep (el : TypeId) : ∀ (n i : Nat), i < n → offs P (List.replicate n el) i = i * P.cellsOf el
  | 0, i, h => by omega
  | n + 1, 0, _ => by simp [List.replicate_succ, offs]
  | n + 1, i + 1, h => by
    rw [List.replicate_succ, offs, offs_rep el n i (by omega), Nat.succ_mul, Nat.add_comm]

theorem flat_at {α : Type} (f : α → List Value) {k : Nat} (hf : ∀ x, (f x).length = k) : ∀ (xs : List α) (j : Nat) (v : Value), (xs.flatMap f)[j]? = some v → ∃ i x, xs[i]? = some x ∧ i * k ≤ j ∧ (f x)[j - i * k]? = some v
  | [], j, v, h => by simp at h
  | x :: xs, j, v, h => by
    rw [List.flatMap_cons] at h
    rcases Nat.lt_or_ge j k with hj | hj
    · rw [List.getElem?_append_left (by rw [hf]; exact hj)] at h
      exact ⟨0, x, rfl, by omega, by simpa using h⟩
    · rw [List.getElem?_append_right (by rw [hf]; exact hj), hf] at h
      obtain ⟨i, y, hi, hle, hv⟩ := flat_at f hf xs (j - k) v h
      refine ⟨i + 1, y, by simpa using hi, by rw [Nat.succ_mul]; omega, ?_⟩
      rw [Nat.succ_mul, show j - (i * k + k) = j - k - i * k from by omega]
      exact hv
theorem flat_length {α : Type} (f : α → List Value) {k : Nat} (hf : ∀ x, (f x).length = k) : ∀ xs : List α, (xs.flatMap f).length = xs.length * k
  | [] => by simp
  | x :: xs => by rw [List.flatMap_cons, List.length_append, hf, flat_length f hf xs, List.length_cons, Nat.succ_mul, Nat.add_comm]
theorem pick_list {α : Type} {Q : Nat → α → Prop} : ∀ n : Nat, (∀ i, i < n → ∃ x, Q i x) → ∃ l : List α, l.length = n ∧ ∀ i x, l[i]? = some x → Q i x
  | 0, _ => ⟨[], rfl, fun i x h => by simp at h⟩
  | n + 1, h => by
    obtain ⟨l, hl, hq⟩ := pick_list n (fun i hi => h i (by omega))
    obtain ⟨x, hx⟩ := h n (by omega)
    refine ⟨l ++ [x], by simp [hl], fun i y hi => ?_⟩
    rcases Nat.lt_or_ge i n with hin | hin
    · rw [List.getElem?_append_left (by omega)] at hi; exact hq i y hi
    · rw [List.getElem?_append_right (by omega)] at hi
      have : i = n := by
        have := (List.getElem?_eq_some_iff.1 hi).1
        simp at this; omega
      subst this
      simp [hl] at hi; subst hi; exact hx

theorem weightsAll_mem {e : TypeId} {d : DataW H} : ∀ {l : List (DataW H)}, d ∈ l → ∀ n ∈ d.weights P e, n ∈ DataW.weightsAll P e l
  | [], h, _, _ => by simp at h
  | d0 :: l, h, n, hn => by
    rw [DataW.weightsAll, List.mem_append]
    rcases List.mem_cons.1 h with rfl | h
    · exact .inl hn
    · exact .inr (weightsAll_mem h n hn)
mutual
theorem Sh.openT : ∀ (s : Sh) (t : TypeId), s.ofT P t = true → ∀ (fuel : Nat) (cs : List Value) (x : DataW H × List MemPlace), DataW.trod enc P w 0 (fun _ => true) true fuel t cs = some x → (∀ n ∈ x.1.weights P t, n ≤ reachBytes) → ∃ d : s.Den, cs = s.cells d ∧ s.good w d
  | .int k, t, ht, fuel, cs, x, h, _ => by
    unfold Sh.ofT at ht
    split at ht
    · rename_i q hu
      obtain rfl := of_decide_eq_true ht
      obtain ⟨n, hcs, _, hw⟩ := DataW.trod_int hu h
      exact ⟨n, hcs, hw⟩
    · cases ht
  | .bool, t, ht, fuel, cs, x, h, _ => by
    unfold Sh.ofT at ht
    split at ht
    · rename_i hu
      obtain ⟨b, hcs, _⟩ := DataW.trod_bool hu h
      exact ⟨b, hcs, trivial⟩
    · cases ht
  | .slc bts e, t, ht, fuel, cs, x, h, hwt => by
    unfold Sh.ofT at ht
    split at ht
    · rename_i el hu
      simp only [Bool.and_eq_true, decide_eq_true_eq] at ht
      obtain ⟨⟨⟨he, hc⟩, hpos⟩, hbts⟩ := ht
      rcases Go.Deep.open_slice hu h with ⟨hcs, _⟩ | ⟨a, len, cap, m, n, D, Pl, hcs, _, hl, hcap, hm, hxe, hel⟩
      · exact ⟨(none, 0, 0, []), hcs, Rd.nil w none e.size, rfl, (fun x hx => by simp at hx), Nat.le_refl _, by rw [Nat.zero_mul]; exact Nat.zero_le _⟩
      · have hml : len ≤ m := by rw [hm]; simpa using hl
        obtain ⟨l, hll, hq⟩ := pick_list (Q := fun i (d : e.Den) => (∀ j, j < e.size → w.cell? ((a.add (i * e.size)).add j) = (e.cells d)[j]?) ∧ e.good w d) len (fun i hi => by
          obtain ⟨cs', hcs', htr⟩ := hel i (by omega)
          obtain ⟨d, hd, hg⟩ := Sh.openT e el he n cs' _ htr (fun k hk => hwt k (by
            rw [hxe]
            simp only [DataW.weights, hu, List.mem_cons, List.mem_append]
            exact .inr (.inl (weightsAll_mem (List.mem_map.2 ⟨i, List.mem_range.2 hi, rfl⟩) k hk))))
          refine ⟨d, fun j hj => ?_, hg⟩
          have := (World.cells?_some hcs').2.2 j (by rw [hc]; exact hj)
          rw [hc] at this
          rw [this, hd])
        have hsize : len * bts ≤ 140737488351232 := by
          have h1 := hwt ((len + (m - len)) * P.bytesOf el) (by
            rw [hxe]
            simp only [DataW.weights, hu, List.length_map, List.length_range, List.mem_cons, true_or])
          rw [hbts] at h1
          have h2 : len * bts ≤ (len + (m - len)) * bts := Nat.mul_le_mul_right _ (by omega)
          have h3 : reachBytes = 140737488351232 := rfl
          omega
        refine ⟨(some a, len, cap, l), hcs, ?_, hll, (fun x hx => ?_), hl, hsize⟩
        · refine ⟨by rw [flat_length _ (Sh.cells_length e), hll], by have : cap ≤ 2 ^ 63 - 1 := hcap; show len ≤ _; omega, fun _ => rfl, fun j v hj => ?_⟩
          obtain ⟨i, y, hi, hle, hv⟩ := flat_at _ (Sh.cells_length e) _ _ _ hj
          have hjs : j - i * e.size < e.size := by
            have := (List.getElem?_eq_some_iff.1 hv).1
            rwa [Sh.cells_length] at this
          have := (hq i y hi).1 _ hjs
          rw [hv, add_add, show i * e.size + (j - i * e.size) = j from by omega] at this
          exact this
        · obtain ⟨i, hi, he2⟩ := List.getElem_of_mem hx
          exact (hq i x (by rw [List.getElem?_eq_getElem hi, he2])).2
    · cases ht
  | .agg s, t, ht, fuel, cs, x, h, hwt => by
    unfold Sh.ofT at ht
    split at ht
    · rename_i fs hu
      simp only [Bool.and_eq_true, decide_eq_true_eq] at ht
      obtain ⟨xs, n, _, hxe, hlen, hxl, hel⟩ := DataW.trod_struct hu h
      refine Sh.openL s _ ht.1.1 n cs (by rw [hlen, ht.2]) fun i t' ht' => ?_
      rw [List.getElem?_map] at ht'
      cases hf : fs.toList[i]? with
      | none => rw [hf] at ht'; cases ht'
      | some f =>
        rw [hf] at ht'
        simp only [Option.map_some, Option.some.injEq] at ht'
        subst ht'
        have hoff := laid_offs _ _ ht.1.2 i f hf
        rw [Nat.zero_add] at hoff
        have hif : fs[i]? = some f := by simpa using hf
        have := hel i f hif
        rw [hoff] at this
        have hi : i < xs.length := by rw [hxl]; exact (Array.getElem?_eq_some_iff.1 hif).1
        refine ⟨xs[i], by rw [this, List.getElem?_eq_getElem hi], fun k hk => hwt k ?_⟩
        rw [hxe]
        simp only [DataW.weights, hu]
        exact DataW.weights_mem_each (t := f.type) (d := xs[i].1) (by rw [List.getElem?_map, hf]; rfl) (by rw [List.getElem?_map, List.getElem?_eq_getElem hi]; rfl) k hk
    · rename_i m el hu
      simp only [Bool.and_eq_true, decide_eq_true_eq] at ht
      obtain ⟨xs, n, _, hxe, hlen, hxl, hel⟩ := DataW.trod_array hu h
      refine Sh.openL s _ ht.1 n cs (by rw [hlen, ht.2]) fun i t' ht' => ?_
      rw [List.getElem?_replicate] at ht'
      split at ht'
      · rename_i him
        simp only [Option.some.injEq] at ht'
        subst ht'
        rw [offs_rep _ _ _ him, hel i him]
        refine ⟨xs[i]'(by omega), List.getElem?_eq_getElem (by omega), fun k hk => hwt k ?_⟩
        rw [hxe]
        simp only [DataW.weights, hu]
        exact weightsAll_mem (List.mem_map.2 ⟨_, List.getElem_mem (by omega), rfl⟩) k hk
      · cases ht'
    · cases ht
  | .nil, t, ht, _, _, _, _, _ => by simp [Sh.ofT] at ht
  | .cons a b, t, ht, _, _, _, _, _ => by simp [Sh.ofT] at ht
theorem Sh.openL : ∀ (s : Sh) (ts : List TypeId), s.ofL P ts = true → ∀ (n : Nat) (cs : List Value), cs.length = s.size → (∀ (i : Nat) (t : TypeId), ts[i]? = some t → ∃ x : DataW H × List MemPlace, DataW.trod enc P w 0 (fun _ => true) true n t ((cs.drop (offs P ts i)).take (P.cellsOf t)) = some x ∧ ∀ k ∈ x.1.weights P t, k ≤ reachBytes) →
    ∃ d : s.Den, cs = s.cells d ∧ s.good w d
  | .nil, [], _, n, cs, hl, _ => ⟨(), List.eq_nil_of_length_eq_zero hl, trivial⟩
  | .nil, t :: ts, ht, _, _, _, _ => by simp [Sh.ofL] at ht
  | .cons a b, [], ht, _, _, _, _ => by simp [Sh.ofL] at ht
  | .cons a b, t :: ts, ht, n, cs, hl, h => by
    simp only [Sh.ofL, Bool.and_eq_true, decide_eq_true_eq] at ht
    obtain ⟨⟨ha, hb⟩, hc⟩ := ht
    obtain ⟨x, hx, hxw⟩ := h 0 t rfl
    simp only [offs, List.drop_zero] at hx
    obtain ⟨d1, hd1, hg1⟩ := Sh.openT a t ha n _ x hx hxw
    have hl2 : cs.length = a.size + b.size := hl
    obtain ⟨d2, hd2, hg2⟩ := Sh.openL b ts hb n (cs.drop (P.cellsOf t)) (by rw [List.length_drop, hc, hl2]; omega) (fun i t' ht' => by
      obtain ⟨y, hy, hyw⟩ := h (i + 1) t' (by simpa using ht')
      refine ⟨y, ?_, hyw⟩
      rw [List.drop_drop]
      exact hy)
    refine ⟨(d1, d2), ?_, hg1, hg2⟩
    show cs = a.cells d1 ++ b.cells d2
    rw [← hd1, ← hd2, List.take_append_drop]
  | .int _, _, ht, _, _, _, _ => by simp [Sh.ofL] at ht
  | .bool, _, ht, _, _, _, _ => by simp [Sh.ofL] at ht
  | .slc _ _, _, ht, _, _, _, _ => by simp [Sh.ofL] at ht
  | .agg _, _, ht, _, _, _, _ => by simp [Sh.ofL] at ht
end
end

section
variable {H : Type} {enc : TypeId × Value → H} {P : Program} {w : World}
theorem okWide_arr {r : Reach} {b0 : Nat} {t el : TypeId} {n : Nat} {v : Value} (ht : P.underlying t = some (.array n el)) (h : Value.okWide P w r b0 t v) : ∃ cs, v = .agg cs := by
  simp only [Value.okWide, ht] at h
  obtain ⟨cs, h1, _⟩ := h
  exact ⟨cs, h1⟩
/-- An argument, opened. -/
theorem Sh.open1 (s : Sh) {t : TypeId} (ht : s.ofT P t = true) {r : Reach} {b0 : Nat} {v : Value} {dd : DataW H} {ps : List MemPlace} (hv : Value.okWide P w r b0 t v) (h : DataW.Trod enc P w 0 (fun _ => true) true t v dd ps) (hwt : ∀ n ∈ dd.weights P t, n ≤ reachBytes) :
    ∃ d : s.Den, v = s.val d ∧ s.good w d := by
  obtain ⟨fuel, hf⟩ := h
  obtain ⟨d, hd, hg⟩ := Sh.openT s t ht fuel _ _ hf hwt
  refine ⟨d, ?_, hg⟩
  cases s with
  | int k =>
    unfold Sh.ofT at ht
    split at ht
    · rename_i q hu
      obtain ⟨n, rfl⟩ := okWide_int hu hv
      exact List.head_eq_of_cons_eq hd
    · cases ht
  | bool =>
    unfold Sh.ofT at ht
    split at ht
    · rename_i hu
      obtain ⟨n, rfl⟩ := okWide_bool hu hv
      exact List.head_eq_of_cons_eq hd
    · cases ht
  | slc bts e =>
    unfold Sh.ofT at ht
    split at ht
    · rename_i el hu
      obtain ⟨a, l, c, rfl⟩ := okWide_slice hu hv
      exact List.head_eq_of_cons_eq hd
    · cases ht
  | agg s =>
    have : ∃ cs, v = .agg cs := by
      unfold Sh.ofT at ht
      split at ht
      · rename_i fs hu
        obtain ⟨cs, h1, _⟩ := okWide_struct hu hv
        exact ⟨cs, h1⟩
      · rename_i m el hu
        exact okWide_arr hu hv
      · cases ht
    obtain ⟨cs, rfl⟩ := this
    show Value.agg cs = Value.agg (s.cells d).toArray
    rw [← show cs.toList = s.cells d from hd]
  | nil => simp [Sh.ofT] at ht
  | cons a b => simp [Sh.ofT] at ht
/-- All arguments, opened. -/
def Sh.vals : (s : Sh) → s.Den → List Value
  | .cons a b, d => a.val d.1 :: b.vals d.2
  | _, _ => []
def Sh.ofP (P : Program) : Sh → List TypeId → Bool
  | .nil, [] => true
  | .cons a b, t :: ts => Sh.ofT P a t && Sh.ofP P b ts
  | _, _ => false
theorem Sh.openAll {r : Reach} {b0 : Nat} : ∀ (s : Sh) (ts : List TypeId), s.ofP P ts = true → ∀ (vs : List Value) (ds : List (DataW H)) (ps : List MemPlace), (∀ (j : Nat) t v, ts[j]? = some t → vs[j]? = some v → Value.okWide P w r b0 t v) → DataW.TrodAll enc P w 0 (fun _ => true) true ts vs ds ps → (∀ n ∈ DataW.weightsEach P ts ds, n ≤ reachBytes) →
    ∃ d : s.Den, vs = s.vals d ∧ s.good w d
  | .nil, [], _, [], [], ps, _, _, _ => ⟨(), rfl, trivial⟩
  | .nil, [], _, _ :: _, _, ps, _, h, _ => by cases ‹List (DataW H)› <;> exact h.elim
  | .nil, [], _, [], _ :: _, ps, _, h, _ => h.elim
  | .nil, _ :: _, ht, _, _, _, _, _, _ => by simp [Sh.ofP] at ht
  | .cons a b, [], ht, _, _, _, _, _, _ => by simp [Sh.ofP] at ht
  | .cons a b, t :: ts, ht, [], _, _, _, h, _ => by cases ‹List (DataW H)› <;> exact h.elim
  | .cons a b, t :: ts, ht, v :: vs, [], _, _, h, _ => h.elim
  | .cons a b, t :: ts, ht, v :: vs, d :: ds, ps, hv, h, hw => by
    simp only [Sh.ofP, Bool.and_eq_true] at ht
    obtain ⟨p, q, h1, h2, _⟩ := h
    simp only [DataW.weightsEach, List.mem_append] at hw
    obtain ⟨d1, hd1, hg1⟩ := Sh.open1 a ht.1 (hv 0 t v rfl rfl) h1 (fun n hn => hw n (.inl hn))
    obtain ⟨d2, hd2, hg2⟩ := Sh.openAll b ts ht.2 vs ds q (fun j t' v' h1 h2 => hv (j + 1) t' v' (by simpa using h1) (by simpa using h2)) h2 (fun n hn => hw n (.inr hn))
    exact ⟨(d1, d2), by rw [hd1, hd2]; rfl, hg1, hg2⟩
  | .int _, _, ht, _, _, _, _, _, _ => by simp [Sh.ofP] at ht
  | .bool, _, ht, _, _, _, _, _, _ => by simp [Sh.ofP] at ht
  | .slc _ _, _, ht, _, _, _, _, _, _ => by simp [Sh.ofP] at ht
  | .agg _, _, ht, _, _, _, _, _, _ => by simp [Sh.ofP] at ht

/-- Behind the call all that came in reads as it did. -/
theorem Below.trodAll (hl : laidOutB P = true) {W W' : World} (hb : Below W.heap.size W W') : ∀ (ts : List TypeId) (vs : List Value) (ds : List (DataW H)) (ps : List MemPlace), (ts.all fun t => P.readableRec t && decide (t < P.types.size)) = true →
    DataW.TrodAll enc P W 0 (fun _ => true) true ts vs ds ps → (∀ x ∈ ps, x.block < W.heap.size) → DataW.TrodAll enc P W' 0 (fun b => decide (b < W.heap.size)) true ts vs ds ps
  | [], [], [], _, _, h, _ => h
  | [], [], _ :: _, _, _, h, _ => h.elim
  | [], _ :: _, [], _, _, h, _ => h.elim
  | [], _ :: _, _ :: _, _, _, h, _ => h.elim
  | _ :: _, [], [], _, _, h, _ => h.elim
  | _ :: _, [], _ :: _, _, _, h, _ => h.elim
  | _ :: _, _ :: _, [], _, _, h, _ => h.elim
  | t :: ts, v :: vs, d :: ds, ps, ht, h, hlt => by
    simp only [List.all_cons, Bool.and_eq_true, decide_eq_true_eq] at ht
    obtain ⟨p, q, h1, h2, e⟩ := h
    exact ⟨p, q, Below.trod hl ht.1.1 ht.1.2 h1 hb (fun x hx => hlt x (by rw [e]; exact List.mem_append_left _ hx)),
      Below.trodAll hl hb ts vs ds q ht.2 h2 (fun x hx => hlt x (by rw [e]; exact List.mem_append_right _ hx)), e⟩

theorem law_post {fn : Func} {s : ChangeSpec} {apart fresh handsOn : Bool} {W W' : World} {args : Array Value} {ds gs : List (DataW H)} {before : List MemPlace} {tb : TypeId}
    (hl : laidOutB P = true) (hts : (fn.params.toList.all fun t => P.readableRec t && decide (t < P.types.size)) = true) (hvars : s.vars = []) (hres : fn.resultTypes = #[tb]) (hb : P.underlying tb = some .bool)
    (hfn : s.fn H (ds ++ gs) = { results := [.lit (.bool true)], args := ds })
    (hW : DataW.Whole enc P fn.params.toList s.vars apart W args.toList ds gs before) (hbl : Below W.heap.size W W') :
    s.post enc P fn apart fresh handsOn false W args (.bool true) W' := by
  have hlt := fun p hp => hW.lt p hp
  have hW2 := hW
  obtain ⟨p, q, hA, hV, rfl, _, _⟩ := hW2
  rw [hvars] at hV
  refine ⟨ds, gs, p ++ q, [], p, [], hW, ?_, ?_, ?_, hbl.frame _, fun h => by cases h⟩
  · rw [hfn, hres]
    exact trodAll_mk1 (shut_bool hb true)
  · rw [hfn]
    exact Below.trodAll hl hbl _ _ _ _ hts hA (fun x hx => hlt x (List.mem_append_left _ hx))
  · rw [hfn, hvars]
    rfl
end
/-- A law's contract, as the statement asks it. -/
theorem law_calls {H : Type} {enc : TypeId × Value → H} {P : Program} {f : FuncId} {fn : Func} {s : ChangeSpec} {apart fresh handsOn : Bool} {tb : TypeId} (sh : Sh)
    (hl : laidOutB P = true) (hts : (fn.params.toList.all fun t => P.readableRec t && decide (t < P.types.size)) = true) (hvars : s.vars = []) (hres : fn.resultTypes = #[tb]) (hb : P.underlying tb = some .bool)
    (hsh : sh.ofP P fn.params.toList = true) (hfn : ∀ ds : List (DataW H), ds.length = fn.params.size → s.fn H ds = { results := [.lit (.bool true)], args := ds })
    (h : ∀ (W : World) (d : sh.Den), sh.good W d → Fun P f (sh.vals d) W fun v w' => v = .bool true ∧ HS W [] w')
    (W : World) (base : Nat) (args : Array Value) (ds gs : List (DataW H)) (before : List MemPlace)
    (hval : ∀ (j : Nat) t v, fn.params[j]? = some t → args[j]? = some v → Value.okWide P W .any base t v) (hW : DataW.Whole enc P fn.params.toList s.vars apart W args.toList ds gs before)
    (hsz : (DataW.weightsEach P (fn.params.toList ++ s.plain.varTypes P) (ds ++ gs)).all (· ≤ reachBytes) = true) :
    Calls P f args W fun e W' => ∃ v, e = .returned v ∧ s.post enc P fn apart fresh handsOn false W args v W' := by
  have hW2 := hW
  obtain ⟨p, q, hA, hV, rfl, _, _⟩ := hW2
  have hds : ds.length = fn.params.size := by
    have : ∀ (ts : List TypeId) (vs : List Value) (ds : List (DataW H)) (ps : List MemPlace), DataW.TrodAll enc P W 0 (fun _ => true) true ts vs ds ps → ds.length = ts.length := by
      intro ts
      induction ts with
      | nil => intro vs ds ps h; cases vs <;> cases ds <;> first | rfl | exact h.elim
      | cons t ts ih =>
        intro vs ds ps h
        cases vs with
        | nil => cases ds <;> exact h.elim
        | cons v vs =>
          cases ds with
          | nil => exact h.elim
          | cons d ds =>
            obtain ⟨_, q, _, h2, _⟩ := h
            simp [ih vs ds q h2]
    simpa using this _ _ _ _ hA
  have hgs : gs = [] := by
    rw [hvars] at hV
    cases gs with
    | nil => rfl
    | cons g gs => exact hV.elim
  have hwt : ∀ n ∈ DataW.weightsEach P fn.params.toList ds, n ≤ reachBytes := fun n hn => by
    have key : ∀ (ts us : List TypeId) (ds es : List (DataW H)), ds.length = ts.length → ∀ n ∈ DataW.weightsEach P ts ds, n ∈ DataW.weightsEach P (ts ++ us) (ds ++ es) := by
      intro ts
      induction ts with
      | nil => intro us ds es _ n hn; cases ds <;> simp [DataW.weightsEach] at hn
      | cons t ts ih =>
        intro us ds es hl n hn
        cases ds with
        | nil => simp at hl
        | cons d ds =>
          simp only [DataW.weightsEach, List.cons_append, List.mem_append] at hn ⊢
          exact hn.imp_right (ih us ds es (by simpa using hl) n)
    have := List.all_eq_true.1 hsz n (key _ _ _ _ (by simpa using hds) n hn)
    simpa using this
  obtain ⟨d, hd, hg⟩ := Sh.openAll sh fn.params.toList hsh args.toList ds p (fun j t v h1 h2 => hval j t v (by simpa using h1) (by simpa using h2)) hA hwt
  have hargs : (sh.vals d).toArray = args := by rw [← hd]
  have hc := (h W d hg).2
  rw [hargs] at hc
  refine hc.mono ?_
  rintro x w' ⟨v, rfl, rfl, hs⟩
  exact ⟨_, rfl, law_post hl hts hvars hres hb (by rw [hgs, List.append_nil]; exact hfn ds hds) hW hs.below⟩
end Go.Proofs.Zed
