/- Regions whose order the model draws: one order, checked by program, stands for all. No program in sight. -/
import Derived.Test.YtobfcnfkcmhmaaaZc
set_option linter.unusedVariables false
set_option linter.unusedSimpArgs false
namespace Go.Proofs.Zed
open Go Go.RowKit

section
variable {P : Program} {ops : Array Oper} {Q : Exit → Act → World → Prop} {md : Region.Mode} {S : World → Prop} {T : Nat → Bool}
/-- Whatever order is picked; every operation that T doesn't name keeps S. -/
def wpAnyK (P : Program) (md : Region.Mode) (ops : Array Oper) (Q : Exit → Act → World → Prop) (T : Nat → Bool) (S : World → Prop) : Nat → Array Bool → Act → World → Prop
  | 0, listed, a, w => Region.ready md ops listed = [] ∧ Q .normal a w
  | fuel + 1, listed, a, w =>
    (Region.ready md ops listed = [] → Q .normal a w) ∧
    ∀ i ∈ Region.ready md ops listed, wpOp P ops Q i (fun a' w' => (T i = false → S w → S w') ∧ wpAnyK P md ops Q T S fuel (listed.setIfInBounds i true) a' w') a w
theorem wpAny_of_K : ∀ (fuel : Nat) (listed : Array Bool) (a : Act) (w : World), wpAnyK P md ops Q T S fuel listed a w → wpAny P md ops Q fuel listed a w
  | 0, _, _, _, h => h
  | fuel + 1, _, _, _, h => ⟨h.1, fun i hi => wpOp_mono (fun a' w' h' => wpAny_of_K fuel _ a' w' h'.2) (h.2 i hi)⟩
/-- An operation that may come up, and comes to v in each world of S', may be taken first, if whatever may come before it keeps S'. -/
theorem wpAnyK_first {i : Nat} {oi : Oper} {v : Value} {S' : World → Prop} (hi : ops[i]? = some oi) (hsel : ∀ (j : Nat) (o : Oper) cs b, ops[j]? = some o → o.op ≠ .select cs b)
    (hQ : ∀ c a w, Q (.panic c) (a.put oi.dst v) w → Q (.panic c) a w) (hS' : (∀ w, S' w) ∨ S' = S) :
    ∀ (fuel : Nat) (listed : Array Bool) (a : Act) (w : World),
      (∀ j oj, ops[j]? = some oj → j ≠ i → listed.getD j true = false → (∀ e ∈ oj.after, Region.binds md e = true → e.on ≠ i) → oi.apart ops oj = true ∧ (T j = false ∨ ∀ w, S' w)) →
      i ∈ Region.ready md ops listed → YieldsIf P ops S' oi v a → S' w →
      wpAnyK P md ops Q T S fuel (listed.setIfInBounds i true) (a.put oi.dst v) w → wpAnyK P md ops Q T S (fuel + 1) listed a w := by
  intro fuel
  induction fuel with
  | zero =>
    intro listed a w _ hr hy hS H
    refine ⟨fun h => (by rw [h] at hr; cases hr), fun j hj => ?_⟩
    by_cases hji : j = i
    · subst hji; exact hy.wpOp hi hS ⟨fun _ h => h, H⟩
    · have := ready_mono hj hji
      rw [H.1] at this
      cases this
  | succ fuel ih =>
    intro listed a w hfree hr hy hS H
    refine ⟨fun h => (by rw [h] at hr; cases hr), fun j hj => ?_⟩
    by_cases hji : j = i
    · subst hji; exact hy.wpOp hi hS ⟨fun _ h => h, H⟩
    · have h1 := H.2 j (ready_mono hj hji)
      obtain ⟨hjun, oj, hoj, hall⟩ := mem_ready.1 hj
      have hnot : ∀ e ∈ oj.after, Region.binds md e = true → e.on ≠ i := fun e he hb heq => by
        have h1 := hall e he hb
        have h0 := (mem_ready.1 hr).1
        rw [heq] at h1
        rcases Nat.lt_or_ge i listed.size with h' | h'
        · simp [h'] at h0 h1; rw [h0] at h1; cases h1
        · simp [Array.getElem?_eq_none h'] at h1
      obtain ⟨hap, hkeep⟩ := hfree j oj hoj hji hjun hnot
      have h2 := wpOp_putIf hoj hap (fun cs b => hsel i oi cs b hi) (fun cs b => hsel j oj cs b hoj) hQ hy h1
      have hfree' : ∀ k ok, ops[k]? = some ok → k ≠ i → (listed.setIfInBounds j true).getD k true = false →
          (∀ e ∈ ok.after, Region.binds md e = true → e.on ≠ i) → oi.apart ops ok = true ∧ (T k = false ∨ ∀ w, S' w) := fun k ok hk hki hun hno => by
        refine hfree k ok hk hki ?_ hno
        by_cases hjk : j = k
        · subst hjk; exact hjun
        · rw [getD_set_ne true hjk] at hun; exact hun
      have hkS : ∀ w', (T j = false → S w → S w') → S' w' := fun w' h => by
        rcases hS' with h' | h'
        · exact h' w'
        · subst h'
          rcases hkeep with h'' | h''
          · exact h h'' hS
          · exact h'' w'
      refine wpOp_mono (fun a' w' h3 => ⟨h3.2.1, ih (listed.setIfInBounds j true) a' w' hfree' (ready_mono hr (Ne.symm hji)) h3.1 (hkS w' h3.2.1) ?_⟩) h2
      rw [Array.setIfInBounds_comm _ _ hji]
      exact h3.2.2

/-- May i come up, and does nobody who could come before it touch its temporaries? Where it reads memory (ld): does everyone that T names wait for it? -/
def okA (ops : Array Oper) (T : List Nat) (ld : Bool) (listed : Array Bool) (i : Nat) : Bool :=
  (Region.ready .any ops listed).contains i && Region.free .any ops listed i &&
  (!ld || T.all fun j => j == i || listed.getD j true || match ops[j]? with
      | some oj => oj.after.any (fun e => Region.binds .any e && e.on == i)
      | none => true)
end

section
variable {P : Program} {n : Nat} {ops : Array Oper} {Q : Post} {S : World → Prop} {T : List Nat} {e : Env} {w : World} {fuel : Nat} {listed : Array Bool}
def Drw (P : Program) (n : Nat) (ops : Array Oper) (Q : Post) (T : List Nat) (S : World → Prop) (fuel : Nat) (listed : Array Bool) (e : Env) (w : World) : Prop :=
  (∀ c e w, ¬ Q (.panic c) e w) → Region.noSelect ops = true → ∀ a, Fits n e a → wpAnyK P .any ops (lift n Q) (fun i => T.contains i) S fuel listed a w
theorem run_drawn {id : Nat} (T : List Nat) (S : World → Prop) (h : Drw P n ops Q T S ops.size (Array.replicate ops.size false) e w.drew) (hm : P.follows .mixedOrders = true) (hs : Region.noSelect ops = true)
    (hQ : ∀ c e w, ¬ Q (.panic c) e w) : Run P n (.region id ops true) Q e w :=
  fun a ha => wp_region_any hm (wpAny_of_K _ _ _ _ (h hQ hs a ha))
theorem Drw.done (h : Q .normal e w) (hr : Region.ready .any ops listed = []) : Drw P n ops Q T S fuel listed e w := by
  intro hQ _ a ha
  cases fuel with
  | zero => exact ⟨hr, _, ha, h⟩
  | succ k => exact ⟨fun _ => ⟨_, ha, h⟩, by rw [hr]; simp⟩
theorem okA_spec {ld : Bool} {i : Nat} {oi : Oper} (hi : ops[i]? = some oi) (hc : okA ops T ld listed i = true) :
    i ∈ Region.ready .any ops listed ∧ (∀ j oj, ops[j]? = some oj → j ≠ i → listed.getD j true = false → (∀ e ∈ oj.after, Region.binds .any e = true → e.on ≠ i) → oi.apart ops oj = true ∧ (T.contains j = false ∨ ld = false)) := by
  unfold okA at hc
  simp only [Bool.and_eq_true] at hc
  obtain ⟨⟨h1, h2⟩, h3⟩ := hc
  refine ⟨by simpa using h1, fun j oj hj hne hun hno => ⟨Region.free_spec hi h2 j oj hj hne hun hno, ?_⟩⟩
  cases ld with
  | false => exact .inr rfl
  | true =>
    refine .inl ?_
    rw [← Bool.not_eq_true]
    intro hT
    simp only [Bool.not_true, Bool.false_or, List.all_eq_true] at h3
    have h4 := h3 j (by simpa using hT)
    simp only [hj, Bool.or_eq_true, beq_iff_eq, hne, false_or, hun, Bool.false_eq_true] at h4
    rw [Array.any_eq_true] at h4
    obtain ⟨k, hk, h5⟩ := h4
    simp only [Bool.and_eq_true, beq_iff_eq] at h5
    exact hno _ (Array.getElem_mem hk) h5.1 h5.2
variable {op : Op} {d : Nat} {ty : TypeId} {pos : String} {af : Array Edge} {g : Option (Nat × Bool)} {v : Value}
theorem Drw.take {S' : World → Prop} {ld : Bool} {o : Oper} (i : Nat) (hi : ops[i]? = some o) (hc : okA ops T ld listed i = true) (hld : (ld = false ∧ ∀ w, S' w) ∨ (ld = true ∧ S' = S)) (hS : S' w) (hy : ∀ a, Fits n e a → YieldsIf P ops S' o v a)
    (hput : ∀ a, Fits n e a → ∃ e', Fits n e' (a.put o.dst v) ∧ Drw P n ops Q T S fuel (listed.setIfInBounds i true) e' w) : Drw P n ops Q T S (fuel + 1) listed e w := by
  intro hQ hsel a ha
  obtain ⟨h1, h2⟩ := okA_spec hi hc
  obtain ⟨e', hf, hd⟩ := hput a ha
  refine wpAnyK_first hi (Region.noSelect_spec hsel) (fun c a w ⟨e, _, hp⟩ => (hQ c e w hp).elim) (hld.imp (fun h => h.2) (fun h => h.2)) fuel listed a w (fun j oj hj hne hun hno => ?_) h1 (hy a ha) hS (hd hQ hsel _ hf)
  obtain ⟨h3, h4⟩ := h2 j oj hj hne hun hno
  refine ⟨h3, ?_⟩
  rcases h4 with h4 | h4
  · exact .inl h4
  · rcases hld with h5 | h5
    · exact .inr h5.2
    · rw [h5.1] at h4; cases h4
/-- A value that no memory is asked for. -/
theorem Drw.a (i : Nat) (hi : ops[i]? = some ⟨some d, op, ty, pos, af, g⟩) (hc : okA ops T false listed i = true) (hy : Yv P n e (fun _ => True) ⟨some d, op, ty, pos, af, g⟩ v) (h : Drw P n ops Q T S fuel (listed.setIfInBounds i true) ((d, v) :: e) w)
    (hg : Wants ops e g := by exact True.intro) (hn : Nat.blt d n = true := by rfl) : Drw P n ops Q T S (fuel + 1) listed e w :=
  Drw.take i hi hc (.inl ⟨rfl, fun _ => trivial⟩) trivial (fun a ha => .inl ⟨wants ha hg, hy a ha⟩) (fun a ha => ⟨_, ha.put hn v, h⟩)
/-- An operation that is not wanted. -/
theorem Drw.no (i : Nat) (hi : ops[i]? = some ⟨some d, op, ty, pos, af, g⟩) (hc : okA ops T false listed i = true) (h : Drw P n ops Q T S fuel (listed.setIfInBounds i true) ((d, undef) :: e) w)
    (hg : WantsNot ops e g) (hn : Nat.blt d n = true := by rfl) : Drw P n ops Q T S (fuel + 1) listed e w :=
  Drw.take (S' := fun _ => True) i hi hc (.inl ⟨rfl, fun _ => trivial⟩) trivial (fun a ha => .inr ⟨wantsNot ha hg, rfl⟩) (fun a ha => ⟨_, ha.put hn undef, h⟩)
/-- A value that is read out of memory. -/
theorem Drw.l (i : Nat) (hi : ops[i]? = some ⟨some d, op, ty, pos, af, g⟩) (hc : okA ops T true listed i = true) (hS : S w) (hy : Yv P n e S ⟨some d, op, ty, pos, af, g⟩ v) (h : Drw P n ops Q T S fuel (listed.setIfInBounds i true) ((d, v) :: e) w)
    (hg : Wants ops e g := by exact True.intro) (hn : Nat.blt d n = true := by rfl) : Drw P n ops Q T S (fuel + 1) listed e w :=
  Drw.take i hi hc (.inr ⟨rfl, rfl⟩) hS (fun a ha => .inl ⟨wants ha hg, hy a ha⟩) (fun a ha => ⟨_, ha.put hn v, h⟩)
/-- The one operation that may come up. -/
theorem Drw.one (i : Nat) {dst : Option Tmp} (hi : ops[i]? = some ⟨dst, op, ty, pos, af, g⟩) (hr : Region.ready .any ops listed = [i]) (h : Step P n ops Q ⟨dst, op, ty, pos, af, g⟩ (fun e' w' => (T.contains i = false → S w → S w') ∧ Drw P n ops Q T S fuel (listed.setIfInBounds i true) e' w') e w) : Drw P n ops Q T S (fuel + 1) listed e w := by
  intro hQ hsel a ha
  refine ⟨fun h0 => absurd (h0.symm.trans hr) (by simp), fun j hj => ?_⟩
  rw [hr, List.mem_singleton] at hj
  subst hj
  have := h a ha (fun a' w' => (T.contains j = false → S w → S w') ∧ wpAnyK P .any ops (lift n Q) (fun i => T.contains i) S fuel (listed.setIfInBounds j true) a' w') (fun e' w' a' hf hk => ⟨hk.1, hk.2 hQ hsel a' hf⟩)
  unfold wpOp
  simp only [hi]
  split
  · rename_i hw
    rw [if_pos hw] at this
    exact .inl this
  · rename_i hw
    rw [if_neg hw] at this
    exact this
/-- Whichever comes up. -/
theorem Drw.all (rs : List Nat) (h : ∀ i ∈ rs, ∃ dst op ty pos af g, ops[i]? = some ⟨dst, op, ty, pos, af, g⟩ ∧ Step P n ops Q ⟨dst, op, ty, pos, af, g⟩ (fun e' w' => (T.contains i = false → S w → S w') ∧ Drw P n ops Q T S fuel (listed.setIfInBounds i true) e' w') e w) (hr : Region.ready .any ops listed = rs) (hne : rs.isEmpty = false) : Drw P n ops Q T S (fuel + 1) listed e w := by
  intro hQ hsel a ha
  refine ⟨fun h0 => absurd hne (by rw [← hr, h0]; simp), fun j hj => ?_⟩
  rw [hr] at hj
  obtain ⟨dst, op, ty, pos, af, g, hi, hst⟩ := h j hj
  have := hst a ha (fun a' w' => (T.contains j = false → S w → S w') ∧ wpAnyK P .any ops (lift n Q) (fun i => T.contains i) S fuel (listed.setIfInBounds j true) a' w') (fun e' w' a' hf hk => ⟨hk.1, hk.2 hQ hsel a' hf⟩)
  unfold wpOp
  simp only [hi]
  split
  · rename_i hw
    rw [if_pos hw] at this
    exact .inl this
  · rename_i hw
    rw [if_neg hw] at this
    exact this
end
end Go.Proofs.Zed
