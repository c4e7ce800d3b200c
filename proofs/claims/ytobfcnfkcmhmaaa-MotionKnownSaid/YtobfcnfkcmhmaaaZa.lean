/- The core of a small logic over the kit's 'Code.wp': a frame is told by an environment (temporary ↦ value), code is run from an environment and a world. No program in sight. -/
import Derived.Tactics
import Derived.KernelRfl
import Derived.OrdersHeld
import Derived.Below
import Derived.LoopN
import Derived.Laws.AppendOwn
set_option linter.unusedVariables false
set_option linter.unusedSimpArgs false
namespace Go.Proofs.Zed
open Go Go.RowKit

abbrev Env := List (Nat × Value)
def look : Env → Nat → Option Value
  | [], _ => none
  | (t, v) :: e, s => bif Nat.beq s t then some v else look e s
def val (e : Env) : Operand → Option Value
  | .tmp t => look e t
  | .const v => some v
  | .global g => some (.pointer (some ⟨g, 0, none⟩))
  | .func f => some (.func (.func f) #[] #[])
def vals (e : Env) : List Operand → Option (List Value)
  | [] => some []
  | x :: xs => match val e x with
    | none => none
    | some v => match vals e xs with
      | none => none
      | some vs => some (v :: vs)

/-- The frame 'a' of n temporaries holds what the environment says. -/
structure Fits (n : Nat) (e : Env) (a : Act) : Prop where
  defers : a.defers = []
  size : a.tmps.size = n
  at_ : ∀ s v, look e s = some v → a.tmps[s]? = some v

theorem Fits.eval {n : Nat} {e : Env} {a : Act} (h : Fits n e a) {x : Operand} {v : Value} (hx : val e x = some v) : a.eval x = v := by
  cases x with
  | tmp t => simp only [val] at hx; have := h.at_ t v hx; simp [Act.eval, this]
  | const u => simpa [val, Act.eval] using hx
  | global g => simpa [val, Act.eval] using hx
  | func f => simpa [val, Act.eval] using hx
theorem Fits.evals {n : Nat} {e : Env} {a : Act} (h : Fits n e a) : ∀ {xs : List Operand} {vs : List Value}, vals e xs = some vs → xs.map a.eval = vs
  | [], vs, hv => by simp [vals] at hv; simp [hv]
  | x :: xs, vs, hv => by
    unfold vals at hv
    cases hx : val e x with
    | none => simp [hx] at hv
    | some v =>
      cases hxs : vals e xs with
      | none => simp [hx, hxs] at hv
      | some us =>
        simp [hx, hxs] at hv
        subst hv
        simp [h.eval hx, h.evals hxs]
theorem Fits.put {n : Nat} {e : Env} {a : Act} (h : Fits n e a) {d : Nat} (hd : Nat.blt d n = true) (v : Value) : Fits n ((d, v) :: e) (a.put (some d) v) := by
  have hdn : d < n := by simpa [Nat.blt_eq] using hd
  refine ⟨by simpa [Act.put] using h.defers, by simpa [Act.put] using h.size, fun s u hu => ?_⟩
  unfold look at hu
  have hsz := h.size
  by_cases hs : s = d
  · subst hs
    rw [Nat.beq_refl, cond_true] at hu
    have hs' : s < a.tmps.size := by omega
    simp only [Act.put]
    rw [Array.getElem?_setIfInBounds_self_of_lt hs', hu]
  · have hb : Nat.beq s d = false := by rw [← Bool.not_eq_true, Nat.beq_eq]; exact hs
    rw [hb, cond_false] at hu
    have := h.at_ s u hu
    simp only [Act.put]
    rw [Array.getElem?_setIfInBounds_ne (Ne.symm hs)]
    exact this
theorem Fits.putNone {n : Nat} {e : Env} {a : Act} (h : Fits n e a) (v : Value) : Fits n e (a.put none v) := h

/-- Each entry of the first stands in the second. -/
def Sub : Env → Env → Prop
  | [], _ => True
  | (t, v) :: e', e => look e t = some v ∧ Sub e' e
theorem Sub.look : ∀ {e' e : Env}, Sub e' e → ∀ {s : Nat} {v : Value}, look e' s = some v → Zed.look e s = some v
  | [], _, _, s, v, h => by simp [Zed.look] at h
  | (t, u) :: e', e, hs, s, v, h => by
    unfold Zed.look at h
    by_cases hst : s = t
    · subst hst
      rw [Nat.beq_refl, cond_true] at h
      rw [← h]; exact hs.1
    · have hb : Nat.beq s t = false := by rw [← Bool.not_eq_true, Nat.beq_eq]; exact hst
      rw [hb, cond_false] at h
      exact Sub.look hs.2 h
/-- What the first tells, the second tells. -/
def Le (e' e : Env) : Prop := ∀ s v, look e' s = some v → look e s = some v
theorem Le.refl (e : Env) : Le e e := fun _ _ h => h
theorem Sub.le {e' e : Env} (h : Sub e' e) : Le e' e := fun _ _ hl => h.look hl
theorem Fits.le {n : Nat} {e e' : Env} {a : Act} (h : Fits n e a) (hs : Le e' e) : Fits n e' a := ⟨h.defers, h.size, fun _ _ hl => h.at_ _ _ (hs _ _ hl)⟩
theorem Fits.sub {n : Nat} {e e' : Env} {a : Act} (h : Fits n e a) (hs : Sub e' e) : Fits n e' a := ⟨h.defers, h.size, fun _ _ hl => h.at_ _ _ (hs.look hl)⟩

abbrev Post := Exit → Env → World → Prop
def lift (n : Nat) (Q : Post) : Exit → Act → World → Prop := fun x a w => ∃ e, Fits n e a ∧ Q x e w
/-- From whatever frame fits the environment, code c runs to Q. -/
def Run (P : Program) (n : Nat) (c : Code) (Q : Post) (e : Env) (w : World) : Prop := ∀ a, Fits n e a → c.wp P (lift n Q) a w

def seqQ (K : Env → World → Prop) (Q : Post) : Post
  | .normal, e, w => K e w
  | x, e, w => Q x e w
def blockQ (id : Nat) (Q : Post) : Post
  | .exit j, e, w => bif Nat.beq j id then Q .normal e w else Q (.exit j) e w
  | x, e, w => Q x e w
/-- The results, as the frame and memory hold them. -/
def rvals (P : Program) (e : Env) (w : World) : List ResultVar → List Value → Prop
  | [], vs => vs = []
  | .tmp t :: rs, vs => ∃ v vs', vs = v :: vs' ∧ look e t = some v ∧ rvals P e w rs vs'
  | .cell t ty :: rs, vs => ∃ v vs' ad, vs = v :: vs' ∧ look e t = some (.pointer (some ad)) ∧ (loadVar ty ad).run P w = .ok v w ∧ rvals P e w rs vs'
/-- What stands at a function's end. -/
def retQ (P : Program) (rs : List ResultVar) (R : Value → World → Prop) : Post
  | .normal, e, w | .ret, e, w => ∃ vs, rvals P e w rs vs ∧ R (match vs with | [v] => v | vs => .tuple vs.toArray) w
  | _, _, _ => False

section
variable {P : Program} {n : Nat} {Q : Post} {e : Env} {w : World}

theorem Run.sub {c : Code} (e' : Env) (hs : Sub e' e) (h : Run P n c Q e' w) : Run P n c Q e w := fun a ha => h a (ha.sub hs)
theorem Run.mono {c : Code} {Q' : Post} (h : Run P n c Q e w) (hq : ∀ x e w, Q x e w → Q' x e w) : Run P n c Q' e w :=
  fun a ha => Code.wp_mono (fun _ _ _ ⟨e, hf, hQ⟩ => ⟨e, hf, hq _ _ _ hQ⟩) (h a ha)
theorem run_skip (h : Q .normal e w) : Run P n .skip Q e w := fun _ ha => wp_skip ⟨_, ha, h⟩
theorem run_label {l : Nat} (h : Q .normal e w) : Run P n (.label l) Q e w := fun _ ha => wp_label ⟨_, ha, h⟩
theorem run_ret (h : Q .ret e w) : Run P n .ret Q e w := fun _ ha => wp_ret ⟨_, ha, h⟩
theorem run_exit {id : Nat} (h : Q (.exit id) e w) : Run P n (.exit id) Q e w := fun _ ha => wp_exit ⟨_, ha, h⟩
theorem run_seq {x y : Code} (h : ∀ K : Env → World → Prop, (∀ e w, Run P n y Q e w → K e w) → Run P n x (seqQ K Q) e w) : Run P n (.seq x y) Q e w := by
  intro a ha
  refine wp_seq (Code.wp_mono ?_ (h (Run P n y Q) (fun _ _ h => h) a ha))
  rintro x a' w' ⟨e', hf, hq⟩
  cases x with
  | normal => exact hq a' hf
  | _ => exact ⟨e', hf, hq⟩
theorem run_block {id : Nat} {c : Code} (h : Run P n c (blockQ id Q) e w) : Run P n (.block id c) Q e w := by
  intro a ha
  refine wp_block (Code.wp_mono ?_ (h a ha))
  rintro x a' w' ⟨e', hf, hq⟩
  cases x with
  | exit j =>
    simp only [blockQ] at hq
    simp only [Exit.inBlock]
    by_cases hj : j = id
    · subst hj
      rw [Nat.beq_refl, cond_true] at hq
      rw [if_pos rfl]
      exact ⟨e', hf, hq⟩
    · have hb : Nat.beq j id = false := by rw [← Bool.not_eq_true, Nat.beq_eq]; exact hj
      rw [hb, cond_false] at hq
      rw [if_neg hj]
      exact ⟨e', hf, hq⟩
  | _ => exact ⟨e', hf, hq⟩
theorem run_if {c : Operand} {x y : Code} {b : Bool} (hc : val e c = some (.bool b)) (ht : b = true → Run P n x Q e w) (hf : b = false → Run P n y Q e w) : Run P n (.cond c x y) Q e w :=
  fun a ha => wp_cond_split (ha.eval hc) (fun hb => ht hb a ha) (fun hb => hf hb a ha)
/-- A test that is told by a proposition. -/
theorem run_ifp {c : Operand} {x y : Code} {p : Prop} [Decidable p] (hc : val e c = some (.bool (decide p))) (ht : p → Run P n x Q e w) (hf : ¬ p → Run P n y Q e w) : Run P n (.cond c x y) Q e w :=
  run_if hc (fun h => ht (of_decide_eq_true h)) (fun h => hf (of_decide_eq_false h))
theorem run_if1 {c : Operand} {x y : Code} (hc : val e c = some (.bool true)) (h : Run P n x Q e w) : Run P n (.cond c x y) Q e w := run_if hc (fun _ => h) (fun h => by cases h)
theorem run_if0 {c : Operand} {x y : Code} (hc : val e c = some (.bool false)) (h : Run P n y Q e w) : Run P n (.cond c x y) Q e w := run_if hc (fun h => by cases h) (fun _ => h)

/-- A loop: an invariant over states of one's own choosing. -/
theorem run_loop {σ : Type} {c : Code} (I : σ → Env → World → Prop) (μ : σ → Nat) (s : σ) (h₀ : I s e w)
    (round : ∀ s e w, I s e w → Run P n c (seqQ (fun e' w' => ∃ s' e'', I s' e'' w' ∧ Le e'' e' ∧ μ s' < μ s) Q) e w) : Run P n (.loop c) Q e w := by
  have key : ∀ m s e w, μ s = m → I s e w → ∀ a, Fits n e a → ∀ (b : Frame) (k : List Item) (cs : List Frame),
      ∃ x a' w', lift n Q x a' w' ∧ Arrives P (lone (b.at a (.code c :: .inLoop c :: k)) cs w) b k cs x a' w' := by
    intro m
    induction m using Nat.strongRecOn with
    | _ m ih =>
      intro s e w hm hI a ha b k cs
      obtain ⟨x, a₁, w₁, ⟨e₁, hf, hq⟩, harr⟩ := round s e w hI a ha b (.inLoop c :: k) cs
      cases x with
      | normal =>
        obtain ⟨s', e'', hI', hsub, hlt⟩ := hq
        obtain ⟨x₂, a₂, w₂, hq₂, harr₂⟩ := ih (μ s') (hm ▸ hlt) s' e'' w₁ rfl hI' a₁ (hf.le hsub) b k cs
        exact ⟨x₂, a₂, w₂, hq₂, .of_steps (Steps.trans harr (.one step_inLoop)) harr₂⟩
      | exit id => exact ⟨_, a₁, w₁, ⟨e₁, hf, hq⟩, .pass (x := .inLoop c) rfl (fun _ _ => .inl (by simp)) harr⟩
      | goto l => exact ⟨_, a₁, w₁, ⟨e₁, hf, hq⟩, .pass (x := .inLoop c) rfl (fun _ _ => .inl (by simp)) harr⟩
      | ret => exact ⟨_, a₁, w₁, ⟨e₁, hf, hq⟩, .pass (x := .inLoop c) rfl (fun _ _ => .inl (by simp)) harr⟩
      | panic ch => exact ⟨_, a₁, w₁, ⟨e₁, hf, hq⟩, .pass (x := .inLoop c) rfl (fun _ _ => .inl (by simp)) harr⟩
      | outgrown => exact ⟨_, a₁, w₁, ⟨e₁, hf, hq⟩, .pass (x := .inLoop c) rfl (fun _ _ => .inl (by simp)) harr⟩
  intro a ha b k cs
  obtain ⟨x, a', w', hq, harr⟩ := key _ s e w rfl h₀ a ha b k cs
  exact ⟨x, a', w', hq, .of_steps (.one step_loop) harr⟩
/-- A loop of at most so many rounds, walked round by round. -/
def Rounds (P : Program) (n : Nat) (c : Code) (Q : Post) : Nat → Env → World → Prop
  | 0, _, _ => False
  | k + 1, e, w => Run P n c (seqQ (Rounds P n c Q k) Q) e w
theorem run_rounds {c : Code} (m : Nat) (h : Rounds P n c Q m e w) : Run P n (.loop c) Q e w := by
  refine run_loop (σ := Nat) (fun s e w => Rounds P n c Q s e w) (fun s => s) m h ?_
  intro s e w hs
  cases s with
  | zero => exact hs.elim
  | succ s =>
    refine Run.mono hs ?_
    intro x e' w' hq
    cases x with
    | normal => exact ⟨s, e', hq, Le.refl e', Nat.lt_succ_self _⟩
    | _ => exact hq

/-! ### Regions -/
def Ops (P : Program) (n : Nat) (ops : Array Oper) (Q : Post) (l : List Oper) (e : Env) (w : World) : Prop := ∀ a, Fits n e a → wpList P ops (lift n Q) l a w
theorem run_region {id : Nat} {l : List Oper} (h : Ops P n l.toArray Q l e w) : Run P n (.region id l.toArray false) Q e w := fun a ha => wp_region_lit (h a ha)
theorem run_region' {id : Nat} {ops : Array Oper} (l : List Oper) (hl : ops.toList = l) (h : Ops P n ops Q l e w) : Run P n (.region id ops false) Q e w := fun a ha => wp_region_list (hl ▸ h a ha)
theorem Ops.nil {ops : Array Oper} (h : Q .normal e w) : Ops P n ops Q [] e w := fun a ha => wpList_nil ⟨_, ha, h⟩
theorem Ops.sub {ops : Array Oper} {l : List Oper} (e' : Env) (hs : Sub e' e) (h : Ops P n ops Q l e' w) : Ops P n ops Q l e w := fun a ha => h a (ha.sub hs)

/-- In every world that meets S the operation comes to v, and leaves the world. -/
def Yv (P : Program) (n : Nat) (e : Env) (S : World → Prop) (o : Oper) (v : Value) : Prop := ∀ a, Fits n e a → ∀ w, S w → (execOp a.eval o).run P w = .ok (.value v) w
/-- The operation is wanted. -/
def Wants (ops : Array Oper) (e : Env) : Option (Nat × Bool) → Prop
  | none => True
  | some (j, b) => ∃ d, (ops[j]?).bind (·.dst) = some d ∧ look e d = some (.bool b)
theorem wants {ops : Array Oper} {o : Oper} {a : Act} (ha : Fits n e a) (h : Wants ops e o.guard) : Region.wanted o (yielded ops a.tmps) = true := by
  unfold Region.wanted
  cases hg : o.guard with
  | none => rfl
  | some jb =>
    obtain ⟨j, b⟩ := jb
    rw [hg] at h
    obtain ⟨d, hd, hl⟩ := h
    simp [yielded, hd, ha.at_ _ _ hl]
def notWant : Option Value → Bool → Bool
  | some (.bool c), b => c != b
  | some _, _ => true
  | none, _ => false
def WantsNot (ops : Array Oper) (e : Env) : Option (Nat × Bool) → Prop
  | none => False
  | some (j, b) => ∃ d, (ops[j]?).bind (·.dst) = some d ∧ notWant (look e d) b = true
theorem wantsNot {ops : Array Oper} {o : Oper} {a : Act} (ha : Fits n e a) (h : WantsNot ops e o.guard) : Region.wanted o (yielded ops a.tmps) = false := by
  unfold Region.wanted
  cases hg : o.guard with
  | none => rw [hg] at h; exact h.elim
  | some jb =>
    obtain ⟨j, b⟩ := jb
    rw [hg] at h
    obtain ⟨d, hd, hl⟩ := h
    cases hv : look e d with
    | none => rw [hv] at hl; cases hl
    | some v =>
      rw [hv] at hl
      cases v with
      | bool c => cases b <;> cases c <;> simp_all [yielded, ha.at_ _ _ hv, notWant]
      | _ => simp [yielded, hd, ha.at_ _ _ hv]

variable {ops : Array Oper} {op : Op} {d : Nat} {ty : TypeId} {pos : String} {af : Array Edge} {rest : List Oper} {g : Option (Nat × Bool)}
/-- An operation that comes to a value. -/
theorem Ops.v {v : Value} (hy : Yv P n e (fun x => x = w) ⟨some d, op, ty, pos, af, none⟩ v) (h : Ops P n ops Q rest ((d, v) :: e) w) (hn : Nat.blt d n = true := by rfl) : Ops P n ops Q (⟨some d, op, ty, pos, af, none⟩ :: rest) e w := by
  intro a ha
  refine wpList_plain rfl fun K hK => ?_
  unfold Oper.wp
  rw [hy a ha w rfl]
  exact hK _ _ (h _ (ha.put hn v))
theorem Ops.vg {v : Value} (hg : Wants ops e g) (hy : Yv P n e (fun x => x = w) ⟨some d, op, ty, pos, af, g⟩ v) (h : Ops P n ops Q rest ((d, v) :: e) w) (hn : Nat.blt d n = true := by rfl) : Ops P n ops Q (⟨some d, op, ty, pos, af, g⟩ :: rest) e w := by
  intro a ha
  refine wpList_step fun K hK => ?_
  rw [if_pos (wants ha hg)]
  unfold Oper.wp
  rw [hy a ha w rfl]
  exact hK _ _ (h _ (ha.put hn v))
/-- An operation that is not wanted. -/
theorem Ops.skip (hg : WantsNot ops e g) (h : Ops P n ops Q rest ((d, undef) :: e) w) (hn : Nat.blt d n = true := by rfl) : Ops P n ops Q (⟨some d, op, ty, pos, af, g⟩ :: rest) e w := by
  intro a ha
  refine wpList_step fun K hK => ?_
  have hw := wantsNot (o := ⟨some d, op, ty, pos, af, g⟩) ha hg
  rw [hw]
  exact hK _ _ (h _ (ha.put hn undef))
theorem Ops.skip0 (hg : WantsNot ops e g) (h : Ops P n ops Q rest e w) : Ops P n ops Q (⟨none, op, ty, pos, af, g⟩ :: rest) e w := by
  intro a ha
  refine wpList_step fun K hK => ?_
  have hw := wantsNot (o := ⟨none, op, ty, pos, af, g⟩) ha hg
  rw [hw]
  exact hK _ _ (h _ (ha.putNone undef))
/-- One operation, from whatever frame fits: what is to be shown behind it is K. -/
def Step (P : Program) (n : Nat) (ops : Array Oper) (Q : Post) (o : Oper) (K : Env → World → Prop) (e : Env) (w : World) : Prop :=
  ∀ a, Fits n e a → ∀ K' : Act → World → Prop, (∀ e' w' a', Fits n e' a' → K e' w' → K' a' w') → if Region.wanted o (yielded ops a.tmps) = true then o.wp P a w K' (lift n Q) else K' (a.put o.dst undef) w
theorem Ops.s {o : Oper} (h : Step P n ops Q o (Ops P n ops Q rest) e w) : Ops P n ops Q (o :: rest) e w := by
  intro a ha
  exact wpList_step fun K hK => h a ha K (fun e' w' a' hf hk => hK a' w' (hk a' hf))
variable {K : Env → World → Prop}
theorem Step.v {v : Value} (hy : Yv P n e (fun x => x = w) ⟨some d, op, ty, pos, af, g⟩ v) (h : K ((d, v) :: e) w) (hg : Wants ops e g := by exact True.intro) (hn : Nat.blt d n = true := by rfl) : Step P n ops Q ⟨some d, op, ty, pos, af, g⟩ K e w := by
  intro a ha K' hK
  rw [if_pos (wants ha hg)]
  unfold Oper.wp
  rw [hy a ha w rfl]
  exact hK _ _ _ (ha.put hn v) h
/-- An operation that does something: v, and the new world. -/
theorem Step.m {v : Value} {w' : World} (hr : ∀ a, Fits n e a → (execOp a.eval ⟨some d, op, ty, pos, af, g⟩).run P w = .ok (.value v) w') (h : K ((d, v) :: e) w') (hg : Wants ops e g := by exact True.intro) (hn : Nat.blt d n = true := by rfl) :
    Step P n ops Q ⟨some d, op, ty, pos, af, g⟩ K e w := by
  intro a ha K' hK
  rw [if_pos (wants ha hg)]
  unfold Oper.wp
  rw [hr a ha]
  exact hK _ _ _ (ha.put hn v) h
theorem Step.m0 {w' : World} (hr : ∀ a, Fits n e a → (execOp a.eval ⟨none, op, ty, pos, af, g⟩).run P w = .ok .skip w') (h : K e w') (hg : Wants ops e g := by exact True.intro) :
    Step P n ops Q ⟨none, op, ty, pos, af, g⟩ K e w := by
  intro a ha K' hK
  rw [if_pos (wants ha hg)]
  unfold Oper.wp
  rw [hr a ha]
  exact hK _ _ _ (ha.putNone undef) h

/-! ### Calls -/
/-- Function f, called so, hands back a value v, and R of it and of the world then. -/
def Fun (P : Program) (f : FuncId) (args : List Value) (w : World) (R : Value → World → Prop) : Prop :=
  (∃ fn, P.funcs[f]? = some fn ∧ fn.body.isNone = false ∧ (fn.name == "runtime.NumGoroutine") = false) ∧ Calls P f args.toArray w fun x w' => ∃ v, x = .returned v ∧ R v w'
theorem Fun.mono {f : FuncId} {args : List Value} {R R' : Value → World → Prop} (h : Fun P f args w R) (hr : ∀ v w', R v w' → R' v w') : Fun P f args w R' :=
  ⟨h.1, h.2.mono fun x w' ⟨v, hv, hR⟩ => ⟨v, hv, hr v w' hR⟩⟩
theorem run_results {e : Env} {w : World} {a : Act} (ha : Fits n e a) : ∀ (rs : List ResultVar) (vs : List Value), rvals P e w rs vs →
    (rs.mapM fun r => (match r with
      | .tmp t => Pure.pure (a.tmps.getD t undef)
      | .cell b t => do loadVar t (← asAddr (a.tmps.getD b undef)) : Sem Value)).run P w = .ok vs w
  | [], vs, h => by simp only [rvals] at h; subst h; rfl
  | .tmp t :: rs, vs, h => by
    obtain ⟨v, vs', rfl, hv, hr⟩ := h
    have ih := run_results ha rs vs' hr
    have hg : a.tmps.getD t undef = v := by simp [ha.at_ _ _ hv]
    rw [List.mapM_cons]
    simp only [Sem.run_bind, hg, Sem.run_pure, Result.andThen_ok, ih]
  | .cell t ty :: rs, vs, h => by
    obtain ⟨v, vs', ad, rfl, hv, hl, hr⟩ := h
    have ih := run_results ha rs vs' hr
    have hg : a.tmps.getD t undef = .pointer (some ad) := by simp [ha.at_ _ _ hv]
    rw [List.mapM_cons]
    have hadr : (asAddr (.pointer (some ad))).run P w = .ok ad w := rfl
    simp only [Sem.run_bind, hg, hadr, Sem.run_pure, Result.andThen_ok, hl, ih]
theorem fun_run {f : FuncId} {fn : Func} {c : Code} {m : Nat} {args : List Value} {rs : List ResultVar} {R : Value → World → Prop} (hf : P.funcs[f]? = some fn) (hb : fn.body = some c) (hname : (fn.name == "runtime.NumGoroutine") = false)
    (hres : fn.results.toList = rs) (hm : fn.ntmps = m) (hlen : Nat.ble args.length m = true) (h : Run P m c (retQ P rs R) (args.zipIdx.map fun p => (p.2, p.1)) w) : Fun P f args w R := by
  subst hm
  have hlen : args.length ≤ fn.ntmps := by simpa [Nat.ble_eq] using hlen
  refine ⟨⟨fn, hf, by simp [hb], hname⟩, calls_of_wp hf hb (Code.wp_mono ?_ (h _ ?_))⟩
  · rintro x a w' ⟨e, hfit, hq⟩
    have fin : (∃ vs, rvals P e w' rs vs ∧ R (match vs with | [v] => v | vs => .tuple vs.toArray) w') →
        a.defers = [] ∧ ∃ v, (results fn a.tmps).run P w' = .ok v w' ∧ ∃ v', Ending.returned v = .returned v' ∧ R v' w' := by
      rintro ⟨vs, hv, hR⟩
      refine ⟨hfit.defers, _, ?_, _, rfl, hR⟩
      have h1 := run_results hfit rs vs hv
      unfold results
      rw [Sem.run_bind]
      refine (congrArg (fun r => Result.andThen r _) (?_ : _ = .ok vs.toArray w')).trans ?_
      · rw [Array.mapM_eq_mapM_toList, Sem.run_map, hres]
        exact congrArg (fun r => Result.andThen r (fun a w' => .ok a.toArray w')) h1
      · rcases vs with _ | ⟨v, _ | ⟨v2, vs⟩⟩ <;> simp
    cases x with
    | normal => exact fin hq
    | ret => exact fin hq
    | _ => exact hq.elim
  · refine ⟨rfl, by simp; omega, fun s v hl => ?_⟩
    have key : ∀ (l : List Value) (k : Nat), look ((l.zipIdx k).map fun p => (p.2, p.1)) s = some v → k ≤ s ∧ l[s - k]? = some v := by
      intro l
      induction l with
      | nil => intro k h; simp [look] at h
      | cons u l ih =>
        intro k h
        simp only [List.zipIdx_cons, List.map_cons] at h
        unfold look at h
        by_cases hs : s = k
        · subst hs
          rw [Nat.beq_refl, cond_true] at h
          simpa using h
        · have hb : Nat.beq s k = false := by rw [← Bool.not_eq_true, Nat.beq_eq]; exact hs
          rw [hb, cond_false] at h
          obtain ⟨h1, h2⟩ := ih (k + 1) h
          refine ⟨by omega, ?_⟩
          rw [show s - k = (s - (k + 1)) + 1 from by omega]
          simpa using h2
    obtain ⟨_, h2⟩ := key args 0 hl
    simp only [Nat.sub_zero] at h2
    have hlt : s < args.length := (List.getElem?_eq_some_iff.1 h2).1
    have h3 := (List.getElem?_eq_some_iff.1 h2).2
    simp [Array.getElem?_append, hlt, h3]
theorem exec_call {f : FuncId} {fn : Func} {a : Act} {F : Operand} {xs : List Operand} {vs cap : List Value} {tys : Array TypeId} {o : Oper} (ho : o.op = .call { callee := .value F, args := xs.toArray, argTypes := tys })
    (hF : a.eval F = .func (.func f) #[] cap.toArray) (hxs : xs.map a.eval = vs) (hf : P.funcs[f]? = some fn) (hb : fn.body.isNone = false) (hname : (fn.name == "runtime.NumGoroutine") = false) :
    (execOp a.eval o).run P w = .ok (.enter f (vs ++ cap).toArray) w := by
  have h1 : ¬ fn.name = "runtime.NumGoroutine" := by simpa using hname
  have h2 : ¬ fn.body = none := by intro h; simp [h] at hb
  unfold execOp
  simp [h1, h2, ho, resolve, hF, Deferred.ofValue, invoke, callFunc, hf, hb, hname, hxs, program, Sem.run, bind, Sem.bind, pure, Bind.bind]
theorem Step.call {R : Value → World → Prop} {f : FuncId} {F : Operand} {xs : List Operand} {vs cap : List Value} {tys : Array TypeId} (hF : val e F = some (.func (.func f) #[] cap.toArray)) (hxs : vals e xs = some vs)
    (hc : Fun P f (vs ++ cap) w R) (h : ∀ v w', R v w' → K ((d, v) :: e) w') (hg : Wants ops e g := by exact True.intro) (hn : Nat.blt d n = true := by rfl) :
    Step P n ops Q ⟨some d, .call { callee := .value F, args := xs.toArray, argTypes := tys }, ty, pos, af, g⟩ K e w := by
  intro a ha K' hK
  obtain ⟨⟨fn, hf, hb, hname⟩, hcalls⟩ := hc
  rw [if_pos (wants ha hg)]
  unfold Oper.wp
  rw [exec_call rfl (ha.eval hF) (ha.evals hxs) hf hb hname]
  simp only [Oper.upon]
  refine hcalls.mono ?_
  rintro x w' ⟨v, rfl, hR⟩
  exact hK _ _ _ (ha.put hn v) (h v w' hR)
end
end Go.Proofs.Zed
