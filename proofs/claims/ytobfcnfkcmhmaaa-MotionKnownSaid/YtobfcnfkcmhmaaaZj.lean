/- A literal of structs: its cells are a block of one's own. -/
import Derived.Test.YtobfcnfkcmhmaaaZi
set_option linter.unusedVariables false
namespace Go.Proofs.Zed
open Go Go.RowKit
variable {P : Program} {n : Nat} {Q : Post} {e : Env} {w w0 : World} {ops : Array Oper} {d : Nat} {ty t : TypeId} {pos : String} {af : Array Edge} {rest : List Oper} {g : Option (Nat × Bool)} {X Y : Operand} {v : Value} {H : List Ent} {cs : List Value} {K : Env → World → Prop}
theorem Step.litb {el sz bts len : Nat} {z : List Value} {parts : List (Nat × Operand)} {ps : List (Nat × Value)} (hs : HS w0 H w) (ht : slcInfo P t = some (el, sz, bts)) (hz : ∃ zv, Zv P el zv ∧ zv.cells.toList = z) (hp : pvals e parts = some ps) (hsz : len * sz ≤ 16777216) (hlen : len ≤ 9223372036854775807)
    (hf : Instr.fill (fun i => some (i * sz, sz)) ((Array.range (len * sz)).map (z.toArray[· % z.toArray.size]!)) ps = some cs.toArray) (hcs : cs.length = len * sz) (h0 : len * sz ≠ 0)
    (h : ∀ b w', HS w0 (.blk b cs el :: H) w' → Below w.heap.size w w' → K ((d, .slice (some ⟨b, 0, none⟩) len len) :: e) w') (hg : Wants ops e g := by exact True.intro) (hn : Nat.blt d n = true := by rfl) :
    Step P n ops Q ⟨some d, .buildSlice t len parts.toArray, ty, pos, af, g⟩ K e w := by
  obtain ⟨zv, hzv, hzc⟩ := hz
  have hu : P.underlying t = some (.slice el) ∧ Sz P el sz := by
    unfold slcInfo at ht
    split at ht
    · rename_i e' hu
      split at ht
      · rename_i i hi
        injection ht with ht
        injection ht with h2 h3
        injection h3 with h3 h4
        subst h2
        exact ⟨hu, by unfold Sz; rw [hi]; simp [h3]⟩
      · cases ht
    · cases ht
  have hzc' : zv.cells = z.toArray := by rw [← hzc]
  refine Step.m (v := .slice (some ⟨w.heap.size, 0, none⟩) len len) (w' := w.alloc (.cells cs.toArray el)) (fun a ha => ?_) (h _ _ (hs.alloc cs el) ((Below.refl _ _).alloc (Nat.le_refl _) _)) hg hn
  have hps := pvals_eval ha hp
  have hps' : Array.map (fun x => (x.1, a.eval x.2)) parts.toArray = ps.toArray := by simp [hps]
  have hsz' : ¬ 2 ^ 24 < len * sz := by omega
  have hb : (Instr.buildSlice t len ps.toArray).run P w = .ok (.slice (some ⟨w.heap.size, 0, none⟩) len len) (w.alloc (.cells cs.toArray el)) := by
    unfold Instr.buildSlice
    rw [Sem.run_bind, run_underlying hu.1, Result.andThen_ok]
    simp only []
    rw [Sem.run_bind, run_sizeOf' hu.2, Result.andThen_ok]
    simp only [gt_iff_lt, hsz', if_false, h0]
    simp only [Sem.run_bind, run_zeroValue' hzv, Result.andThen_ok, Sem.run_pure, hzc', hf]
    simp [newRow]
  show ((do pure (.value (← Instr.buildSlice t len (Array.map (fun x => (x.1, a.eval x.2)) parts.toArray))) : Sem Next)).run P w = _
  rw [hps', Sem.run_bind, hb]
  rfl
theorem rdNil (w : World) : Rd w none 0 1 (u8s []) := Rd.nil w none 1
end Go.Proofs.Zed
