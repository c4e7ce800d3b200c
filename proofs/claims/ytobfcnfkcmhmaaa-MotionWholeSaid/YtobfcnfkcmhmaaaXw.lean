/- MotionWhole holds: for every input the law function answers true, and each argument reads afterwards as it read before. No condition. -/
import Derived.Test.YtobfcnfkcmhmaaaLe
import Derived.Test.YtobfcnfkcmhmaaaXa
set_option linter.unusedVariables false
namespace Go.Proofs.Ytobfcnfkcmhmaaa
open Go Go.RowKit Go.Proofs.Zed

def shMotionWhole : Sh := .cons (.agg (.cons (.agg (.cons (.agg (.cons (.int .i64) (.cons (.int .i64) (.cons (.slc 1 (.int .u8)) .nil)))) (.cons (.agg (.cons (.int .i64) (.cons (.int .i64) (.cons (.slc 1 (.int .u8)) .nil)))) (.cons (.agg (.cons (.int .i64) (.cons (.int .i64) (.cons (.slc 1 (.int .u8)) .nil)))) .nil)))) .nil)) (.cons (.agg (.cons (.int .i64) (.cons (.agg (.cons (.int .i64) (.cons (.int .i64) (.cons (.int .i64) (.cons (.int .i64) .nil))))) (.cons (.agg (.cons (.int .i64) (.cons (.int .i64) .nil))) (.cons (.int .i64) .nil))))) .nil)
set_option maxRecDepth 100000 in
theorem MotionWhole_lifted (os : Os) (started : os.Started) (H : Type) (enc : TypeId × Value → H) :
    ReturnsInHanded {} Try.checked os 10 .any (Rows.motionWholeSpec.pre6 enc Try.prog Try.f10 Rows.motionWholeRow.domain false) (Rows.motionWholeSpec.post enc Try.prog Try.f10 false true false false) := by
  refine returnsInHanded_of_change_sized (C := Try.checked) Try.own started (by kernel_rfl) Try.func10
    (ChangeSpec.witness6 (enc := enc) (C := Try.checked) false ⟨#[], #[.agg #[.int .i64 0, .int .i64 0, .slice none 0 0, .int .i64 0, .int .i64 0, .slice none 0 0, .int .i64 0, .int .i64 0, .slice none 0 0], .agg #[.int .i64 0, .int .i64 0, .int .i64 0, .int .i64 0, .int .i64 0, .int .i64 0, .int .i64 0, .int .i64 0]], []⟩ 8 (by kernel_rfl) (by kernel_rfl) (by kernel_rfl) (by kernel_rfl)) ?_
  intro W base args ds gs before hval hW _ hsz _
  refine law_calls (P := Try.prog) (tb := 4) shMotionWhole Try.laidOut (by kernel_rfl) rfl rfl (by kernel_rfl) (by kernel_rfl) (fun ds hds => ?_) ?_ W base args ds gs before hval hW hsz
  · match ds, hds with
    | [d1, d2], _ => rfl
  · rintro W ⟨⟨⟨⟨W0, H0, ⟨A0, m0, c0, xs0⟩, ⟨⟩⟩, ⟨W1, H1, ⟨A1, m1, c1, xs1⟩, ⟨⟩⟩, ⟨W2, H2, ⟨A2, m2, c2, xs2⟩, ⟨⟩⟩, ⟨⟩⟩, ⟨⟩⟩, ⟨n, ⟨X, Y, bw, bh, ⟨⟩⟩, ⟨vx, vy, ⟨⟩⟩, kd, ⟨⟩⟩, ⟨⟩⟩ ⟨⟨⟨⟨_, _, ⟨hr0, _, hx0, hc0, hz0⟩, _⟩, ⟨_, _, ⟨hr1, _, hx1, hc1, hz1⟩, _⟩, ⟨_, _, ⟨hr2, _, hx2, hc2, hz2⟩, _⟩, _⟩, _⟩, _, _⟩
    exact MotionWhole_fun (flat_u8 _ ▸ hr0) (fun x hxx => wf_u8 (hx0 x hxx)) (flat_u8 _ ▸ hr1) (fun x hxx => wf_u8 (hx1 x hxx)) (flat_u8 _ ▸ hr2) (fun x hxx => wf_u8 (hx2 x hxx)) hc0 hc1 hc2
theorem MotionWhole_holds : Rows.MotionWholeSaid :=
  OpenClaim.holds_of_wide 10 Try.f10 rfl rfl rfl rfl rfl rfl rfl ⟨rfl, rfl, rfl, rfl, rfl⟩ rfl rfl rfl rfl rfl (by kernel_rfl) Try.func10 (by kernel_rfl)
    (of_decide_eq_true (by kernel_rfl)) (by unfold Func.isWrapper; first | (rw [if_pos (by decide +kernel)]; kernel_rfl) | (rw [if_neg (by decide +kernel)]; exact ⟨rfl, rfl⟩))
    (fun os started H enc _ => MotionWhole_lifted os started H enc)
end Go.Proofs.Ytobfcnfkcmhmaaa
#print axioms Go.Proofs.Ytobfcnfkcmhmaaa.MotionWhole_holds
