/- DeblockQuiet holds: for every input the law function answers true, and each argument reads afterwards as it read before. No condition. -/
import Derived.Test.YtnkckjebcpagnaaDq
import Derived.Test.YtnkckjebcpagnaaXa
set_option linter.unusedVariables false
namespace Go.Proofs.Ytnkckjebcpagnaa
open Go Go.RowKit Go.Proofs.Zed

def shDeblockQuiet : Sh := .cons (.agg (.cons (.int .i64) (.cons (.int .i64) .nil))) (.cons (.slc 1 (.int .u8)) (.cons (.agg (.cons .bool (.cons .bool (.cons (.int .i64) (.cons (.int .i64) .nil))))) .nil))
set_option maxRecDepth 100000 in
theorem DeblockQuiet_lifted (os : Os) (started : os.Started) (H : Type) (enc : TypeId × Value → H) :
    ReturnsInHanded {} Try.checked os 6 .any (Rows.deblockQuietSpec.pre6 enc Try.prog Try.f6 Rows.deblockQuietRow.domain false) (Rows.deblockQuietSpec.post enc Try.prog Try.f6 false true false false) := by
  refine returnsInHanded_of_change_sized (C := Try.checked) Try.own started (by kernel_rfl) Try.func6
    (ChangeSpec.witness6 (enc := enc) (C := Try.checked) false ⟨#[], #[.agg #[.int .i64 0, .int .i64 0], .slice none 0 0, .agg #[.bool false, .bool false, .int .i64 0, .int .i64 0]], []⟩ 8 (by kernel_rfl) (by kernel_rfl) (by kernel_rfl) (by kernel_rfl)) ?_
  intro W base args ds gs before hval hW _ hsz _
  refine law_calls (P := Try.prog) (tb := 4) shDeblockQuiet Try.laidOut (by kernel_rfl) rfl rfl (by kernel_rfl) (by kernel_rfl) (fun ds hds => ?_) ?_ W base args ds gs before hval hW hsz
  · match ds, hds with
    | [d1, d2, d3], _ => rfl
  · rintro W ⟨⟨a, b, ⟨⟩⟩, ⟨A, m, c, xs⟩, ⟨up, co, lv, sh, ⟨⟩⟩, ⟨⟩⟩ ⟨_, ⟨hr, _, hx, hc, _⟩, _⟩
    exact DeblockQuiet_fun (flat_u8 _ ▸ hr) (fun x hxx => wf_u8 (hx x hxx)) hc
theorem DeblockQuiet_holds : Rows.DeblockQuietSaid :=
  OpenClaim.holds_of_wide 6 Try.f6 rfl rfl rfl rfl rfl rfl rfl ⟨rfl, rfl, rfl, rfl, rfl⟩ rfl rfl rfl rfl rfl (by kernel_rfl) Try.func6 (by kernel_rfl)
    (of_decide_eq_true (by kernel_rfl)) (by unfold Func.isWrapper; first | (rw [if_pos (by decide +kernel)]; kernel_rfl) | (rw [if_neg (by decide +kernel)]; exact ⟨rfl, rfl⟩))
    (fun os started H enc _ => DeblockQuiet_lifted os started H enc)
end Go.Proofs.Ytnkckjebcpagnaa
#print axioms Go.Proofs.Ytnkckjebcpagnaa.DeblockQuiet_holds
