/-
  What is proved: LineSays: the given statement: for every input the law returns true and its arguments read as they did. Conditions: none.
-/
import Derived.Test.YtoihccclnkhmaaaLLineSays
set_option linter.unusedVariables false
set_option linter.unusedSimpArgs false
set_option maxRecDepth 4000
namespace Go.Proofs.Ytoihccclnkhmaaa
theorem lineSays_joined : joinedFacts Try.prog 10 Try.f10 Rows.lineSaysSpec Rows.lineSaysRow = true := by
  unfold joinedFacts
  rw [may_enter, lifts_final, the_make]
  kernel_rfl
theorem lineSays_holds : Rows.LineSaysSaid :=
  OpenClaim.holds_of_wide 10 Try.f10 rfl rfl rfl rfl rfl rfl rfl ⟨rfl, rfl, rfl, rfl, rfl⟩ rfl rfl rfl rfl rfl (by kernel_rfl) Try.func10 lineSays_joined
    (of_decide_eq_true (by kernel_rfl)) (by unfold Func.isWrapper; first | (rw [if_pos (by decide +kernel)]; kernel_rfl) | (rw [if_neg (by decide +kernel)]; exact ⟨rfl, rfl⟩))
    (fun os started H enc _ => lineSays_lifted os started H enc)
#print axioms lineSays_holds
end Go.Proofs.Ytoihccclnkhmaaa
