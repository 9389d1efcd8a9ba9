/-
  What is proved: StoreSays: the given statement: for every input the law returns true and its arguments read as they did. Conditions: none.
-/
import Derived.Test.YtoihccclnkhmaaaLStoreSays
set_option linter.unusedVariables false
set_option linter.unusedSimpArgs false
set_option linter.unnecessarySimpa false
set_option maxRecDepth 4000
namespace Go.Proofs.Ytoihccclnkhmaaa
theorem storeSays_joined : joinedFacts Try.prog 23 Try.f23 Rows.storeSaysSpec Rows.storeSaysRow = true := by
  unfold joinedFacts
  rw [may_enter, lifts_final, the_make]
  kernel_rfl
theorem storeSays_holds : Rows.StoreSaysSaid :=
  OpenClaim.holds_of_wide 23 Try.f23 rfl rfl rfl rfl rfl rfl rfl ⟨rfl, rfl, rfl, rfl, rfl⟩ rfl rfl rfl rfl rfl (by kernel_rfl) Try.func23 storeSays_joined
    (of_decide_eq_true (by kernel_rfl)) (by unfold Func.isWrapper; first | (rw [if_pos (by decide +kernel)]; kernel_rfl) | (rw [if_neg (by decide +kernel)]; exact ⟨rfl, rfl⟩))
    (fun os started H enc _ => storeSays_lifted os started H enc)
#print axioms storeSays_holds
end Go.Proofs.Ytoihccclnkhmaaa
