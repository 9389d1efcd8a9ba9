/-
  What is proved: BitsBack: the given statement: for every input the law returns true and its arguments read as they did. Conditions: none.
-/
import Derived.Test.YtoihccclnkhmaaaLBitsBack
set_option linter.unusedVariables false
set_option linter.unusedSimpArgs false
set_option maxRecDepth 4000
namespace Go.Proofs.Ytoihccclnkhmaaa
theorem bitsBack_joined : joinedFacts Try.prog 7 Try.f7 Rows.bitsBackSpec Rows.bitsBackRow = true := by
  unfold joinedFacts
  rw [may_enter, lifts_final, the_make]
  kernel_rfl
theorem bitsBack_holds : Rows.BitsBackSaid :=
  OpenClaim.holds_of_wide 7 Try.f7 rfl rfl rfl rfl rfl rfl rfl ⟨rfl, rfl, rfl, rfl, rfl⟩ rfl rfl rfl rfl rfl (by kernel_rfl) Try.func7 bitsBack_joined
    (of_decide_eq_true (by kernel_rfl)) (by unfold Func.isWrapper; first | (rw [if_pos (by decide +kernel)]; kernel_rfl) | (rw [if_neg (by decide +kernel)]; exact ⟨rfl, rfl⟩))
    (fun os started H enc _ => bitsBack_lifted os started H enc)
#print axioms bitsBack_holds
end Go.Proofs.Ytoihccclnkhmaaa
