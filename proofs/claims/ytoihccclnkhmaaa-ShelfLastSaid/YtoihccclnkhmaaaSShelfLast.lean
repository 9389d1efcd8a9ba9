/-
  What is proved: ShelfLast: the given statement: for every input the law returns true and its arguments read as they did. Conditions: none.
-/
import Derived.Test.YtoihccclnkhmaaaLShelfLast
set_option linter.unusedVariables false
set_option linter.unusedSimpArgs false
set_option linter.unnecessarySimpa false
set_option maxRecDepth 4000
namespace Go.Proofs.Ytoihccclnkhmaaa
theorem shelfLast_joined : joinedFacts Try.prog 21 Try.f21 Rows.shelfLastSpec Rows.shelfLastRow = true := by
  unfold joinedFacts
  rw [may_enter, lifts_final, the_make]
  kernel_rfl
theorem shelfLast_holds : Rows.ShelfLastSaid :=
  OpenClaim.holds_of_wide 21 Try.f21 rfl rfl rfl rfl rfl rfl rfl ⟨rfl, rfl, rfl, rfl, rfl⟩ rfl rfl rfl rfl rfl (by kernel_rfl) Try.func21 shelfLast_joined
    (of_decide_eq_true (by kernel_rfl)) (by unfold Func.isWrapper; first | (rw [if_pos (by decide +kernel)]; kernel_rfl) | (rw [if_neg (by decide +kernel)]; exact ⟨rfl, rfl⟩))
    (fun os started H enc _ => shelfLast_lifted os started H enc)
#print axioms shelfLast_holds
end Go.Proofs.Ytoihccclnkhmaaa
