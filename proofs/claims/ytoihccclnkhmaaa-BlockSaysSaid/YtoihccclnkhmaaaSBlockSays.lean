/-
  What is proved: BlockSays: the given statement: for every input the law returns true and its arguments read as they did. Conditions: none.
-/
import Derived.Test.YtoihccclnkhmaaaLBlockSays
set_option linter.unusedVariables false
set_option linter.unusedSimpArgs false
set_option maxRecDepth 4000
namespace Go.Proofs.Ytoihccclnkhmaaa
theorem blockSays_joined : joinedFacts Try.prog 14 Try.f14 Rows.blockSaysSpec Rows.blockSaysRow = true := by
  unfold joinedFacts
  rw [may_enter, lifts_final, the_make]
  kernel_rfl
theorem blockSays_holds : Rows.BlockSaysSaid :=
  OpenClaim.holds_of_wide 14 Try.f14 rfl rfl rfl rfl rfl rfl rfl ⟨rfl, rfl, rfl, rfl, rfl⟩ rfl rfl rfl rfl rfl (by kernel_rfl) Try.func14 blockSays_joined
    (of_decide_eq_true (by kernel_rfl)) (by unfold Func.isWrapper; first | (rw [if_pos (by decide +kernel)]; kernel_rfl) | (rw [if_neg (by decide +kernel)]; exact ⟨rfl, rfl⟩))
    (fun os started H enc _ => blockSays_lifted os started H enc)
#print axioms blockSays_holds
end Go.Proofs.Ytoihccclnkhmaaa
