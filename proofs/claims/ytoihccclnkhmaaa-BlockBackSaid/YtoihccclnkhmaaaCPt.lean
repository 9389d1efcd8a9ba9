/-
  What is proved: three points: what points computes. Conditions: none.
-/
import Derived.Test.YtoihccclnkhmaaaTy
import Derived.Test.YtoihccclnkhmaaaPA
set_option linter.unusedVariables false
set_option linter.unusedSimpArgs false
set_option maxRecDepth 4000
namespace Go.Proofs.Y
open Go.Rb
set_option maxHeartbeats 4000000 in
set_option maxRecDepth 50000 in
theorem points_fun  : Fun Try.prog 92 [] nomem (.own false 0 34 (Rw Pt.cs pts3)) nomem := by
 refine fun_of_awp Try.func92 rfl (by decide +kernel) (by decide +kernel) (Nat.le_of_ble_eq_true rfl) (fun _ _ => rfl) (fun _ _ => rfl) ?_
 refine seq_reg 1 fun L1 hL1 => ?_
 simp only [qq, seval, -Nat.reducePow, reduceIte, reduceCtorEq]
 refine nil_z hL1 ?_
 refine seq_reg 5 fun L2 hL2 => ?_
 simp only [qq, seval, -Nat.reducePow, reduceIte, reduceCtorEq]
 refine nil_z hL2 ?_
 refine awp_ret ?_
 try simp only [rk_state]
 refine ⟨_, 0, by simp only [qq, seval, -Nat.reducePow, reduceIte, reduceCtorEq, resA, Try.results92]; rfl, ?_, nomem_a, nomem_a⟩
 simp only [packA]
 exact wkR_own
end Go.Proofs.Y
