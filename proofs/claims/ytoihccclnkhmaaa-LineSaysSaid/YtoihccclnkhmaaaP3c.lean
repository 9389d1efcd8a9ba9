/-
  What is proved: closed facts on points in bits. Conditions: none.
-/
import Derived.Test.YtoihccclnkhmaaaP3
import Derived.Test.YtoihccclnkhmaaaP4
set_option linter.unusedVariables false
set_option linter.unusedSimpArgs false
set_option maxRecDepth 4000
namespace Go.Rb
def pk3 : List Bool := [true, true, false, false, false, false, true, false, true, false, true, false, false, false, false, true, false, false, false, false, false, false, false, false, false, false, false, false, false, true, false, false]
theorem pk3_pack : packR pts3 = (pk3, 0) := by decide +kernel
theorem pk3_un : unpackR pk3 3 = (pts3, 0) := by decide +kernel
theorem pk3_torn : unpackR pk3 2 = ([], 8) := by decide +kernel
theorem pk3_take : ztakeR pk3 = (10, pk3.drop 8, 0) := by decide +kernel
theorem pk3_len : pk3.length = 32 := rfl
theorem late33 : checkL [⟨3, 0⟩, ⟨3, 0⟩] = 7 := by decide +kernel
end Go.Rb
