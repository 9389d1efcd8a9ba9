/-
  What is proved: WorldDoes: the given card: for every input the law returns true and its arguments read as they did; the listed variables are tied to the program's text. Conditions: none.
-/
import Derived.Test.YtnkegapccacndaaGreatDoorLWorldDoes
import Derived.Test.YtnkegapccacndaaGreatDoorJf
import Derived.Test.YtnkegapccacndaaGreatDoorTie
import Derived.Test.YtnkegapccacndaaGreatDoorCards
import Derived.SevenTiedAt
set_option linter.unusedVariables false
set_option linter.unusedSimpArgs false
set_option linter.unnecessarySimpa false
set_option maxRecDepth 4000
namespace Go.Proofs.YtnkegapccacndaaGreatDoor
theorem worldDoes_joined : joinedFacts Tryz.prog 4 Tryz.f4 Rows.worldDoesSpec Rows.worldDoesRow = true := by
 unfold joinedFacts
 rw [may_enter, lifts_final, the_make]
 kernel_rfl
theorem worldDoes_row : Rows.WorldDoesSaid :=
 OpenClaim.holds_of_wide 4 Tryz.f4 rfl rfl rfl rfl rfl rfl rfl ⟨rfl, rfl, rfl, rfl, rfl⟩ rfl rfl rfl rfl rfl (by kernel_rfl) Tryz.func4 worldDoes_joined
  (of_decide_eq_true (by kernel_rfl)) (by unfold Func.isWrapper; first | (rw [if_pos (by decide +kernel)]; kernel_rfl) | (rw [if_neg (by decide +kernel)]; exact ⟨rfl, rfl⟩))
  (fun os started H enc _ => worldDoes_lifted os started H enc)
theorem worldDoes_holds : Rows.WorldDoesCardSaid :=
 Claim7.holds_tied_plain_at .later [] [.data, .data, .data, .data, .sentinel, .sentinel, .pinned] true (true, "fd5058a5286d32271cdb1a7a369f7a187e9a9b837220eb930f5496108c1ea2be") true
  worldDoes_row (fun _ h => by cases h) (by kernel_rfl) (fun _ h => by cases h) worldDoes_row_tie rfl ⟨rfl, rfl⟩ (by kernel_rfl) rfl
  (fun f fn hf hfn => by
   obtain rfl : f = 4 := Option.some.inj ((show Tryz.prog.funcNamed "rainbook/rainbooklaw.WorldDoes" = some 4 by kernel_rfl).symm.trans hf) |>.symm
   obtain rfl : fn = Tryz.f4 := (Option.some.inj (Tryz.func4.symm.trans hfn)).symm
   exact ⟨by kernel_rfl, fun j t ht => by
    rw [Tryz.params4] at ht
    have hm : t ∈ [30, 41, 30] := by simpa using Array.mem_of_getElem? ht
    have hall : ([30, 41, 30].all fun u => !Tryz.prog.wantsStandIn u) = true := by kernel_rfl
    exact (show Tryz.prog.wantsStandIn t = false by simpa using List.all_eq_true.1 hall t hm)⟩)
  (by kernel_rfl)
#print axioms worldDoes_holds
end Go.Proofs.YtnkegapccacndaaGreatDoor
