/-
  What is proved: NoteSays: the given card: for every input the law returns true and its arguments read as they did; the listed variables are tied to the program's text. Conditions: none.
-/
import Derived.Test.YtnkegapccacndaaDoorLNoteSays
import Derived.Test.YtnkegapccacndaaDoorTie
import Derived.Test.YtnkegapccacndaaDoorCards
import Derived.SevenTiedAt
set_option linter.unusedVariables false
set_option linter.unusedSimpArgs false
set_option linter.unnecessarySimpa false
set_option maxRecDepth 4000
namespace Go.Proofs.YtnkegapccacndaaDoor
theorem noteSays_joined : joinedFacts Tryd.prog 4 Tryd.f4 Rows.noteSaysSpec Rows.noteSaysRow = true := by kernel_rfl
theorem noteSays_row : Rows.NoteSaysSaid :=
  OpenClaim.holds_of_wide 4 Tryd.f4 rfl rfl rfl rfl rfl rfl rfl ⟨rfl, rfl, rfl, rfl, rfl⟩ rfl rfl rfl rfl rfl (by kernel_rfl) Tryd.func4 noteSays_joined
    (of_decide_eq_true (by kernel_rfl)) (by unfold Func.isWrapper; first | (rw [if_pos (by decide +kernel)]; kernel_rfl) | (rw [if_neg (by decide +kernel)]; exact ⟨rfl, rfl⟩))
    (fun os started H enc _ => noteSays_lifted os started H enc)
theorem noteSays_holds : Rows.NoteSaysCardSaid :=
  Claim7.holds_tied_plain_at .later [] [.data, .data, .data, .data, .sentinel, .sentinel, .pinned] true (true, "622178e5562deee8535dd68ddac66a1d75b07eff13903cdbdc75a11392433179") true
    noteSays_row (fun _ h => by cases h) (by kernel_rfl) (fun _ h => by cases h) noteSays_row_tie rfl ⟨rfl, rfl⟩ (by kernel_rfl) rfl
    (fun f fn hf hfn => by
      obtain rfl : f = 4 := Option.some.inj ((show Tryd.prog.funcNamed "rainbook/rainbooklaw.NoteSays" = some 4 by kernel_rfl).symm.trans hf) |>.symm
      obtain rfl : fn = Tryd.f4 := (Option.some.inj (Tryd.func4.symm.trans hfn)).symm
      exact ⟨by kernel_rfl, fun j t ht => by
        rw [Tryd.params4] at ht
        have hm : t ∈ [24, 24, 9] := by simpa using Array.mem_of_getElem? ht
        have hall : ([24, 24, 9].all fun u => !Tryd.prog.wantsStandIn u) = true := by kernel_rfl
        exact (show Tryd.prog.wantsStandIn t = false by simpa using List.all_eq_true.1 hall t hm)⟩)
    (by kernel_rfl)
#print axioms noteSays_holds
end Go.Proofs.YtnkegapccacndaaDoor
