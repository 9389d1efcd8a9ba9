/-
  What is proved: DiskSays: the given card: for every input the law returns true and its arguments read as they did; the listed variables are tied to the program's text. Conditions: none.
-/
import Derived.Test.YtnkegapccacndaaDoorLDiskSays
import Derived.Test.YtnkegapccacndaaDoorTie
import Derived.Test.YtnkegapccacndaaDoorCards
import Derived.SevenTiedAt
set_option linter.unusedVariables false
set_option linter.unusedSimpArgs false
set_option linter.unnecessarySimpa false
set_option maxRecDepth 4000
namespace Go.Proofs.YtnkegapccacndaaDoor
theorem diskSays_joined : joinedFacts Tryd.prog 6 Tryd.f6 Rows.diskSaysSpec Rows.diskSaysRow = true := by kernel_rfl
theorem diskSays_row : Rows.DiskSaysSaid :=
 OpenClaim.holds_of_wide 6 Tryd.f6 rfl rfl rfl rfl rfl rfl rfl ⟨rfl, rfl, rfl, rfl, rfl⟩ rfl rfl rfl rfl rfl (by kernel_rfl) Tryd.func6 diskSays_joined
  (of_decide_eq_true (by kernel_rfl)) (by unfold Func.isWrapper; first | (rw [if_pos (by decide +kernel)]; kernel_rfl) | (rw [if_neg (by decide +kernel)]; exact ⟨rfl, rfl⟩))
  (fun os started H enc _ => diskSays_lifted os started H enc)
theorem diskSays_holds : Rows.DiskSaysCardSaid :=
 Claim7.holds_tied_plain_at .later [] [.data, .data, .data, .data, .sentinel, .sentinel, .pinned] true (true, "622178e5562deee8535dd68ddac66a1d75b07eff13903cdbdc75a11392433179") true
  diskSays_row (fun _ h => by cases h) (by kernel_rfl) (fun _ h => by cases h) diskSays_row_tie rfl ⟨rfl, rfl⟩ (by kernel_rfl) rfl
  (fun f fn hf hfn => by
   obtain rfl : f = 6 := Option.some.inj ((show Tryd.prog.funcNamed "rainbook/rainbooklaw.DiskSays" = some 6 by kernel_rfl).symm.trans hf) |>.symm
   obtain rfl : fn = Tryd.f6 := (Option.some.inj (Tryd.func6.symm.trans hfn)).symm
   exact ⟨by kernel_rfl, fun j t ht => by
    rw [Tryd.params6] at ht
    have hm : t ∈ [37, 24, 3, 37] := by simpa using Array.mem_of_getElem? ht
    have hall : ([37, 24, 3, 37].all fun u => !Tryd.prog.wantsStandIn u) = true := by kernel_rfl
    exact (show Tryd.prog.wantsStandIn t = false by simpa using List.all_eq_true.1 hall t hm)⟩)
  (by kernel_rfl)
#print axioms diskSays_holds
end Go.Proofs.YtnkegapccacndaaDoor
