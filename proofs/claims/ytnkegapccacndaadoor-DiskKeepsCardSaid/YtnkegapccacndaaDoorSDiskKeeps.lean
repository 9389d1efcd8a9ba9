/-
  What is proved: DiskKeeps: the given card: for every input the law returns true and its arguments read as they did; the listed variables are tied to the program's text. Conditions: none.
-/
import Derived.Test.YtnkegapccacndaaDoorLDiskKeeps
import Derived.Test.YtnkegapccacndaaDoorTie
import Derived.Test.YtnkegapccacndaaDoorCards
import Derived.SevenTiedAt
set_option linter.unusedVariables false
set_option linter.unusedSimpArgs false
set_option linter.unnecessarySimpa false
set_option maxRecDepth 4000
namespace Go.Proofs.YtnkegapccacndaaDoor
theorem diskKeeps_joined : joinedFacts Tryd.prog 5 Tryd.f5 Rows.diskKeepsSpec Rows.diskKeepsRow = true := by kernel_rfl
theorem diskKeeps_row : Rows.DiskKeepsSaid :=
  OpenClaim.holds_of_wide 5 Tryd.f5 rfl rfl rfl rfl rfl rfl rfl ⟨rfl, rfl, rfl, rfl, rfl⟩ rfl rfl rfl rfl rfl (by kernel_rfl) Tryd.func5 diskKeeps_joined
    (of_decide_eq_true (by kernel_rfl)) (by unfold Func.isWrapper; first | (rw [if_pos (by decide +kernel)]; kernel_rfl) | (rw [if_neg (by decide +kernel)]; exact ⟨rfl, rfl⟩))
    (fun os started H enc _ => diskKeeps_lifted os started H enc)
theorem diskKeeps_holds : Rows.DiskKeepsCardSaid :=
  Claim7.holds_tied_plain_at .later [] [.data, .data, .data, .data, .sentinel, .sentinel, .pinned] true (true, "622178e5562deee8535dd68ddac66a1d75b07eff13903cdbdc75a11392433179") true
    diskKeeps_row (fun _ h => by cases h) (by kernel_rfl) (fun _ h => by cases h) diskKeeps_row_tie rfl ⟨rfl, rfl⟩ (by kernel_rfl) rfl
    (fun f fn hf hfn => by
      obtain rfl : f = 5 := Option.some.inj ((show Tryd.prog.funcNamed "rainbook/rainbooklaw.DiskKeeps" = some 5 by kernel_rfl).symm.trans hf) |>.symm
      obtain rfl : fn = Tryd.f5 := (Option.some.inj (Tryd.func5.symm.trans hfn)).symm
      exact ⟨by kernel_rfl, fun j t ht => by
        rw [Tryd.params5] at ht
        have hm : t ∈ [34, 34, 3] := by simpa using Array.mem_of_getElem? ht
        have hall : ([34, 34, 3].all fun u => !Tryd.prog.wantsStandIn u) = true := by kernel_rfl
        exact (show Tryd.prog.wantsStandIn t = false by simpa using List.all_eq_true.1 hall t hm)⟩)
    (by kernel_rfl)
#print axioms diskKeeps_holds
end Go.Proofs.YtnkegapccacndaaDoor
