/-
  What is proved: WorldSnap: the given card: for every input the law returns true and its arguments read as they did; the listed variables are tied to the program's text. Conditions: none.
-/
import Derived.Test.YtnkegapccacndaaGreatDoorLWorldSnap
import Derived.Test.YtnkegapccacndaaGreatDoorJf
import Derived.Test.YtnkegapccacndaaGreatDoorTie
import Derived.Test.YtnkegapccacndaaGreatDoorCards
import Derived.SevenTiedAt
set_option linter.unusedVariables false
set_option linter.unusedSimpArgs false
set_option linter.unnecessarySimpa false
set_option maxRecDepth 4000
namespace Go.Proofs.YtnkegapccacndaaGreatDoor
theorem worldSnap_joined : joinedFacts Tryz.prog 10 Tryz.f10 Rows.worldSnapSpec Rows.worldSnapRow = true := by
  unfold joinedFacts
  rw [may_enter, lifts_final, the_make]
  kernel_rfl
theorem worldSnap_row : Rows.WorldSnapSaid :=
  OpenClaim.holds_of_wide 10 Tryz.f10 rfl rfl rfl rfl rfl rfl rfl ⟨rfl, rfl, rfl, rfl, rfl⟩ rfl rfl rfl rfl rfl (by kernel_rfl) Tryz.func10 worldSnap_joined
    (of_decide_eq_true (by kernel_rfl)) (by unfold Func.isWrapper; first | (rw [if_pos (by decide +kernel)]; kernel_rfl) | (rw [if_neg (by decide +kernel)]; exact ⟨rfl, rfl⟩))
    (fun os started H enc _ => worldSnap_lifted os started H enc)
theorem worldSnap_holds : Rows.WorldSnapCardSaid :=
  Claim7.holds_tied_plain_at .later [] [.data, .data, .data, .data, .sentinel, .sentinel, .pinned] true (true, "fd5058a5286d32271cdb1a7a369f7a187e9a9b837220eb930f5496108c1ea2be") true
    worldSnap_row (fun _ h => by cases h) (by kernel_rfl) (fun _ h => by cases h) worldSnap_row_tie rfl ⟨rfl, rfl⟩ (by kernel_rfl) rfl
    (fun f fn hf hfn => by
      obtain rfl : f = 10 := Option.some.inj ((show Tryz.prog.funcNamed "rainbook/rainbooklaw.WorldSnap" = some 10 by kernel_rfl).symm.trans hf) |>.symm
      obtain rfl : fn = Tryz.f10 := (Option.some.inj (Tryz.func10.symm.trans hfn)).symm
      exact ⟨by kernel_rfl, fun j t ht => by
        rw [Tryz.params10] at ht
        have hm : t ∈ [30, 31, 3, 3] := by simpa using Array.mem_of_getElem? ht
        have hall : ([30, 31, 3, 3].all fun u => !Tryz.prog.wantsStandIn u) = true := by kernel_rfl
        exact (show Tryz.prog.wantsStandIn t = false by simpa using List.all_eq_true.1 hall t hm)⟩)
    (by kernel_rfl)
#print axioms worldSnap_holds
end Go.Proofs.YtnkegapccacndaaGreatDoor
