/-
  What is proved: WorldStands: where the listed variables hold what is listed, the law returns true for every input and its arguments read as they did. Conditions: none.
-/
import Derived.Test.YtnkegapccacndaaGreatDoorKPD
import Derived.Test.YtnkegapccacndaaGreatDoorRows
import Derived.WalkKit
import Derived.ProofKit
import Derived.OpenShut
set_option linter.unusedVariables false
set_option linter.unusedSimpArgs false
set_option linter.unnecessarySimpa false
set_option maxRecDepth 4000
namespace Go.Proofs.YtnkegapccacndaaGreatDoor
open Go.Rb Go.Kx Go.Proofs.Y Go.ChangeAt Go.RowKit
set_option maxRecDepth 100000 in
theorem worldStands_lifted (os : Os) (started : os.Started) (H : Type) (enc : TypeId × Value → H) :
    ReturnsInHanded {} Tryz.checked os 13 .any (fun w args => (Rows.worldStandsSpec.pre enc Tryz.prog Tryz.f13 Rows.worldStandsRow.domain false w args ∧ laidMetH Tryz.prog laidL w) ∧ sizedMet enc Tryz.prog Tryz.f13 (OpenSpec.ofChange Rows.worldStandsSpec) false w args)
      (Rows.worldStandsSpec.post enc Tryz.prog Tryz.f13 false true false false) := by
  refine said_of_laid (C := Tryz.checked) (tb := 4) own started (by kernel_rfl) Tryz.func13
    (ChangeSpec.witness_shaped (enc := enc) (C := Tryz.checked) (os := os) (X := fun w _ => laidMetH Tryz.prog laidL w) false (World.laidAll Tryz.prog os laidL) #[.agg #[.slice none 0 0, .slice none 0 0, .slice none 0 0, .bool false, .slice none 0 0]] 8 (World.laidAll_os _ _ _)
      (World.shaped_of_ZipB (by kernel_rfl) (by kernel_rfl)) (by kernel_rfl) (by kernel_rfl) (by kernel_rfl) (laid_met os _))
    ?_ rfl ?_ (by kernel_rfl) Tryz.underlying4 ?_
  · rw [Tryz.params13]
    intro t ht
    simp only [List.mem_cons, List.not_mem_nil, or_false] at ht
    exact ⟨12, by rcases ht with rfl <;> kernel_rfl⟩
  · intro ds hds
    rw [Tryz.params13] at hds
    match ds, hds with
    | [d0], _ => rfl
  · rw [Tryz.params13]
    intro css hty W vs hsh hlaid
    refine law_calls R_rainbooklaw_WorldStands_ok (by kernel_rfl) ?_ css hty W vs (glob_of hlaid hsh)
    intro x hx
    obtain ⟨w, hw, h1, h2, h3⟩ := op_world x hx
    show F_rainbooklaw_WorldStands (show Wv from x) = some true
    rw [hw]
    exact worldStands_eq w h1 h2 h3
end Go.Proofs.YtnkegapccacndaaGreatDoor
