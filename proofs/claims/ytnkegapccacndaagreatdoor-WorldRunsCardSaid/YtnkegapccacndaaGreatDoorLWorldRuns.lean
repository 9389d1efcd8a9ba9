/-
  What is proved: WorldRuns: where the listed variables hold what is listed, the law returns true for every input and its arguments read as they did. Conditions: none.
-/
import Derived.Test.YtnkegapccacndaaGreatDoorKPF
import Derived.Test.YtnkegapccacndaaGreatDoorRows
import Derived.WalkKit
import Derived.ProofKit
import Derived.OpenShut
set_option linter.unusedVariables false
set_option linter.unusedSimpArgs false
set_option linter.unnecessarySimpa false
set_option maxRecDepth 4000
namespace Go.Proofs.YtnkegapccacndaaGreatDoor
open Go.Rb Go.Kx Go.Proofs.Y Go.ChangeAt Go.RowKit
set_option maxRecDepth 100000 in
theorem worldRuns_lifted (os : Os) (started : os.Started) (H : Type) (enc : TypeId × Value → H) :
  ReturnsInHanded {} Tryz.checked os 3 .any (fun w args => (Rows.worldRunsSpec.pre enc Tryz.prog Tryz.f3 Rows.worldRunsRow.domain false w args ∧ laidMetH Tryz.prog laidL w) ∧ sizedMet enc Tryz.prog Tryz.f3 (OpenSpec.ofChange Rows.worldRunsSpec) false w args)
   (Rows.worldRunsSpec.post enc Tryz.prog Tryz.f3 false true false false) := by
 refine zkO (C := Tryz.checked) (tb := 4) own started (by kernel_rfl) Tryz.func3
  (ChangeSpec.witness_shaped (enc := enc) (C := Tryz.checked) (os := os) (X := fun w _ => laidMetH Tryz.prog laidL w) false (World.laidAll Tryz.prog os laidL) #[.agg #[.slice none 0 0, .slice none 0 0, .slice none 0 0, .bool false, .slice none 0 0], .slice none 0 0] 8 (World.laidAll_os _ _ _)
   (World.shaped_of_ZipB (by kernel_rfl) (by kernel_rfl)) (by kernel_rfl) (by kernel_rfl) (by kernel_rfl) (zsQ os _))
  ?_ rfl ?_ (by kernel_rfl) Tryz.underlying4 ?_
 ·rw [Tryz.params3]
  intro t ht
  simp only [List.mem_cons, List.not_mem_nil, or_false] at ht
  exact ⟨12, by rcases ht with rfl | rfl <;> kernel_rfl⟩
 ·intro ds hds
  rw [Tryz.params3] at hds
  match ds, hds with
  | [d0, d1], _ => rfl
 ·rw [Tryz.params3]
  intro css hty W vs hsh hlaid
  refine zqj z4u (by kernel_rfl) ?_ css hty W vs (zu4 hlaid hsh)
  intro x hx
  obtain ⟨g1, g2⟩ := hx
  obtain ⟨w, hw, h1, h2, h3⟩ := zsP x.1 g1
  have h4 := zu3 x.2 g2
  show yU (show Wv from x.1) (show List Hp from x.2) = some true
  rw [hw]
  exact zmV w _ h1 h2 h3 h4.1 h4.2
end Go.Proofs.YtnkegapccacndaaGreatDoor
