/-
  What is proved: StoreParts: where the listed variables hold what is listed, the law returns true for every input and its arguments read as they did. Conditions: none.
-/
import Derived.Test.YtnkegapccacndaaGreatDoorKPC
import Derived.Test.YtnkegapccacndaaGreatDoorRows
import Derived.WalkKit
import Derived.ProofKit
import Derived.OpenShut
set_option linter.unusedVariables false
set_option linter.unusedSimpArgs false
set_option linter.unnecessarySimpa false
set_option maxRecDepth 4000
namespace Go.Proofs.YtnkegapccacndaaGreatDoor
open Go.Rb Go.Kx Go.Proofs.Y Go.ChangeAt Go.RowKit
set_option maxRecDepth 100000 in
theorem storeParts_lifted (os : Os) (started : os.Started) (H : Type) (enc : TypeId × Value → H) :
    ReturnsInHanded {} Tryz.checked os 5 .any (fun w args => (Rows.storePartsSpec.pre enc Tryz.prog Tryz.f5 Rows.storePartsRow.domain false w args ∧ laidMetH Tryz.prog laidL w) ∧ sizedMet enc Tryz.prog Tryz.f5 (OpenSpec.ofChange Rows.storePartsSpec) false w args)
      (Rows.storePartsSpec.post enc Tryz.prog Tryz.f5 false true false false) := by
  refine said_of_laid (C := Tryz.checked) (tb := 4) own started (by kernel_rfl) Tryz.func5
    (ChangeSpec.witness_shaped (enc := enc) (C := Tryz.checked) (os := os) (X := fun w _ => laidMetH Tryz.prog laidL w) false (World.laidAll Tryz.prog os laidL) #[.slice none 0 0, .int .i64 0] 8 (World.laidAll_os _ _ _)
      (World.shaped_of_ZipB (by kernel_rfl) (by kernel_rfl)) (by kernel_rfl) (by kernel_rfl) (by kernel_rfl) (laid_met os _))
    ?_ rfl ?_ (by kernel_rfl) Tryz.underlying4 ?_
  · rw [Tryz.params5]
    intro t ht
    simp only [List.mem_cons, List.not_mem_nil, or_false] at ht
    exact ⟨7, by rcases ht with rfl | rfl <;> kernel_rfl⟩
  · intro ds hds
    rw [Tryz.params5] at hds
    match ds, hds with
    | [d0, d1], _ => rfl
  · rw [Tryz.params5]
    intro css hty W vs hsh hlaid
    refine law_calls R_rainbooklaw_StoreParts_ok (by kernel_rfl) ?_ css hty W vs (glob_of hlaid hsh)
    intro x hx
    obtain ⟨h1, h2⟩ := hx
    have k1 := op_recs x.1 h1
    exact storeParts_eq _ _ k1.1 k1.2
end Go.Proofs.YtnkegapccacndaaGreatDoor
