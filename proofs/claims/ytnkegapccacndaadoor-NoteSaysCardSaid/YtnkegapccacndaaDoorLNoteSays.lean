/-
  What is proved: NoteSays: where the listed variables hold what is listed, the law returns true for every input and its arguments read as they did. Conditions: none.
-/
import Derived.Test.YtnkegapccacndaaDoorKPB
import Derived.Test.YtnkegapccacndaaDoorRows
import Derived.WalkKit
import Derived.ProofKit
import Derived.OpenShut
set_option linter.unusedVariables false
set_option linter.unusedSimpArgs false
set_option linter.unnecessarySimpa false
set_option maxRecDepth 4000
namespace Go.Proofs.YtnkegapccacndaaDoor
open Go.Rb Go.Kx Go.Proofs.Y Go.ChangeAt Go.RowKit
set_option maxRecDepth 100000 in
theorem noteSays_lifted (os : Os) (started : os.Started) (H : Type) (enc : TypeId × Value → H) :
    ReturnsInHanded {} Tryd.checked os 4 .any (fun w args => (Rows.noteSaysSpec.pre enc Tryd.prog Tryd.f4 Rows.noteSaysRow.domain false w args ∧ laidMetH Tryd.prog laidL w) ∧ sizedMet enc Tryd.prog Tryd.f4 (OpenSpec.ofChange Rows.noteSaysSpec) false w args)
      (Rows.noteSaysSpec.post enc Tryd.prog Tryd.f4 false true false false) := by
  refine said_of_laid (C := Tryd.checked) (tb := 4) own started (by kernel_rfl) Tryd.func4
    (ChangeSpec.witness_shaped (enc := enc) (C := Tryd.checked) (os := os) (X := fun w _ => laidMetH Tryd.prog laidL w) false (World.laidAll Tryd.prog os laidL) #[.agg #[.int .i64 0, .int .i64 0, .int .i64 0, .slice none 0 0], .agg #[.int .i64 0, .int .i64 0, .int .i64 0, .slice none 0 0], .string ⟨#[]⟩] 8 (World.laidAll_os _ _ _)
      (World.shaped_of_ZipB (by kernel_rfl) (by kernel_rfl)) (by kernel_rfl) (by kernel_rfl) (by kernel_rfl) (laid_met os _))
    ?_ rfl ?_ (by kernel_rfl) Tryd.underlying4 ?_
  · rw [Tryd.params4]
    intro t ht
    simp only [List.mem_cons, List.not_mem_nil, or_false] at ht
    exact ⟨12, by rcases ht with rfl | rfl | rfl <;> kernel_rfl⟩
  · intro ds hds
    rw [Tryd.params4] at hds
    match ds, hds with
    | [d0, d1, d2], _ => rfl
  · rw [Tryd.params4]
    intro css hty W vs hsh hlaid
    refine law_calls R_rainbooklaw_NoteSays_ok (by kernel_rfl) ?_ css hty W vs (glob_of hlaid hsh)
    intro x hx
    obtain ⟨h1, h2, h3⟩ := hx
    exact noteSays_eq _ _ _ (op_rec x.1 h1) (op_rec x.2.1 h2)
end Go.Proofs.YtnkegapccacndaaDoor
