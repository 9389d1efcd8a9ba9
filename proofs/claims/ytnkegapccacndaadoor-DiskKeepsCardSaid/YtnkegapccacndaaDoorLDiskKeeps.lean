/-
  What is proved: DiskKeeps: where the listed variables hold what is listed, the law returns true for every input and its arguments read as they did. Conditions: none.
-/
import Derived.Test.YtnkegapccacndaaDoorKPB
import Derived.Test.YtnkegapccacndaaDoorRows
import Derived.WalkKit
import Derived.ProofKit
import Derived.OpenShut
set_option linter.unusedVariables false
set_option linter.unusedSimpArgs false
set_option linter.unnecessarySimpa false
set_option maxRecDepth 4000
namespace Go.Proofs.YtnkegapccacndaaDoor
open Go.Rb Go.Kx Go.Proofs.Y Go.ChangeAt Go.RowKit
set_option maxRecDepth 100000 in
theorem diskKeeps_lifted (os : Os) (started : os.Started) (H : Type) (enc : TypeId × Value → H) :
    ReturnsInHanded {} Tryd.checked os 5 .any (fun w args => (Rows.diskKeepsSpec.pre enc Tryd.prog Tryd.f5 Rows.diskKeepsRow.domain false w args ∧ laidMetH Tryd.prog laidL w) ∧ sizedMet enc Tryd.prog Tryd.f5 (OpenSpec.ofChange Rows.diskKeepsSpec) false w args)
      (Rows.diskKeepsSpec.post enc Tryd.prog Tryd.f5 false true false false) := by
  refine said_of_laid (C := Tryd.checked) (tb := 4) own started (by kernel_rfl) Tryd.func5
    (ChangeSpec.witness_shaped (enc := enc) (C := Tryd.checked) (os := os) (X := fun w _ => laidMetH Tryd.prog laidL w) false (World.laidAll Tryd.prog os laidL) #[.slice none 0 0, .slice none 0 0, .int .i64 0] 8 (World.laidAll_os _ _ _)
      (World.shaped_of_ZipB (by kernel_rfl) (by kernel_rfl)) (by kernel_rfl) (by kernel_rfl) (by kernel_rfl) (laid_met os _))
    ?_ rfl ?_ (by kernel_rfl) Tryd.underlying4 ?_
  · rw [Tryd.params5]
    intro t ht
    simp only [List.mem_cons, List.not_mem_nil, or_false] at ht
    exact ⟨7, by rcases ht with rfl | rfl | rfl <;> kernel_rfl⟩
  · intro ds hds
    rw [Tryd.params5] at hds
    match ds, hds with
    | [d0, d1, d2], _ => rfl
  · rw [Tryd.params5]
    intro css hty W vs hsh hlaid
    refine law_calls R_rainbooklaw_DiskKeeps_ok (by kernel_rfl) ?_ css hty W vs (glob_of hlaid hsh)
    intro x hx
    obtain ⟨h1, h2, h3⟩ := hx
    have k1 := op_recs x.1 h1
    have k2 := op_recs x.2.1 h2
    exact diskKeeps_eq _ _ _ k1.1 k2.1 k1.2 k2.2
end Go.Proofs.YtnkegapccacndaaDoor
