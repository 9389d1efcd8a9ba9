/-
  What is proved: DiskSays: where the listed variables hold what is listed, the law returns true for every input and its arguments read as they did. Conditions: none.
-/
import Derived.Test.YtnkegapccacndaaDoorKPB
import Derived.Test.YtnkegapccacndaaDoorRows
import Derived.WalkKit
import Derived.ProofKit
import Derived.OpenShut
set_option linter.unusedVariables false
set_option linter.unusedSimpArgs false
set_option linter.unnecessarySimpa false
set_option maxRecDepth 4000
namespace Go.Proofs.YtnkegapccacndaaDoor
open Go.Rb Go.Kx Go.Proofs.Y Go.ChangeAt Go.RowKit
set_option maxRecDepth 100000 in
theorem diskSays_lifted (os : Os) (started : os.Started) (H : Type) (enc : TypeId × Value → H) :
  ReturnsInHanded {} Tryd.checked os 6 .any (fun w args => (Rows.diskSaysSpec.pre enc Tryd.prog Tryd.f6 Rows.diskSaysRow.domain false w args ∧ laidMetH Tryd.prog laidL w) ∧ sizedMet enc Tryd.prog Tryd.f6 (OpenSpec.ofChange Rows.diskSaysSpec) false w args)
   (Rows.diskSaysSpec.post enc Tryd.prog Tryd.f6 false true false false) := by
 refine z6l (C := Tryd.checked) (tb := 4) own started (by kernel_rfl) Tryd.func6
  (ChangeSpec.witness_shaped (enc := enc) (C := Tryd.checked) (os := os) (X := fun w _ => laidMetH Tryd.prog laidL w) false (World.laidAll Tryd.prog os laidL) #[.agg #[.slice none 0 0, .slice none 0 0], .agg #[.int .i64 0, .int .i64 0, .int .i64 0, .slice none 0 0], .int .i64 0, .agg #[.slice none 0 0, .slice none 0 0]] 8 (World.laidAll_os _ _ _)
   (World.shaped_of_ZipB (by kernel_rfl) (by kernel_rfl)) (by kernel_rfl) (by kernel_rfl) (by kernel_rfl) (zaV os _))
  ?_ rfl ?_ (by kernel_rfl) Tryd.underlying4 ?_
 ·rw [Tryd.params6]
  intro t ht
  simp only [List.mem_cons, List.not_mem_nil, or_false] at ht
  exact ⟨12, by rcases ht with rfl | rfl | rfl | rfl <;> kernel_rfl⟩
 ·intro ds hds
  rw [Tryd.params6] at hds
  match ds, hds with
  | [d0, d1, d2, d3], _ => rfl
 ·rw [Tryd.params6]
  intro css hty W vs hsh hlaid
  refine z9F jz (by kernel_rfl) ?_ css hty W vs (zbK hlaid hsh)
  intro x hx
  obtain ⟨h1, h2, h3, h4⟩ := hx
  obtain ⟨d, hd, d1, d2⟩ := z8n x.1 h1
  obtain ⟨q, hq, _, _⟩ := z8n x.2.2.2 h4
  show Ze (show List Int × List Int from x.1) (show Rc from x.2.1) x.2.2.1 (show List Int × List Int from x.2.2.2) = some true
  rw [hd, hq]
  exact z7M d q _ _ d1 d2 (zcc x.2.1 h2)
end Go.Proofs.YtnkegapccacndaaDoor
