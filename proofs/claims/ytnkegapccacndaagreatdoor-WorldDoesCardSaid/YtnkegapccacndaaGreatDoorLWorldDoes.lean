/-
  What is proved: WorldDoes: where the listed variables hold what is listed, the law returns true for every input and its arguments read as they did. Conditions: none.
-/
import Derived.Test.YtnkegapccacndaaGreatDoorKPF
import Derived.Test.YtnkegapccacndaaGreatDoorRows
import Derived.WalkKit
import Derived.ProofKit
import Derived.OpenShut
set_option linter.unusedVariables false
set_option linter.unusedSimpArgs false
set_option linter.unnecessarySimpa false
set_option maxRecDepth 4000
namespace Go.Proofs.YtnkegapccacndaaGreatDoor
open Go.Rb Go.Kx Go.Proofs.Y Go.ChangeAt Go.RowKit
set_option maxRecDepth 100000 in
theorem worldDoes_lifted (os : Os) (started : os.Started) (H : Type) (enc : TypeId × Value → H) :
  ReturnsInHanded {} Tryz.checked os 4 .any (fun w args => (Rows.worldDoesSpec.pre enc Tryz.prog Tryz.f4 Rows.worldDoesRow.domain false w args ∧ laidMetH Tryz.prog laidL w) ∧ sizedMet enc Tryz.prog Tryz.f4 (OpenSpec.ofChange Rows.worldDoesSpec) false w args)
   (Rows.worldDoesSpec.post enc Tryz.prog Tryz.f4 false true false false) := by
 refine zlu (C := Tryz.checked) (tb := 4) own started (by kernel_rfl) Tryz.func4
  (ChangeSpec.witness_shaped (enc := enc) (C := Tryz.checked) (os := os) (X := fun w _ => laidMetH Tryz.prog laidL w) false (World.laidAll Tryz.prog os laidL) #[.agg #[.slice none 0 0, .slice none 0 0, .slice none 0 0, .bool false, .slice none 0 0], .agg #[.int .i64 0, .int .i64 0, .int .i64 0, .slice none 0 0], .agg #[.slice none 0 0, .slice none 0 0, .slice none 0 0, .bool false, .slice none 0 0]] 8 (World.laidAll_os _ _ _)
   (World.shaped_of_ZipB (by kernel_rfl) (by kernel_rfl)) (by kernel_rfl) (by kernel_rfl) (by kernel_rfl) (ztz os _))
  ?_ rfl ?_ (by kernel_rfl) Tryz.underlying4 ?_
 ·rw [Tryz.params4]
  intro t ht
  simp only [List.mem_cons, List.not_mem_nil, or_false] at ht
  exact ⟨12, by rcases ht with rfl | rfl | rfl <;> kernel_rfl⟩
 ·intro ds hds
  rw [Tryz.params4] at hds
  match ds, hds with
  | [d0, d1, d2], _ => rfl
 ·rw [Tryz.params4]
  intro css hty W vs hsh hlaid
  refine zr2 z4I (by kernel_rfl) ?_ css hty W vs (zuL hlaid hsh)
  intro x hx
  obtain ⟨g1, g2, g3⟩ := hx
  have hs := zsb x.1 g1
  obtain ⟨w, hw, h1, h2, h3⟩ := znA x.1 g1
  obtain ⟨v, hv, _⟩ := znA x.2.2 g3
  have h4 := zvu x.2.1 g2
  have hs2 : okS w.1 := by rw [← zsc hw]; exact hs
  show yY (show Wv from x.1) (show Hp from x.2.1) (show Wv from x.2.2) = some true
  rw [hw, hv]
  exact zny w v _ hs2 h1 h2 h3 h4
end Go.Proofs.YtnkegapccacndaaGreatDoor
