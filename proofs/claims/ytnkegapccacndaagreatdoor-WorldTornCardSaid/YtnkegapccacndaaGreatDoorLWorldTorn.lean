/-
  What is proved: WorldTorn: where the listed variables hold what is listed, the law returns true for every input and its arguments read as they did. Conditions: none.
-/
import Derived.Test.YtnkegapccacndaaGreatDoorKPD
import Derived.Test.YtnkegapccacndaaGreatDoorRows
import Derived.WalkKit
import Derived.ProofKit
import Derived.OpenShut
set_option linter.unusedVariables false
set_option linter.unusedSimpArgs false
set_option linter.unnecessarySimpa false
set_option maxRecDepth 4000
namespace Go.Proofs.YtnkegapccacndaaGreatDoor
open Go.Rb Go.Kx Go.Proofs.Y Go.ChangeAt Go.RowKit
set_option maxRecDepth 100000 in
theorem worldTorn_lifted (os : Os) (started : os.Started) (H : Type) (enc : TypeId × Value → H) :
    ReturnsInHanded {} Tryz.checked os 12 .any (fun w args => (Rows.worldTornSpec.pre enc Tryz.prog Tryz.f12 Rows.worldTornRow.domain false w args ∧ laidMetH Tryz.prog laidL w) ∧ sizedMet enc Tryz.prog Tryz.f12 (OpenSpec.ofChange Rows.worldTornSpec) false w args)
      (Rows.worldTornSpec.post enc Tryz.prog Tryz.f12 false true false false) := by
  refine said_of_laid (C := Tryz.checked) (tb := 4) own started (by kernel_rfl) Tryz.func12
    (ChangeSpec.witness_shaped (enc := enc) (C := Tryz.checked) (os := os) (X := fun w _ => laidMetH Tryz.prog laidL w) false (World.laidAll Tryz.prog os laidL) #[.agg #[.slice none 0 0, .slice none 0 0, .slice none 0 0, .bool false, .slice none 0 0], .slice none 0 0, .int .i64 0] 8 (World.laidAll_os _ _ _)
      (World.shaped_of_ZipB (by kernel_rfl) (by kernel_rfl)) (by kernel_rfl) (by kernel_rfl) (by kernel_rfl) (laid_met os _))
    ?_ rfl ?_ (by kernel_rfl) Tryz.underlying4 ?_
  · rw [Tryz.params12]
    intro t ht
    simp only [List.mem_cons, List.not_mem_nil, or_false] at ht
    exact ⟨12, by rcases ht with rfl | rfl | rfl <;> kernel_rfl⟩
  · intro ds hds
    rw [Tryz.params12] at hds
    match ds, hds with
    | [d0, d1, d2], _ => rfl
  · rw [Tryz.params12]
    intro css hty W vs hsh hlaid
    refine law_calls R_rainbooklaw_WorldTorn_ok (by kernel_rfl) ?_ css hty W vs (glob_of hlaid hsh)
    intro x hx
    obtain ⟨g1, g2, _⟩ := hx
    obtain ⟨w, hw, h1, h2, h3⟩ := op_world x.1 g1
    have g2' : List.length (show List Ent from x.2.1) * Tryz.prog.bytesOf 77 ≤ reachBytes := g2.1
    rw [by77, reach_eq] at g2'
    show F_rainbooklaw_WorldTorn (show Wv from x.1) (show List Ent from x.2.1) x.2.2 = some true
    rw [hw]
    exact worldTorn_eq w _ _ h1 h2 h3 (by omega)
end Go.Proofs.YtnkegapccacndaaGreatDoor
