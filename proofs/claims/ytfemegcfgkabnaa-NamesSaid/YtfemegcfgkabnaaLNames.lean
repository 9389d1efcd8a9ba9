/-
  What is proved: Names: for every input the law returns true and its arguments read as they did. Conditions: none.
-/
import Derived.Test.YtfemegcfgkabnaaCN
import Derived.Test.YtfemegcfgkabnaaJf
import Derived.Test.YtfemegcfgkabnaaRows
import Derived.WalkKit
import Derived.ProofKit
import Derived.OpenShut
set_option linter.unusedVariables false
set_option linter.unusedSimpArgs false
set_option maxRecDepth 4000
namespace Go.Proofs.Ytfemegcfgkabnaa
open Go.Rb Go.Proofs.Y Go.ChangeAt Go.RowKit
theorem own : ownKnob Try.prog.godebug = none := by kernel_rfl
set_option maxRecDepth 100000 in
theorem names_lifted (os : Os) (started : os.Started) (H : Type) (enc : TypeId × Value → H) :
    ReturnsInHanded {} Try.checked os 3 .any (Rows.namesSpec.pre6 enc Try.prog Try.f3 Rows.namesRow.domain false) (Rows.namesSpec.post enc Try.prog Try.f3 false true false false) := by
  refine said_of_fun (C := Try.checked) (tb := 4) own started (by kernel_rfl) Try.func3
    (ChangeSpec.witness6 (enc := enc) (C := Try.checked) false ⟨#[], #[], []⟩ 8 (by kernel_rfl) (by kernel_rfl) (by kernel_rfl) (by kernel_rfl))
    ?_ rfl ?_ (by kernel_rfl) Try.underlying4 ?_
  · rw [Try.params3]
    intro t ht
    exact ⟨7, by cases ht⟩
  · intro ds hds
    rw [Try.params3] at hds
    match ds, hds with
    | [], _ => rfl
  · rw [Try.params3]
    intro css hc
    cases hc
    have hfin := names_fun
    show Fun Try.prog 3 (argsA Try.prog _ _) nomem _ nomem
    simpa only [argsA, argA, inC, boC, csR, List.map_cons, List.map_nil] using hfin
end Go.Proofs.Ytfemegcfgkabnaa
