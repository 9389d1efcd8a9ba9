/-
  What is proved: ZigSays: for every input the law returns true and its arguments read as they did. Conditions: none.
-/
import Derived.Test.YtoihccclnkhmaaaC2b
import Derived.Test.YtoihccclnkhmaaaTyO
import Derived.Test.YtoihccclnkhmaaaJf
import Derived.Test.YtoihccclnkhmaaaRows
import Derived.WalkKit
import Derived.ProofKit
import Derived.OpenShut
set_option linter.unusedVariables false
set_option linter.unusedSimpArgs false
set_option maxRecDepth 4000
namespace Go.Proofs.Ytoihccclnkhmaaa
open Go.Rb Go.Proofs.Y Go.ChangeAt Go.RowKit
theorem own : ownKnob Try.prog.godebug = none := by kernel_rfl
set_option maxRecDepth 100000 in
theorem zigSays_lifted (os : Os) (started : os.Started) (H : Type) (enc : TypeId × Value → H) :
    ReturnsInHanded {} Try.checked os 8 .any (Rows.zigSaysSpec.pre6 enc Try.prog Try.f8 Rows.zigSaysRow.domain false) (Rows.zigSaysSpec.post enc Try.prog Try.f8 false true false false) := by
  refine said_of_fun (C := Try.checked) (tb := 4) own started (by kernel_rfl) Try.func8
    (ChangeSpec.witness6 (enc := enc) (C := Try.checked) false ⟨#[], #[.slice none 0 0, .int .i64 0], []⟩ 8 (by kernel_rfl) (by kernel_rfl) (by kernel_rfl) (by kernel_rfl))
    ?_ rfl ?_ (by kernel_rfl) Try.underlying4 ?_
  · rw [Try.params8]
    intro t ht
    simp only [List.mem_cons, List.not_mem_nil, or_false] at ht
    exact ⟨7, by rcases ht with rfl | rfl <;> kernel_rfl⟩
  · intro ds hds
    rw [Try.params8] at hds
    match ds, hds with
    | [d0, d1], _ => rfl
  · rw [Try.params8]
    intro css hc
    cases hc with | cons q0 hc =>
    cases hc with | cons q1 hc =>
    cases hc
    obtain ⟨l, rfl, k0⟩ := op_bits q0
    obtain ⟨v, rfl, k1⟩ := op_int q1
    have h0 : l.length ≤ 140737488351232 := by have := k0.1; omega
    have hfin := zigSays_fun l v (by omega)
    show Fun Try.prog 8 (argsA Try.prog _ _) nomem _ nomem
    simpa only [argsA, argA, ag3, ag36, inC, boC, csR, List.map_cons, List.map_nil] using hfin
end Go.Proofs.Ytoihccclnkhmaaa
