/-
  What is proved: BlockBack: for every input the law returns true and its arguments read as they did. Conditions: none.
-/
import Derived.Test.YtoihccclnkhmaaaC5b
import Derived.Test.YtoihccclnkhmaaaTyO
import Derived.Test.YtoihccclnkhmaaaJf
import Derived.Test.YtoihccclnkhmaaaRows
import Derived.WalkKit
import Derived.ProofKit
import Derived.OpenShut
set_option linter.unusedVariables false
set_option linter.unusedSimpArgs false
set_option maxRecDepth 4000
namespace Go.Proofs.Ytoihccclnkhmaaa
open Go.Rb Go.Proofs.Y Go.ChangeAt Go.RowKit
theorem own : ownKnob Try.prog.godebug = none := by kernel_rfl
set_option maxRecDepth 100000 in
theorem blockBack_lifted (os : Os) (started : os.Started) (H : Type) (enc : TypeId × Value → H) :
    ReturnsInHanded {} Try.checked os 15 .any (Rows.blockBackSpec.pre6 enc Try.prog Try.f15 Rows.blockBackRow.domain false) (Rows.blockBackSpec.post enc Try.prog Try.f15 false true false false) := by
  refine said_of_fun (C := Try.checked) (tb := 4) own started (by kernel_rfl) Try.func15
    (ChangeSpec.witness6 (enc := enc) (C := Try.checked) false ⟨#[], #[.slice none 0 0, .int .i64 0, .int .i64 0], []⟩ 8 (by kernel_rfl) (by kernel_rfl) (by kernel_rfl) (by kernel_rfl))
    ?_ rfl ?_ (by kernel_rfl) Try.underlying4 ?_
  · rw [Try.params15]
    intro t ht
    simp only [List.mem_cons, List.not_mem_nil, or_false] at ht
    exact ⟨7, by rcases ht with rfl | rfl | rfl <;> kernel_rfl⟩
  · intro ds hds
    rw [Try.params15] at hds
    match ds, hds with
    | [d0, d1, d2], _ => rfl
  · rw [Try.params15]
    intro css hc
    cases hc with | cons q0 hc =>
    cases hc with | cons q1 hc =>
    cases hc with | cons q2 hc =>
    cases hc
    obtain ⟨ps, rfl, k0⟩ := op_pts q0
    obtain ⟨j, rfl, k1⟩ := op_int q1
    obtain ⟨k, rfl, k2⟩ := op_int q2
    have h0 : ps.length < 4611686018427387904 := by have := k0.1; omega
    have hfin := blockBack_fun ps j k h0
    show Fun Try.prog 15 (argsA Try.prog _ _) nomem _ nomem
    simpa only [argsA, argA, ag22, ag3, inC, boC, csR, List.map_cons, List.map_nil] using hfin
end Go.Proofs.Ytoihccclnkhmaaa
