/-
  What is proved: BlockSays: for every input the law returns true and its arguments read as they did. Conditions: none.
-/
import Derived.Test.YtoihccclnkhmaaaC5b
import Derived.Test.YtoihccclnkhmaaaTyO
import Derived.Test.YtoihccclnkhmaaaJf
import Derived.Test.YtoihccclnkhmaaaRows
import Derived.WalkKit
import Derived.ProofKit
import Derived.OpenShut
set_option linter.unusedVariables false
set_option linter.unusedSimpArgs false
set_option maxRecDepth 4000
namespace Go.Proofs.Ytoihccclnkhmaaa
open Go.Rb Go.Proofs.Y Go.ChangeAt Go.RowKit
theorem own : ownKnob Try.prog.godebug = none := by kernel_rfl
set_option maxRecDepth 100000 in
theorem blockSays_lifted (os : Os) (started : os.Started) (H : Type) (enc : TypeId × Value → H) :
    ReturnsInHanded {} Try.checked os 14 .any (Rows.blockSaysSpec.pre6 enc Try.prog Try.f14 Rows.blockSaysRow.domain false) (Rows.blockSaysSpec.post enc Try.prog Try.f14 false true false false) := by
  refine said_of_fun (C := Try.checked) (tb := 4) own started (by kernel_rfl) Try.func14
    (ChangeSpec.witness6 (enc := enc) (C := Try.checked) false ⟨#[], #[.slice none 0 0, .agg #[.int .i64 0, .int .i64 0, .int .i64 0, .slice none 0 0], .agg #[.int .i64 0, .int .i64 0, .int .i64 0, .slice none 0 0]], []⟩ 8 (by kernel_rfl) (by kernel_rfl) (by kernel_rfl) (by kernel_rfl))
    ?_ rfl ?_ (by kernel_rfl) Try.underlying4 ?_
  · rw [Try.params14]
    intro t ht
    simp only [List.mem_cons, List.not_mem_nil, or_false] at ht
    exact ⟨7, by rcases ht with rfl | rfl | rfl <;> kernel_rfl⟩
  · intro ds hds
    rw [Try.params14] at hds
    match ds, hds with
    | [d0, d1, d2], _ => rfl
  · rw [Try.params14]
    intro css hc
    cases hc with | cons q0 hc =>
    cases hc with | cons q1 hc =>
    cases hc with | cons q2 hc =>
    cases hc
    obtain ⟨ps, rfl, k0⟩ := op_pts q0
    obtain ⟨x, rfl, k1⟩ := op_bk q1
    obtain ⟨y, rfl, k2⟩ := op_bk q2
    have h0 : ps.length < 4611686018427387904 := by have := k0.1; omega
    have h1 : x.bits.length ≤ 140737488355200 := by have := k1.2.2.2.1; omega
    have h2 : y.bits.length ≤ 140737488355200 := by have := k2.2.2.2.1; omega
    have hfin := blockSays_fun ps x y h0 h1 h2
    show Fun Try.prog 14 (argsA Try.prog _ _) nomem _ nomem
    simpa only [argsA, argA, ag22, ag58, inC, boC, csR, List.map_cons, List.map_nil] using hfin
end Go.Proofs.Ytoihccclnkhmaaa
