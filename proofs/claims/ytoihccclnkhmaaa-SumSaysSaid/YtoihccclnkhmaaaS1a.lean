/-
  What is proved: SumSays: its row holds at each start. Conditions: none.
-/
import Derived.Test.YtoihccclnkhmaaaTyO
import Derived.Test.YtoihccclnkhmaaaRows
import Derived.WalkKit
import Derived.ProofKit
import Derived.OpenShut
set_option linter.unusedVariables false
set_option linter.unusedSimpArgs false
set_option maxRecDepth 4000
namespace Go.Proofs.Ytoihccclnkhmaaa
open Go.Rb Go.Proofs.Y Go.ChangeAt Go.RowKit
theorem own : ownKnob Try.prog.godebug = none := by kernel_rfl

set_option maxRecDepth 100000 in
theorem sumSays_lifted (os : Os) (started : os.Started) (H : Type) (enc : TypeId × Value → H) :
    ReturnsInHanded {} Try.checked os 3 .any (Rows.sumSaysSpec.pre6 enc Try.prog Try.f3 Rows.sumSaysRow.domain false) (Rows.sumSaysSpec.post enc Try.prog Try.f3 false true false false) := by
  refine said_of_fun (C := Try.checked) (tb := 4) own started (by kernel_rfl) Try.func3
    (ChangeSpec.witness6 (enc := enc) (C := Try.checked) false ⟨#[], #[.slice none 0 0, .agg #[.int .i64 0, .int .i64 0, .int .i64 0, .int .i64 0], .agg #[.int .i64 0, .int .i64 0, .int .i64 0, .int .i64 0]], []⟩ 8 (by kernel_rfl) (by kernel_rfl) (by kernel_rfl) (by kernel_rfl))
    ?_ rfl ?_ (by kernel_rfl) Try.underlying4 ?_
  · rw [Try.params3]
    intro t ht
    simp only [List.mem_cons, List.not_mem_nil, or_false] at ht
    exact ⟨5, by rcases ht with rfl | rfl | rfl <;> kernel_rfl⟩
  · intro ds hds
    rw [Try.params3] at hds
    match ds, hds with
    | [a, b, c], _ => rfl
  · rw [Try.params3]
    intro css hc
    cases hc with | cons h1 hc =>
    cases hc with | cons h2 hc =>
    cases hc with | cons h3 hc =>
    cases hc
    obtain ⟨ps, rfl, hn, hp⟩ := ty_pts h1
    obtain ⟨a, b, c, d, rfl⟩ := ty_sum h2
    obtain ⟨a2, b2, c2, d2, rfl⟩ := ty_sum h3
    have hl : ps.length < 4611686018427387904 := by unfold reachBytes at hn; omega
    have := sumSays_fun ps a b c d a2 b2 c2 d2 hl (fun p h => (hp p h).2)
    show Fun Try.prog 3 (argsA Try.prog _ _) nomem _ nomem
    simpa only [argsA, argA, ag22, ag24, List.map_cons, List.map_nil] using this
end Go.Proofs.Ytoihccclnkhmaaa
