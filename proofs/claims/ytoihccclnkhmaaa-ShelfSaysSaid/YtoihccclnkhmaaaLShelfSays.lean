/-
  What is proved: ShelfSays: for every input the law returns true and its arguments read as they did. Conditions: none.
-/
import Derived.Test.YtoihccclnkhmaaaKPB
import Derived.Test.YtoihccclnkhmaaaKPD
import Derived.Test.YtoihccclnkhmaaaJf
import Derived.Test.YtoihccclnkhmaaaRows
import Derived.WalkKit
import Derived.ProofKit
import Derived.OpenShut
set_option linter.unusedVariables false
set_option linter.unusedSimpArgs false
set_option linter.unnecessarySimpa false
set_option maxRecDepth 4000
namespace Go.Proofs.Ytoihccclnkhmaaa
open Go.Rb Go.Kx Go.Proofs.Y Go.ChangeAt Go.RowKit
theorem own : ownKnob Try.prog.godebug = none := by kernel_rfl
set_option maxRecDepth 100000 in
theorem shelfSays_lifted (os : Os) (started : os.Started) (H : Type) (enc : TypeId × Value → H) :
    ReturnsInHanded {} Try.checked os 18 .any (Rows.shelfSaysSpec.pre6 enc Try.prog Try.f18 Rows.shelfSaysRow.domain false) (Rows.shelfSaysSpec.post enc Try.prog Try.f18 false true false false) := by
  refine said_of_calls (C := Try.checked) (tb := 4) own started (by kernel_rfl) Try.func18
    (ChangeSpec.witness6 (enc := enc) (C := Try.checked) false ⟨#[], #[.agg #[.slice none 0 0], .slice none 0 0, .int .i64 0, .int .i64 0, .agg #[.slice none 0 0]], []⟩ 8 (by kernel_rfl) (by kernel_rfl) (by kernel_rfl) (by kernel_rfl))
    ?_ rfl ?_ (by kernel_rfl) Try.underlying4 ?_
  · rw [Try.params18]
    intro t ht
    simp only [List.mem_cons, List.not_mem_nil, or_false] at ht
    exact ⟨7, by rcases ht with rfl | rfl | rfl | rfl | rfl <;> kernel_rfl⟩
  · intro ds hds
    rw [Try.params18] at hds
    match ds, hds with
    | [d0, d1, d2, d3, d4], _ => rfl
  · rw [Try.params18]
    refine law_calls R_rainbooklaw_ShelfSays_ok (by kernel_rfl) ?_
    rintro ⟨s, l, i, n, t⟩ ⟨hs, hl, _, hn, _⟩
    exact shelfSays_eq s l i n t (op_shelf s hs) (by have := op_ents l hl; omega) (op_int n hn)
end Go.Proofs.Ytoihccclnkhmaaa
