/-
  What is proved: StoreSays: for every input the law returns true and its arguments read as they did. Conditions: none.
-/
import Derived.Test.YtoihccclnkhmaaaKPB
import Derived.Test.YtoihccclnkhmaaaKPD
import Derived.Test.YtoihccclnkhmaaaJf
import Derived.Test.YtoihccclnkhmaaaRows
import Derived.WalkKit
import Derived.ProofKit
import Derived.OpenShut
set_option linter.unusedVariables false
set_option linter.unusedSimpArgs false
set_option linter.unnecessarySimpa false
set_option maxRecDepth 4000
namespace Go.Proofs.Ytoihccclnkhmaaa
open Go.Rb Go.Kx Go.Proofs.Y Go.ChangeAt Go.RowKit
theorem own : ownKnob Try.prog.godebug = none := by kernel_rfl
set_option maxRecDepth 100000 in
theorem storeSays_lifted (os : Os) (started : os.Started) (H : Type) (enc : TypeId × Value → H) :
    ReturnsInHanded {} Try.checked os 23 .any (Rows.storeSaysSpec.pre6 enc Try.prog Try.f23 Rows.storeSaysRow.domain false) (Rows.storeSaysSpec.post enc Try.prog Try.f23 false true false false) := by
  refine said_of_calls (C := Try.checked) (tb := 4) own started (by kernel_rfl) Try.func23
    (ChangeSpec.witness6 (enc := enc) (C := Try.checked) false ⟨#[], #[.agg #[.slice none 0 0], .agg #[.int .i64 0, .int .i64 0, .int .i64 0, .slice none 0 0], .slice none 0 0], []⟩ 8 (by kernel_rfl) (by kernel_rfl) (by kernel_rfl) (by kernel_rfl))
    ?_ rfl ?_ (by kernel_rfl) Try.underlying4 ?_
  · rw [Try.params23]
    intro t ht
    simp only [List.mem_cons, List.not_mem_nil, or_false] at ht
    exact ⟨7, by rcases ht with rfl | rfl | rfl <;> kernel_rfl⟩
  · intro ds hds
    rw [Try.params23] at hds
    match ds, hds with
    | [d0, d1, d2], _ => rfl
  · rw [Try.params23]
    refine law_calls R_rainbooklaw_StoreSays_ok (by kernel_rfl) ?_
    rintro ⟨s, r, l⟩ ⟨hs, hr, hl⟩
    exact storeSays_eq s r l (op_shelf s hs) (Nat.lt_of_le_of_lt (op_rec r hr) (by decide)) (by have := (op_recs l hl).1; omega) (fun q hq => by have := (op_recs l hl).2 q hq; omega)
end Go.Proofs.Ytoihccclnkhmaaa
