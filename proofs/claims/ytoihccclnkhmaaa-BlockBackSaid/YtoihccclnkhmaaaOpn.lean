/-
  What is proved: data of the program's types are what the plain types say. Conditions: none.
-/
import Derived.Test.YtoihccclnkhmaaaPA
set_option linter.unusedVariables false
set_option linter.unusedSimpArgs false
set_option maxRecDepth 4000
namespace Go.Rb

section
variable {P : Program}

theorem ty_int {t : TypeId} {cs : List C} (hu : P.underlying t = some (.int .i64)) (h : Ty P t cs) : ∃ n, cs = [.int .i64 n] ∧ inR64 n := by
  cases h with
  | bool b h => rw [hu] at h; cases h
  | int n h hw =>
    rw [hu] at h
    cases h
    refine ⟨n, rfl, ?_⟩
    simp only [Lit.wf, Bool.and_eq_true, decide_eq_true_eq] at hw
    exact hw
  | str s h => rw [hu] at h; cases h
  | sl rows h => rw [hu] at h; cases h
  | struct cs h => rw [hu] at h; cases h

theorem ty_bool {t : TypeId} {cs : List C} (hu : P.underlying t = some .bool) (h : Ty P t cs) : ∃ b, cs = [.bool b] := by
  cases h with
  | bool b h => exact ⟨b, rfl⟩
  | int n h hw => rw [hu] at h; cases h
  | str s h => rw [hu] at h; cases h
  | sl rows h => rw [hu] at h; cases h
  | struct cs h => rw [hu] at h; cases h

theorem ty_slice {t e : TypeId} {cs : List C} (hu : P.underlying t = some (.slice e)) (h : Ty P t cs) : ∃ rows, cs = [.sl e rows] ∧ rows.length * P.bytesOf e ≤ reachBytes ∧ ∀ r ∈ rows, Ty P e r := by
  cases h with
  | bool b h => rw [hu] at h; cases h
  | int n h hw => rw [hu] at h; cases h
  | str s h => rw [hu] at h; cases h
  | sl rows h hn hr => rw [hu] at h; cases h; exact ⟨rows, rfl, hn, hr⟩
  | struct cs h => rw [hu] at h; cases h

theorem ty_struct {t : TypeId} {fs : Array Field} {cs : List C} (hu : P.underlying t = some (.struct fs)) (h : Ty P t cs) : cs.length = P.cellsOf t ∧ ∀ f ∈ fs.toList, Ty P f.type ((cs.drop f.offset).take (P.cellsOf f.type)) := by
  cases h with
  | bool b h => rw [hu] at h; cases h
  | int n h hw => rw [hu] at h; cases h
  | str s h => rw [hu] at h; cases h
  | sl rows h => rw [hu] at h; cases h
  | struct cs h hl hf => rw [hu] at h; cases h; exact ⟨hl, hf⟩

theorem rows_of {α : Type} {e : TypeId} {en : α → List C} {ok : α → Prop} (h : ∀ r, Ty P e r → ∃ a, r = en a ∧ ok a) : ∀ rows : List (List C), (∀ r ∈ rows, Ty P e r) → ∃ l : List α, rows = l.map en ∧ ∀ a ∈ l, ok a
  | [], _ => ⟨[], rfl, by simp⟩
  | r :: rows, hr => by
    obtain ⟨a, rfl, ha⟩ := h r (hr r List.mem_cons_self)
    obtain ⟨l, rfl, hl⟩ := rows_of h rows (fun r h => hr r (List.mem_cons_of_mem _ h))
    exact ⟨a :: l, rfl, by simpa using ⟨ha, hl⟩⟩

theorem len1 {cs : List C} (h : cs.length = 1) : ∃ a, cs = [a] := by
  match cs, h with
  | [a], _ => exact ⟨a, rfl⟩
theorem len4 {cs : List C} (h : cs.length = 4) : ∃ a b c d, cs = [a, b, c, d] := by
  match cs, h with
  | [a, b, c, d], _ => exact ⟨a, b, c, d, rfl⟩
theorem len3 {cs : List C} (h : cs.length = 3) : ∃ a b c, cs = [a, b, c] := by
  match cs, h with
  | [a, b, c], _ => exact ⟨a, b, c, rfl⟩
theorem len2 {cs : List C} (h : cs.length = 2) : ∃ a b, cs = [a, b] := by
  match cs, h with
  | [a, b], _ => exact ⟨a, b, rfl⟩
end
end Go.Rb
