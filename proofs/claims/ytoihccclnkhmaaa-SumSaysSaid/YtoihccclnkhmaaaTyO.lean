/-
  What is proved: data of this program are what the plain types say. Conditions: none.
-/
import Derived.Test.YtoihccclnkhmaaaJ
import Derived.Test.YtoihccclnkhmaaaOpn
set_option linter.unusedVariables false
set_option linter.unusedSimpArgs false
set_option maxRecDepth 4000
namespace Go.Proofs.Y
open Go.Rb

theorem ty_pt {cs : List C} (h : Ty Try.prog 34 cs) : ∃ p : Pt, cs = Pt.cs p ∧ (inR64 p.t ∧ inR64 p.v) := by
  obtain ⟨h1, h2⟩ := ty_struct Try.underlying34 h
  rw [sz34] at h1
  obtain ⟨a, b, rfl⟩ := len2 h1
  have ha := h2 _ (List.mem_cons_self)
  have hb := h2 _ (List.mem_cons_of_mem _ List.mem_cons_self)
  simp only [sz3, List.drop_zero, List.drop_succ_cons, List.take_succ_cons, List.take_zero] at ha hb
  obtain ⟨x, hx, hx'⟩ := ty_int un3 ha
  obtain ⟨y, hy, hy'⟩ := ty_int un3 hb
  cases hx; cases hy
  exact ⟨⟨x, y⟩, rfl, hx', hy'⟩

theorem ty_pts {cs : List C} (h : Ty Try.prog 22 cs) : ∃ ps : List Pt, cs = [.sl 34 (ptR ps)] ∧ ps.length * 16 ≤ reachBytes ∧ ∀ p ∈ ps, inR64 p.t ∧ inR64 p.v := by
  obtain ⟨rows, rfl, hn, hr⟩ := ty_slice un22 h
  obtain ⟨ps, rfl, hp⟩ := rows_of (en := Pt.cs) (ok := fun p => inR64 p.t ∧ inR64 p.v) (fun r hr => ty_pt hr) rows hr
  refine ⟨ps, rfl, ?_, hp⟩
  rw [by34] at hn
  simpa using hn

theorem ty_sum {cs : List C} (h : Ty Try.prog 24 cs) : ∃ a b c d, cs = [.int .i64 a, .int .i64 b, .int .i64 c, .int .i64 d] := by
  obtain ⟨h1, h2⟩ := ty_struct Try.underlying24 h
  rw [sz24] at h1
  obtain ⟨a, b, c, d, rfl⟩ := len4 h1
  have ha := h2 _ (List.mem_cons_self)
  have hb := h2 _ (List.mem_cons_of_mem _ List.mem_cons_self)
  have hc := h2 _ (List.mem_cons_of_mem _ (List.mem_cons_of_mem _ List.mem_cons_self))
  have hd := h2 _ (List.mem_cons_of_mem _ (List.mem_cons_of_mem _ (List.mem_cons_of_mem _ List.mem_cons_self)))
  simp only [sz3, List.drop_zero, List.drop_succ_cons, List.take_succ_cons, List.take_zero] at ha hb hc hd
  obtain ⟨x, hx, _⟩ := ty_int un3 ha
  obtain ⟨y, hy, _⟩ := ty_int un3 hb
  obtain ⟨z, hz, _⟩ := ty_int un3 hc
  obtain ⟨w, hw, _⟩ := ty_int un3 hd
  cases hx; cases hy; cases hz; cases hw
  exact ⟨x, y, z, w, rfl⟩
end Go.Proofs.Y
