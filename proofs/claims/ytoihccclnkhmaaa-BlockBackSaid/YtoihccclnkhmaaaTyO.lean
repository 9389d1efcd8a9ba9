/-
  What is proved: data of this program are what the plain types say. Conditions: none.
-/
import Derived.Test.YtoihccclnkhmaaaTy
import Derived.Test.YtoihccclnkhmaaaOpn
set_option linter.unusedVariables false
set_option linter.unusedSimpArgs false
set_option maxRecDepth 4000
namespace Go.Proofs.Y
open Go.Rb
def Pt.ok (p : Pt) : Prop := inR64 p.t ∧ inR64 p.v
def Sm.ok (s : Sm) : Prop := inR64 s.n ∧ inR64 s.mn ∧ inR64 s.mx ∧ inR64 s.tot
def Ent.ok (p : Ent) : Prop := inR64 p.s ∧ inR64 p.t ∧ inR64 p.v
def lok {α : Type} (n : Nat) (ok : α → Prop) (l : List α) : Prop := l.length * n ≤ 140737488351232 ∧ ∀ a ∈ l, ok a
def Bk.ok (b : Bk) : Prop := inR64 b.n ∧ inR64 b.fr ∧ inR64 b.to ∧ lok 1 (fun _ => True) b.bits
def Rowd.ok (r : Rowd) : Prop := lok 48 Bk.ok r.blocks ∧ lok 16 Pt.ok r.head
def Rc.ok (r : Rc) : Prop := inR64 r.kind ∧ inR64 r.series ∧ inR64 r.n ∧ lok 24 Ent.ok r.e
theorem op_int {cs : List C} (h : Ty Try.prog 3 cs) : ∃ n, cs = inC n ∧ inR64 n := ty_int un3 h
theorem op_bool {cs : List C} (h : Ty Try.prog 4 cs) : ∃ b, cs = boC b ∧ True := by
  obtain ⟨b, hb⟩ := ty_bool un4 h
  exact ⟨b, hb, trivial⟩
theorem op_pt {cs : List C} (h : Ty Try.prog 34 cs) : ∃ a : Pt, cs = Pt.cs a ∧ Pt.ok a := by
  obtain ⟨h1, h2⟩ := ty_struct Try.underlying34 h
  rw [sz34] at h1
  obtain ⟨c0, c1, rfl⟩ := len2 h1
  have g0 := h2 _ (List.mem_cons_self)
  have g1 := h2 _ (List.mem_cons_of_mem _ (List.mem_cons_self))
  simp only [sz3, List.drop_zero, List.drop_succ_cons, List.take_succ_cons, List.take_zero] at g0 g1
  obtain ⟨x0, e0, k0⟩ := op_int g0
  cases e0
  obtain ⟨x1, e1, k1⟩ := op_int g1
  cases e1
  exact ⟨⟨x0, x1⟩, rfl, ⟨k0, k1⟩⟩
theorem op_pts {cs : List C} (h : Ty Try.prog 22 cs) : ∃ l : List Pt, cs = [.sl 34 (Rw Pt.cs l)] ∧ lok 16 Pt.ok l := by
  obtain ⟨rows, rfl, hn, hr⟩ := ty_slice un22 h
  obtain ⟨l, rfl, hp⟩ := rows_of (en := Pt.cs) (ok := Pt.ok) (fun r hr => op_pt hr) rows hr
  refine ⟨l, rfl, ?_, hp⟩
  rw [by34] at hn
  simpa [reachBytes] using hn
theorem op_sm {cs : List C} (h : Ty Try.prog 24 cs) : ∃ a : Sm, cs = Sm.cs a ∧ Sm.ok a := by
  obtain ⟨h1, h2⟩ := ty_struct Try.underlying24 h
  rw [sz24] at h1
  obtain ⟨c0, c1, c2, c3, rfl⟩ := len4 h1
  have g0 := h2 _ (List.mem_cons_self)
  have g1 := h2 _ (List.mem_cons_of_mem _ (List.mem_cons_self))
  have g2 := h2 _ (List.mem_cons_of_mem _ (List.mem_cons_of_mem _ (List.mem_cons_self)))
  have g3 := h2 _ (List.mem_cons_of_mem _ (List.mem_cons_of_mem _ (List.mem_cons_of_mem _ (List.mem_cons_self))))
  simp only [sz3, List.drop_zero, List.drop_succ_cons, List.take_succ_cons, List.take_zero] at g0 g1 g2 g3
  obtain ⟨x0, e0, k0⟩ := op_int g0
  cases e0
  obtain ⟨x1, e1, k1⟩ := op_int g1
  cases e1
  obtain ⟨x2, e2, k2⟩ := op_int g2
  cases e2
  obtain ⟨x3, e3, k3⟩ := op_int g3
  cases e3
  exact ⟨⟨x0, x1, x2, x3⟩, rfl, ⟨k0, k1, k2, k3⟩⟩
theorem op_bits {cs : List C} (h : Ty Try.prog 36 cs) : ∃ l : List Bool, cs = [.sl 4 (Rw boC l)] ∧ lok 1 (fun _ => True) l := by
  obtain ⟨rows, rfl, hn, hr⟩ := ty_slice un36 h
  obtain ⟨l, rfl, hp⟩ := rows_of (en := boC) (ok := (fun _ => True)) (fun r hr => op_bool hr) rows hr
  refine ⟨l, rfl, ?_, hp⟩
  rw [by4] at hn
  simpa [reachBytes] using hn
theorem op_ints {cs : List C} (h : Ty Try.prog 43 cs) : ∃ l : List Int, cs = [.sl 3 (Rw inC l)] ∧ lok 8 inR64 l := by
  obtain ⟨rows, rfl, hn, hr⟩ := ty_slice un43 h
  obtain ⟨l, rfl, hp⟩ := rows_of (en := inC) (ok := inR64) (fun r hr => op_int hr) rows hr
  refine ⟨l, rfl, ?_, hp⟩
  rw [by3] at hn
  simpa [reachBytes] using hn
theorem op_bk {cs : List C} (h : Ty Try.prog 58 cs) : ∃ a : Bk, cs = bkC a ∧ Bk.ok a := by
  obtain ⟨h1, h2⟩ := ty_struct Try.underlying58 h
  rw [sz58] at h1
  obtain ⟨c0, c1, c2, c3, rfl⟩ := len4 h1
  have g0 := h2 _ (List.mem_cons_self)
  have g1 := h2 _ (List.mem_cons_of_mem _ (List.mem_cons_self))
  have g2 := h2 _ (List.mem_cons_of_mem _ (List.mem_cons_of_mem _ (List.mem_cons_self)))
  have g3 := h2 _ (List.mem_cons_of_mem _ (List.mem_cons_of_mem _ (List.mem_cons_of_mem _ (List.mem_cons_self))))
  simp only [sz3, sz36, List.drop_zero, List.drop_succ_cons, List.take_succ_cons, List.take_zero] at g0 g1 g2 g3
  obtain ⟨x0, e0, k0⟩ := op_int g0
  cases e0
  obtain ⟨x1, e1, k1⟩ := op_int g1
  cases e1
  obtain ⟨x2, e2, k2⟩ := op_int g2
  cases e2
  obtain ⟨x3, e3, k3⟩ := op_bits g3
  cases e3
  exact ⟨⟨x0, x1, x2, x3⟩, rfl, ⟨k0, k1, k2, k3⟩⟩
theorem op_bks {cs : List C} (h : Ty Try.prog 76 cs) : ∃ l : List Bk, cs = [.sl 58 (Rw bkC l)] ∧ lok 48 Bk.ok l := by
  obtain ⟨rows, rfl, hn, hr⟩ := ty_slice un76 h
  obtain ⟨l, rfl, hp⟩ := rows_of (en := bkC) (ok := Bk.ok) (fun r hr => op_bk hr) rows hr
  refine ⟨l, rfl, ?_, hp⟩
  rw [by58] at hn
  simpa [reachBytes] using hn
theorem op_row {cs : List C} (h : Ty Try.prog 78 cs) : ∃ a : Rowd, cs = rowC a ∧ Rowd.ok a := by
  obtain ⟨h1, h2⟩ := ty_struct Try.underlying78 h
  rw [sz78] at h1
  obtain ⟨c0, c1, rfl⟩ := len2 h1
  have g0 := h2 _ (List.mem_cons_self)
  have g1 := h2 _ (List.mem_cons_of_mem _ (List.mem_cons_self))
  simp only [sz22, sz76, List.drop_zero, List.drop_succ_cons, List.take_succ_cons, List.take_zero] at g0 g1
  obtain ⟨x0, e0, k0⟩ := op_bks g0
  cases e0
  obtain ⟨x1, e1, k1⟩ := op_pts g1
  cases e1
  exact ⟨⟨x0, x1⟩, rfl, ⟨k0, k1⟩⟩
theorem op_rows {cs : List C} (h : Ty Try.prog 65 cs) : ∃ l : List Rowd, cs = [.sl 78 (Rw rowC l)] ∧ lok 48 Rowd.ok l := by
  obtain ⟨rows, rfl, hn, hr⟩ := ty_slice un65 h
  obtain ⟨l, rfl, hp⟩ := rows_of (en := rowC) (ok := Rowd.ok) (fun r hr => op_row hr) rows hr
  refine ⟨l, rfl, ?_, hp⟩
  rw [by78] at hn
  simpa [reachBytes] using hn
theorem op_shelf {cs : List C} (h : Ty Try.prog 67 cs) : ∃ a : List Rowd, cs = (fun l => [.sl 78 (Rw rowC l)]) a ∧ (lok 48 Rowd.ok) a := by
  obtain ⟨h1, h2⟩ := ty_struct Try.underlying67 h
  rw [sz67] at h1
  obtain ⟨c0, rfl⟩ := len1 h1
  have g0 := h2 _ (List.mem_cons_self)
  simp only [sz65, List.drop_zero, List.drop_succ_cons, List.take_succ_cons, List.take_zero] at g0
  obtain ⟨x0, e0, k0⟩ := op_rows g0
  cases e0
  exact ⟨x0, rfl, k0⟩
theorem op_ent {cs : List C} (h : Ty Try.prog 97 cs) : ∃ a : Ent, cs = Ent.cs a ∧ Ent.ok a := by
  obtain ⟨h1, h2⟩ := ty_struct Try.underlying97 h
  rw [sz97] at h1
  obtain ⟨c0, c1, c2, rfl⟩ := len3 h1
  have g0 := h2 _ (List.mem_cons_self)
  have g1 := h2 _ (List.mem_cons_of_mem _ (List.mem_cons_self))
  have g2 := h2 _ (List.mem_cons_of_mem _ (List.mem_cons_of_mem _ (List.mem_cons_self)))
  simp only [sz3, List.drop_zero, List.drop_succ_cons, List.take_succ_cons, List.take_zero] at g0 g1 g2
  obtain ⟨x0, e0, k0⟩ := op_int g0
  cases e0
  obtain ⟨x1, e1, k1⟩ := op_int g1
  cases e1
  obtain ⟨x2, e2, k2⟩ := op_int g2
  cases e2
  exact ⟨⟨x0, x1, x2⟩, rfl, ⟨k0, k1, k2⟩⟩
theorem op_ents {cs : List C} (h : Ty Try.prog 86 cs) : ∃ l : List Ent, cs = [.sl 97 (Rw Ent.cs l)] ∧ lok 24 Ent.ok l := by
  obtain ⟨rows, rfl, hn, hr⟩ := ty_slice un86 h
  obtain ⟨l, rfl, hp⟩ := rows_of (en := Ent.cs) (ok := Ent.ok) (fun r hr => op_ent hr) rows hr
  refine ⟨l, rfl, ?_, hp⟩
  rw [by97] at hn
  simpa [reachBytes] using hn
theorem op_rc {cs : List C} (h : Ty Try.prog 104 cs) : ∃ a : Rc, cs = rcC a ∧ Rc.ok a := by
  obtain ⟨h1, h2⟩ := ty_struct Try.underlying104 h
  rw [sz104] at h1
  obtain ⟨c0, c1, c2, c3, rfl⟩ := len4 h1
  have g0 := h2 _ (List.mem_cons_self)
  have g1 := h2 _ (List.mem_cons_of_mem _ (List.mem_cons_self))
  have g2 := h2 _ (List.mem_cons_of_mem _ (List.mem_cons_of_mem _ (List.mem_cons_self)))
  have g3 := h2 _ (List.mem_cons_of_mem _ (List.mem_cons_of_mem _ (List.mem_cons_of_mem _ (List.mem_cons_self))))
  simp only [sz3, sz86, List.drop_zero, List.drop_succ_cons, List.take_succ_cons, List.take_zero] at g0 g1 g2 g3
  obtain ⟨x0, e0, k0⟩ := op_int g0
  cases e0
  obtain ⟨x1, e1, k1⟩ := op_int g1
  cases e1
  obtain ⟨x2, e2, k2⟩ := op_int g2
  cases e2
  obtain ⟨x3, e3, k3⟩ := op_ents g3
  cases e3
  exact ⟨⟨x0, x1, x2, x3⟩, rfl, ⟨k0, k1, k2, k3⟩⟩
theorem op_rcs {cs : List C} (h : Ty Try.prog 101 cs) : ∃ l : List Rc, cs = [.sl 104 (Rw rcC l)] ∧ lok 48 Rc.ok l := by
  obtain ⟨rows, rfl, hn, hr⟩ := ty_slice un101 h
  obtain ⟨l, rfl, hp⟩ := rows_of (en := rcC) (ok := Rc.ok) (fun r hr => op_rc hr) rows hr
  refine ⟨l, rfl, ?_, hp⟩
  rw [by104] at hn
  simpa [reachBytes] using hn
end Go.Proofs.Y
