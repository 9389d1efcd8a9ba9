/-
  What is proved: sums of points as plain functions, and their laws. Conditions: none.
-/
import Derived.Test.YtoihccclnkhmaaaDat
set_option linter.unusedVariables false
set_option linter.unusedSimpArgs false
set_option maxRecDepth 4000
namespace Go.Rb
def join (a b : Sm) : Sm := if a.n = 0 then b else if b.n = 0 then a else ⟨w64 (a.n + b.n), min a.mn b.mn, max a.mx b.mx, w64 (a.tot + b.tot)⟩
def joined (a b : Sm) : Sm := if a.n = 0 then b else if b.n = 0 then a else ⟨w64 (a.n + b.n), min b.mn a.mn, max b.mx a.mx, w64 (b.tot + a.tot)⟩
def sm1 (p : Pt) : Sm := ⟨1, p.v, p.v, p.v⟩
def sumOf (l : List Pt) : Sm := l.foldl (fun s p => join s (sm1 p)) ⟨0, 0, 0, 0⟩
theorem sumOf_next {l : List Pt} {i : Nat} (h : i < l.length) : sumOf (l.take (i + 1)) = join (sumOf (l.take i)) ⟨1, (l.getD i default).v, (l.getD i default).v, (l.getD i default).v⟩ := by
  rw [take_next h]; simp [sumOf, sm1]
theorem join_eq (a b : Sm) : joined a b = join a b := by
  simp only [joined, join, Int.min_comm b.mn, Int.max_comm b.mx, Int.add_comm b.tot]
def sumRefAt (l : List Pt) (i : Nat) : Sm := (l.take i).foldl (fun s p => ⟨s.n, min s.mn p.v, max s.mx p.v, w64 (s.tot + p.v)⟩) ⟨l.length, (l.getD 0 default).v, (l.getD 0 default).v, 0⟩
theorem sumRef_next {l : List Pt} {i : Nat} (h : i < l.length) : sumRefAt l (i + 1) = ⟨(sumRefAt l i).n, min (sumRefAt l i).mn (l.getD i default).v, max (sumRefAt l i).mx (l.getD i default).v, w64 ((sumRefAt l i).tot + (l.getD i default).v)⟩ := by
  rw [sumRefAt, take_next h]; simp [sumRefAt]
theorem sumRef_at (l : List Pt) (hn : l.length < 4611686018427387904) (hk : ∀ p ∈ l, inR64 p.v) : ∀ i, 1 ≤ i → i ≤ l.length → sumOf (l.take i) = ⟨i, (sumRefAt l i).mn, (sumRefAt l i).mx, (sumRefAt l i).tot⟩ := by
  intro i h1
  induction i with
  | zero => omega
  | succ i ih =>
  intro hl
  by_cases h1 : i = 0
  · subst h1
    cases l with
    | nil => simp at hl
    | cons p l =>
      have := w64_of (hk p List.mem_cons_self)
      simp [sumOf, sumRefAt, join, sm1, this]
  · have hi : i < l.length := by omega
    have e : (i : Int) ≠ 0 := by omega
    have ew : w64 ((i : Int) + 1) = (i + 1 : Nat) := by rw [w64, wr_id] <;> push_cast <;> omega
    rw [sumOf_next hi, ih (by omega) (by omega), sumRef_next hi]
    simp only [join, e, if_false, ew]
    simp
theorem sumRef_eq (l : List Pt) (hn : l.length < 4611686018427387904) (hk : ∀ p ∈ l, inR64 p.v) (h0 : l.length ≠ 0) : sumRefAt l l.length = sumOf l := by
  have h := sumRef_at l hn hk l.length (by omega) (Nat.le_refl _)
  rw [List.take_length] at h
  have hnn : ∀ i, (sumRefAt l i).n = l.length := by
    intro i
    unfold sumRefAt
    generalize l.take i = m
    suffices ∀ s : Sm, (m.foldl (fun s p => (⟨s.n, min s.mn p.v, max s.mx p.v, w64 (s.tot + p.v)⟩ : Sm)) s).n = s.n from this _
    induction m with
    | nil => intro s; rfl
    | cons p m ih => intro s; rw [List.foldl_cons, ih]
  rw [h]
  have := hnn l.length
  rcases he : sumRefAt l l.length with ⟨a, b, c, d⟩
  rw [he] at this
  simp_all
def pts3 : List Pt := [⟨10, 5⟩, ⟨20, 5⟩, ⟨30, 7⟩]
end Go.Rb
