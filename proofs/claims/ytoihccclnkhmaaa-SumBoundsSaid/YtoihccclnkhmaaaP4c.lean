/-
  What is proved: bounds of sums of few small points. Conditions: none.
-/
import Derived.Test.YtoihccclnkhmaaaP4b
import Derived.Test.YtoihccclnkhmaaaP3a
set_option linter.unusedVariables false
set_option linter.unusedSimpArgs false
set_option maxRecDepth 4000
namespace Go.Rb
structure SumB (l : List Pt) (s : Sm) : Prop where
  n : s.n = l.length
  lo : ∀ p ∈ l, s.mn ≤ p.v
  hi : ∀ p ∈ l, p.v ≤ s.mx
  exl : l ≠ [] → ∃ p ∈ l, p.v = s.mn
  exh : l ≠ [] → ∃ p ∈ l, p.v = s.mx
  tl : (l.length : Int) * s.mn ≤ s.tot
  th : s.tot ≤ (l.length : Int) * s.mx
  ml : -1000000 ≤ s.mn ∧ s.mn ≤ 1000000
  mh : -1000000 ≤ s.mx ∧ s.mx ≤ 1000000
  tb : -1000000 * (l.length : Int) ≤ s.tot ∧ s.tot ≤ 1000000 * (l.length : Int)
theorem sumB_step {l : List Pt} {s : Sm} {p : Pt} (h : SumB l s) (hp : -1000000 ≤ p.v ∧ p.v ≤ 1000000) (hn : l.length ≤ 40) : SumB (l ++ [p]) (join s (sm1 p)) := by
  by_cases h0 : s.n = 0
  · have hl : l = [] := by
      apply List.eq_nil_of_length_eq_zero
      have := h.n
      omega
    subst hl
    have e : join s (sm1 p) = sm1 p := by simp [join, h0]
    rw [e]
    constructor <;> simp [sm1] <;> omega
  · have hne : l ≠ [] := by
      rintro rfl
      exact h0 h.n
    have hnn := h.n
    have w1 : w64 (s.n + 1) = s.n + 1 := w64_of ⟨by omega, by omega⟩
    have htb := h.tb
    have w2 : w64 (s.tot + p.v) = s.tot + p.v := w64_of ⟨by omega, by omega⟩
    have e : join s (sm1 p) = ⟨s.n + 1, min s.mn p.v, max s.mx p.v, s.tot + p.v⟩ := by
      simp [join, h0, sm1, w1, w2]
    rw [e]
    obtain ⟨pl, hl1, hl2⟩ := h.exl hne
    obtain ⟨ph, hh1, hh2⟩ := h.exh hne
    have htl := h.tl
    have hth := h.th
    have hml := h.ml
    have hmh := h.mh
    have m1 : (l.length : Int) * min s.mn p.v ≤ (l.length : Int) * s.mn := Int.mul_le_mul_of_nonneg_left (by omega) (by omega)
    have m2 : (l.length : Int) * s.mx ≤ (l.length : Int) * max s.mx p.v := Int.mul_le_mul_of_nonneg_left (by omega) (by omega)
    have lenE : ((l ++ [p]).length : Int) = l.length + 1 := by simp
    refine ⟨?_, ?_, ?_, ?_, ?_, ?_, ?_, ?_, ?_, ?_⟩
    · simp [hnn]
    · intro q hq
      rcases List.mem_append.1 hq with hq | hq
      · have := h.lo q hq; simp only []; omega
      · simp at hq; subst hq; simp only []; omega
    · intro q hq
      rcases List.mem_append.1 hq with hq | hq
      · have := h.hi q hq; simp only []; omega
      · simp at hq; subst hq; simp only []; omega
    · intro _
      by_cases hc : s.mn ≤ p.v
      · exact ⟨pl, List.mem_append_left _ hl1, by simp only []; omega⟩
      · exact ⟨p, by simp, by simp only []; omega⟩
    · intro _
      by_cases hc : p.v ≤ s.mx
      · exact ⟨ph, List.mem_append_left _ hh1, by simp only []; omega⟩
      · exact ⟨p, by simp, by simp only []; omega⟩
    · rw [lenE, Int.add_mul]; simp only []; omega
    · rw [lenE, Int.add_mul]; simp only []; omega
    · simp only []; omega
    · simp only []; omega
    · rw [lenE]; simp only []; omega
theorem sumB_all : ∀ (k l : List Pt), SumB l (sumOf l) → (∀ p ∈ k, -1000000 ≤ p.v ∧ p.v ≤ 1000000) → (l ++ k).length ≤ 40 → SumB (l ++ k) (sumOf (l ++ k))
  | [], l, h, _, _ => by simpa using h
  | p :: k, l, h, hk, hn => by
    have e : l ++ p :: k = (l ++ [p]) ++ k := by simp
    rw [e] at hn ⊢
    refine sumB_all k (l ++ [p]) ?_ (fun q hq => hk q (List.mem_cons_of_mem _ hq)) hn
    have : sumOf (l ++ [p]) = join (sumOf l) (sm1 p) := by simp [sumOf]
    rw [this]
    refine sumB_step h (hk p List.mem_cons_self) ?_
    simp at hn
    omega
theorem sumB_of {l : List Pt} (h : checkL l = 0) : SumB l (sumOf l) := by
  have := sumB_all l [] (by constructor <;> simp [sumOf]) (fun p hp => (checkL_all h p hp).2.2) (by simpa using checkL_len h)
  simpa using this
def leastAt (l : List Pt) (i : Nat) : Bool := (sumOf l).n == 0 || (l.take i).any fun p => p.v == (sumOf l).mn
def mostAt (l : List Pt) (i : Nat) : Bool := (sumOf l).n == 0 || (l.take i).any fun p => p.v == (sumOf l).mx
theorem leastAt_next {l : List Pt} {i : Nat} (h : i < l.length) : leastAt l (i + 1) = (leastAt l i || (l.getD i default).v == (sumOf l).mn) := by
  simp only [leastAt, take_next h, List.any_append, List.any_cons, List.any_nil, Bool.or_false, Bool.or_assoc]
theorem mostAt_next {l : List Pt} {i : Nat} (h : i < l.length) : mostAt l (i + 1) = (mostAt l i || (l.getD i default).v == (sumOf l).mx) := by
  simp only [mostAt, take_next h, List.any_append, List.any_cons, List.any_nil, Bool.or_false, Bool.or_assoc]
theorem leastAt_all {l : List Pt} (h : checkL l = 0) : leastAt l l.length = true ∧ mostAt l l.length = true := by
  have hB := sumB_of h
  have hn := hB.n
  simp only [leastAt, mostAt, List.take_length, Bool.or_eq_true, beq_iff_eq, List.any_eq_true]
  by_cases h0 : l = []
  · subst h0; exact ⟨.inl hn, .inl hn⟩
  · obtain ⟨p, hp, he⟩ := hB.exl h0
    obtain ⟨q, hq, hf⟩ := hB.exh h0
    exact ⟨.inr ⟨p, hp, he⟩, .inr ⟨q, hq, hf⟩⟩
theorem sum_mul {l : List Pt} (h : checkL l = 0) : IntKind.wrap .i64 ((sumOf l).n * (sumOf l).mn) ≤ (sumOf l).tot ∧ (sumOf l).tot ≤ IntKind.wrap .i64 ((sumOf l).n * (sumOf l).mx) := by
  have hB := sumB_of h
  have hlen := checkL_len h
  have h1 := hB.tl
  have h2 := hB.th
  have h3 := hB.ml
  have h4 := hB.mh
  rw [hB.n]
  have a1 : (l.length : Int) * -1000000 ≤ (l.length : Int) * (sumOf l).mn := Int.mul_le_mul_of_nonneg_left h3.1 (by omega)
  have a2 : (l.length : Int) * (sumOf l).mn ≤ (l.length : Int) * 1000000 := Int.mul_le_mul_of_nonneg_left h3.2 (by omega)
  have a3 : (l.length : Int) * -1000000 ≤ (l.length : Int) * (sumOf l).mx := Int.mul_le_mul_of_nonneg_left h4.1 (by omega)
  have a4 : (l.length : Int) * (sumOf l).mx ≤ (l.length : Int) * 1000000 := Int.mul_le_mul_of_nonneg_left h4.2 (by omega)
  rw [wr_id (by omega) (by omega), wr_id (by omega) (by omega)]
  exact ⟨h1, h2⟩
end Go.Rb
