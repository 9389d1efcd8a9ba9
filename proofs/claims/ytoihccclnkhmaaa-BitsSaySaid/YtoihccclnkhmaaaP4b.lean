/-
  What is proved: sums of parts are the sum of the whole. Conditions: none.
-/
import Derived.Test.YtoihccclnkhmaaaP4
import Derived.Test.YtoihccclnkhmaaaP0
set_option linter.unusedVariables false
set_option linter.unusedSimpArgs false
set_option maxRecDepth 4000
namespace Go.Rb
theorem join_assoc {a b c : Sm} (ha : 0 ≤ a.n) (hb : 0 ≤ b.n) (hc : 0 ≤ c.n) (h : a.n + b.n + c.n ≤ 9223372036854775807) : join (join a b) c = join a (join b c) := by
  have w1 : w64 (a.n + b.n) = a.n + b.n := w64_of ⟨by omega, by omega⟩
  have w2 : w64 (b.n + c.n) = b.n + c.n := w64_of ⟨by omega, by omega⟩
  by_cases h1 : a.n = 0
  · simp only [join, h1, if_true]
  · by_cases h2 : b.n = 0
    · simp only [join, h1, h2, if_true, if_false]
    · by_cases h3 : c.n = 0
      · have e1 : ¬ (a.n + b.n = 0) := by omega
        simp only [join, h1, h2, h3, if_true, if_false, w1, e1]
      · have e1 : ¬ (a.n + b.n = 0) := by omega
        have e2 : ¬ (b.n + c.n = 0) := by omega
        simp only [join, h1, h2, h3, if_false, w1, w2, e1, e2, Sm.mk.injEq]
        exact ⟨by rw [Int.add_assoc], Int.min_assoc .., Int.max_assoc .., by rw [w64_w64_l, w64_w64_r, Int.add_assoc]⟩
def Smo (s : Sm) : Prop := 0 ≤ s.n ∧ (s.n = 0 → s = ⟨0, 0, 0, 0⟩)
theorem join_comm {a b : Sm} (ha : Smo a) (hb : Smo b) : join a b = join b a := by
  by_cases h1 : a.n = 0 <;> by_cases h2 : b.n = 0
  · rw [ha.2 h1, hb.2 h2]
  · simp only [join, h1, h2, if_true, if_false]
  · simp only [join, h1, h2, if_true, if_false]
  · simp only [join, h1, h2, if_false, Sm.mk.injEq]
    exact ⟨by rw [Int.add_comm], Int.min_comm .., Int.max_comm .., by rw [Int.add_comm]⟩
theorem join_zero (a : Sm) : join ⟨0, 0, 0, 0⟩ a = a := by simp [join]
theorem join_n {a b : Sm} (ha : Smo a) (hb : Smo b) (h : a.n + b.n ≤ 9223372036854775807) : (join a b).n = a.n + b.n := by
  have hw : w64 (a.n + b.n) = a.n + b.n := w64_of ⟨by have := ha.1; have := hb.1; omega, h⟩
  by_cases h1 : a.n = 0
  · simp only [join, h1, if_true]; omega
  · by_cases h2 : b.n = 0
    · simp only [join, h1, h2, if_true, if_false]; omega
    · simp only [join, h1, h2, if_false, hw]
theorem join_ok {a b : Sm} (ha : Smo a) (hb : Smo b) (h : a.n + b.n ≤ 9223372036854775807) : Smo (join a b) := by
  have h0 := join_n ha hb h
  refine ⟨by have := ha.1; have := hb.1; omega, fun hz => ?_⟩
  have h1 : a.n = 0 := by have := ha.1; have := hb.1; omega
  have h2 : b.n = 0 := by have := ha.1; have := hb.1; omega
  rw [ha.2 h1, hb.2 h2]
  rfl
theorem sm1_ok (p : Pt) : Smo (sm1 p) := ⟨by simp [sm1], by simp [sm1]⟩
theorem foldl_join : ∀ (l : List Pt) (s : Sm), Smo s → s.n + l.length + 1 ≤ 9223372036854775807 → l.foldl (fun s p => join s (sm1 p)) s = join s (sumOf l) ∧ (sumOf l).n = l.length ∧ Smo (sumOf l)
  | [], s, h, _ => by
    refine ⟨?_, rfl, by decide, fun _ => rfl⟩
    show s = join s ⟨0, 0, 0, 0⟩
    by_cases h1 : s.n = 0
    · rw [h.2 h1]; rfl
    · simp [join, h1]
  | p :: l, s, h, h1 => by
    have h0 := h.1
    simp only [List.length_cons] at h1
    have hp := foldl_join l (sm1 p) (sm1_ok p) (by simp only [sm1]; omega)
    have hs : sumOf (p :: l) = join (sm1 p) (sumOf l) := by
      show l.foldl (fun s p => join s (sm1 p)) (join ⟨0, 0, 0, 0⟩ (sm1 p)) = _
      rw [join_zero]; exact hp.1
    have hn : (sm1 p).n = 1 := rfl
    have hq := foldl_join l (join s (sm1 p)) (join_ok h (sm1_ok p) (by omega)) (by rw [join_n h (sm1_ok p) (by omega)]; omega)
    refine ⟨?_, ?_, ?_⟩
    · rw [List.foldl_cons, hq.1, hs]
      exact join_assoc h0 (by omega) hp.2.2.1 (by omega)
    · rw [hs, join_n (sm1_ok p) hp.2.2 (by omega), hp.2.1, hn, List.length_cons]
      push_cast
      omega
    · rw [hs]; exact join_ok (sm1_ok p) hp.2.2 (by omega)
theorem sumOf_ok {l : List Pt} (h : l.length < 4611686018427387904) : (sumOf l).n = l.length ∧ Smo (sumOf l) := (foldl_join l ⟨0, 0, 0, 0⟩ ⟨by decide, fun _ => rfl⟩ (by simp; omega)).2
theorem sumOf_append {l k : List Pt} (h : (l ++ k).length < 4611686018427387904) : sumOf (l ++ k) = join (sumOf l) (sumOf k) := by
  rw [List.length_append] at h
  have h1 := sumOf_ok (l := l) (by omega)
  have h2 := (foldl_join k (sumOf l) h1.2 (by rw [h1.1]; omega)).1
  rw [← h2]
  simp [sumOf]
/-- Of three parts. -/
theorem sumOf_parts {l : List Pt} (h : l.length < 4611686018427387904) {j k : Nat} (hjk : j ≤ k) (hk : k ≤ l.length) :
    join (join (sumOf (l.take j)) (sumOf ((l.take k).drop j))) (sumOf (l.drop k)) = sumOf l ∧ join (sumOf (l.take j)) (join (sumOf ((l.take k).drop j)) (sumOf (l.drop k))) = sumOf l ∧
      join (sumOf (l.drop k)) (join (sumOf ((l.take k).drop j)) (sumOf (l.take j))) = sumOf l := by
  have e1 : l.take k = l.take j ++ (l.take k).drop j := by
    conv => lhs; rw [← List.take_append_drop j (l.take k)]
    rw [List.take_take, Nat.min_eq_left hjk]
  have ha := sumOf_ok (l := l.take j) (by simp; omega)
  have hb := sumOf_ok (l := (l.take k).drop j) (by simp; omega)
  have hc := sumOf_ok (l := l.drop k) (by simp; omega)
  have hab : join (sumOf (l.take j)) (sumOf ((l.take k).drop j)) = sumOf (l.take k) := by
    rw [← sumOf_append (by rw [← e1]; simp; omega), ← e1]
  have hw : join (sumOf (l.take k)) (sumOf (l.drop k)) = sumOf l := by
    rw [← sumOf_append (by simp; omega), List.take_append_drop]
  have hl : (sumOf (l.take j)).n + (sumOf ((l.take k).drop j)).n + (sumOf (l.drop k)).n ≤ 9223372036854775807 := by
    rw [ha.1, hb.1, hc.1]; simp; omega
  refine ⟨by rw [hab, hw], ?_, ?_⟩
  · rw [← join_assoc ha.2.1 hb.2.1 hc.2.1 hl, hab, hw]
  · rw [join_comm hb.2 ha.2, hab, join_comm hc.2 (by
      have := sumOf_ok (l := l.take k) (by simp; omega)
      exact this.2), hw]
end Go.Rb
