/-
  What is proved: numbers as bits, further plain facts. Conditions: none.
-/
import Derived.Test.YtoihccclnkhmaaaP1
set_option linter.unusedVariables false
set_option linter.unusedSimpArgs false
set_option maxRecDepth 4000
namespace Go.Rb
theorem pow_mono {a b : Nat} (h : a ≤ b) : (2 : Int) ^ a ≤ 2 ^ b := by
  have := Nat.pow_le_pow_right (n := 2) (by omega) h
  exact_mod_cast this
theorem val_lt40 {l : List Bool} (h : l.length ≤ 40) : 0 ≤ val l ∧ val l < 1099511627776 := by
  have h1 := val_bound l
  have h2 : (2 : Int) ^ l.length ≤ 2 ^ 40 := pow_mono h
  exact ⟨h1.1, Int.lt_of_lt_of_le h1.2 h2⟩
theorem pow40 {k : Nat} (h : k ≤ 40) : 0 < (2 : Int) ^ k ∧ (2 : Int) ^ k ≤ 1099511627776 := ⟨pow_pos' k, pow_mono (b := 40) h⟩
theorem takeR_eq (l : List Bool) (w : Int) : takeR l w = ((readR l w).1, (if (readR l w).2 = 0 then l.drop w.toNat else []), (readR l w).2) := by
  unfold takeR readR
  by_cases h : w < 0 ∨ w > 40
  · simp [h]
  · by_cases h2 : (l.length : Int) < w
    · simp [h, h2]
    · simp [h, h2]
theorem readR_ok {l : List Bool} {w : Int} (h : (readR l w).2 = 0) : 0 ≤ w ∧ w ≤ 40 ∧ w ≤ l.length ∧ (readR l w).1 = val (l.take w.toNat) := by
  unfold readR at h ⊢
  by_cases h1 : w < 0 ∨ w > 40
  · simp [h1] at h
  · by_cases h2 : (l.length : Int) < w
    · simp [h1, h2] at h
    · simp only [h1, h2, if_false, and_true]
      omega
theorem readR_bad {l : List Bool} {w : Int} (h : ¬ (readR l w).2 = 0) : (readR l w).1 = 0 := by
  unfold readR at h ⊢
  by_cases h1 : w < 0 ∨ w > 40
  · simp [h1]
  · by_cases h2 : (l.length : Int) < w
    · simp [h1, h2]
    · simp [h1, h2] at h
theorem val_step {l : List Bool} {j : Nat} (h : j < l.length) : val (l.drop (l.length - 1 - j)) = (if l.getD (l.length - 1 - j) default then 1 else 0) * 2 ^ j + val (l.drop (l.length - j)) := by
  have e : l.drop (l.length - 1 - j) = l.getD (l.length - 1 - j) default :: l.drop (l.length - j) := by
    rw [List.drop_eq_getElem_cons (by omega), show l.length - 1 - j + 1 = l.length - j from by omega]
    congr 1
    simp [List.getD, List.getElem?_eq_getElem (show l.length - 1 - j < l.length by omega)]
  rw [e, val_cons, List.length_drop, show l.length - (l.length - j) = j from by omega]
/-- Places that are filled from behind. -/
def fillB (w : Nat) (n : Int) (j : Nat) : List Bool := List.replicate (w - j) false ++ (bitsN w n).drop (w - j)
theorem fillB_len (w : Nat) (n : Int) {j : Nat} (h : j ≤ w) : (fillB w n j).length = w := by
  simp [fillB, bitsN_len]
theorem fillB_zero (w : Nat) (n : Int) : fillB w n 0 = List.replicate w false := by simp [fillB, bitsN_len]
theorem fillB_all (w : Nat) (n : Int) : fillB w n w = bitsN w n := by simp [fillB]
theorem fillB_next {w : Nat} {n : Int} {j : Nat} (h : j < w) : (fillB w n j).take (w - 1 - j) ++ bitAt n j :: (fillB w n j).drop (w - 1 - j + 1) = fillB w n (j + 1) := by
  have e1 : (fillB w n j).take (w - 1 - j) = List.replicate (w - (j + 1)) false := by
    rw [fillB, List.take_append_of_le_length (by simp; omega), List.take_replicate]
    congr 1; omega
  have e2 : (fillB w n j).drop (w - 1 - j + 1) = (bitsN w n).drop (w - j) := by
    rw [fillB, List.drop_append_of_le_length (by simp; omega)]
    rw [show w - 1 - j + 1 = w - j from by omega]
    simp
  have e3 : (bitsN w n).drop (w - (j + 1)) = bitAt n j :: (bitsN w n).drop (w - j) := by
    rw [List.drop_eq_getElem_cons (by rw [bitsN_len]; omega), show w - (j + 1) + 1 = w - j from by omega]
    congr 1
    simp only [bitsN, List.getElem_map, List.getElem_range]
    congr 1; omega
  rw [e1, e2, fillB, e3]
theorem div_two (n : Int) (j : Nat) : n / 2 ^ j / 2 = n / 2 ^ (j + 1) := by
  rw [Int.ediv_ediv_of_nonneg (by have := pow_pos' j; omega), Int.pow_succ]
end Go.Rb
