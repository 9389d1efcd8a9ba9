/-
  What is proved: plain facts on numbers that the laws share. Conditions: none.
-/
import Derived.Test.YtoihccclnkhmaaaDat
set_option linter.unusedVariables false
set_option linter.unusedSimpArgs false
set_option maxRecDepth 4000
namespace Go.Rb
theorem at_mod {k n : Int} (h : 0 < n) : (if k.tmod n < 0 then k.tmod n + n else k.tmod n) = k % n := by
  have h1 := Int.emod_nonneg k (show n ≠ 0 by omega)
  have h2 := Int.emod_lt_of_pos k h
  have h3 : ((n.natAbs : Nat) : Int) = n := by omega
  rw [Int.tmod_eq_emod]
  by_cases hc : 0 ≤ k ∨ n ∣ k
  · simp only [hc, if_true]
    rw [if_neg (by omega)]
    omega
  · simp only [hc, if_false, h3]
    rw [if_pos (by omega)]
    omega
theorem w64_w64_l (a b : Int) : w64 (w64 a + b) = w64 (a + b) := by
  have h : ∀ n : Int, w64 n = if n % 18446744073709551616 ≥ 9223372036854775808 then n % 18446744073709551616 - 18446744073709551616 else n % 18446744073709551616 := by
    intro n
    show (if (true && decide (n % (18446744073709551616 : Int) ≥ (9223372036854775808 : Int))) = true then n % (18446744073709551616 : Int) - (18446744073709551616 : Int) else n % (18446744073709551616 : Int)) = _
    simp only [Bool.true_and, decide_eq_true_eq]
  rw [h a, h (a + b)]
  rw [h]
  split <;> split <;> split <;> omega
theorem w64_w64_r (a b : Int) : w64 (a + w64 b) = w64 (a + b) := by rw [Int.add_comm, w64_w64_l, Int.add_comm]
theorem eq_of_getD {α : Type} [Inhabited α] {a b : List α} (h : a.length = b.length) (hg : ∀ j, j < a.length → a.getD j default = b.getD j default) : a = b := by
  apply List.ext_getElem h
  intro i h1 h2
  have := hg i h1
  simpa [List.getD, List.getElem?_eq_getElem h1, List.getElem?_eq_getElem h2] using this
end Go.Rb
