/-
  What is proved: numbers as bits, as plain functions. Conditions: none.
-/
import Derived.Test.YtoihccclnkhmaaaDat
set_option linter.unusedVariables false
set_option linter.unusedSimpArgs false
set_option maxRecDepth 4000
namespace Go.Rb
def bitAt (n : Int) (k : Nat) : Bool := n / 2 ^ k % 2 == 1
def bitsN (w : Nat) (n : Int) : List Bool := (List.range w).map fun j => bitAt n (w - 1 - j)
def putOk (n w : Int) : Prop := 0 ≤ w ∧ w ≤ 40 ∧ 0 ≤ n ∧ n < 2 ^ w.toNat
instance (n w : Int) : Decidable (putOk n w) := by unfold putOk; infer_instance
def putR (l : List Bool) (n w : Int) : List Bool × Int := if putOk n w then (l ++ bitsN w.toNat n, 0) else ([], 3)
def val (l : List Bool) : Int := l.foldl (fun n b => 2 * n + (if b then 1 else 0)) 0
def readR (l : List Bool) (w : Int) : Int × Int := if w < 0 ∨ w > 40 then (0, 3) else if (l.length : Int) < w then (0, 8) else (val (l.take w.toNat), 0)
def takeR (l : List Bool) (w : Int) : Int × List Bool × Int := if w < 0 ∨ w > 40 then (0, [], 3) else if (l.length : Int) < w then (0, [], 8) else (val (l.take w.toNat), l.drop w.toNat, 0)

theorem bitsN_len (w : Nat) (n : Int) : (bitsN w n).length = w := by simp [bitsN]
theorem bitsN_get {w : Nat} {n : Int} {j : Nat} (h : j < w) : (bitsN w n).getD j default = bitAt n (w - 1 - j) := by
  simp [bitsN, List.getD, h]
theorem pow_pos' (k : Nat) : (0 : Int) < 2 ^ k := Int.pow_pos (by omega)
/-- What the machine's shift and mask make of a number. -/
theorem and_one {a : Int} (h0 : 0 ≤ a) (h1 : a ≤ 9223372036854775807) : IntKind.wrap .i64 ((BitVec.ofInt (IntKind.i64.bits) a &&& BitVec.ofInt (IntKind.i64.bits) 1).toNat : Int) = a % 2 := by
  have hb : IntKind.i64.bits = 64 := rfl
  rw [hb]
  obtain ⟨m, rfl⟩ : ∃ m : Nat, a = (m : Int) := ⟨a.toNat, by omega⟩
  have h2 : (BitVec.ofInt 64 (m : Int)).toNat = m := by
    simp only [BitVec.toNat_ofInt]
    omega
  have h3 : (BitVec.ofInt 64 (1 : Int)).toNat = 1 := by decide
  rw [BitVec.toNat_and, h2, h3, Nat.and_one_is_mod, wr_id (by omega) (by omega)]
  omega
theorem fdiv_pow {a : Int} (h0 : 0 ≤ a) (k : Nat) : a.fdiv (2 ^ k) = a / 2 ^ k := Int.fdiv_eq_ediv_of_nonneg a (by have := pow_pos' k; omega)
theorem div_pow_le {a : Int} (h0 : 0 ≤ a) (k : Nat) : 0 ≤ a / 2 ^ k ∧ a / 2 ^ k ≤ a := by
  have := pow_pos' k
  refine ⟨Int.ediv_nonneg h0 (by omega), Int.ediv_le_self _ h0⟩
theorem shr_zero {n : Int} {w : Nat} (h0 : 0 ≤ n) : n / 2 ^ w = 0 ↔ n < 2 ^ w := by
  have h1 := pow_pos' w
  constructor
  · intro h
    have := Int.lt_ediv_add_one_mul_self n h1
    rw [h] at this
    omega
  · intro h
    exact Int.ediv_eq_zero_of_lt h0 h
theorem val_snoc (l : List Bool) (b : Bool) : val (l ++ [b]) = 2 * val l + (if b then 1 else 0) := by simp [val]
theorem val_next {l : List Bool} {i : Nat} (h : i < l.length) : val (l.take (i + 1)) = 2 * val (l.take i) + (if l.getD i default then 1 else 0) := by
  rw [take_next h, val_snoc]
theorem val_bound : ∀ (l : List Bool), 0 ≤ val l ∧ val l < 2 ^ l.length := by
  intro l
  have key : ∀ (l : List Bool) (a : Int) (k : Nat), 0 ≤ a → a < 2 ^ k → 0 ≤ l.foldl (fun n b => 2 * n + (if b then 1 else 0)) a ∧ l.foldl (fun n b => 2 * n + (if b then 1 else 0)) a < 2 ^ (k + l.length) := by
    intro l
    induction l with
    | nil => intro a k h0 h1; exact ⟨h0, h1⟩
    | cons b l ih =>
      intro a k h0 h1
      rw [List.foldl_cons, List.length_cons, show k + (l.length + 1) = (k + 1) + l.length from by omega]
      refine ih _ (k + 1) ?_ ?_
      · split <;> omega
      · rw [Int.pow_succ]
        split <;> omega
  have := key l 0 0 (by omega) (by decide)
  simpa [val] using this
theorem val_cons (b : Bool) (l : List Bool) : val (b :: l) = (if b then 1 else 0) * 2 ^ l.length + val l := by
  have key : ∀ (l : List Bool) (a : Int), l.foldl (fun n b => 2 * n + (if b then 1 else 0)) a = a * 2 ^ l.length + l.foldl (fun n b => 2 * n + (if b then 1 else 0)) 0 := by
    intro l
    induction l with
    | nil => intro a; simp
    | cons c l ih =>
      intro a
      rw [List.foldl_cons, ih, List.foldl_cons, ih (2 * 0 + _), List.length_cons, Int.pow_succ]
      have e : (2 * a + if c = true then 1 else 0) * 2 ^ l.length = a * (2 ^ l.length * 2) + (2 * 0 + if c = true then 1 else 0) * 2 ^ l.length := by
        rw [Int.add_mul, Int.mul_comm 2 a, Int.mul_assoc, Int.mul_comm 2 (2 ^ l.length)]
        simp
      omega
  show List.foldl _ (2 * 0 + _) l = _
  rw [key]
  simp [val]
end Go.Rb
