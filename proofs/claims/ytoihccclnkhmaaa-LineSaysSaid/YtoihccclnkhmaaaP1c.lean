/-
  What is proved: numbers as bits: what is put is taken. Conditions: none.
-/
import Derived.Test.YtoihccclnkhmaaaP1b
set_option linter.unusedVariables false
set_option linter.unusedSimpArgs false
set_option maxRecDepth 4000
namespace Go.Rb
theorem putR_len {l : List Bool} {n w : Int} (h : l.length ≤ 140737488351232) : (putR l n w).1.length < 4611686018427387904 := by
  unfold putR
  split
  · rename_i hc
    unfold putOk at hc
    simp only [List.length_append, bitsN_len]
    omega
  · simp
theorem takeR_len {l : List Bool} {w : Int} (h : l.length ≤ 140737488351232) : (takeR l w).2.1.length < 4611686018427387904 := by
  unfold takeR
  split
  · simp
  · split
    · simp
    · simp only [List.length_drop]
      omega
theorem bitsN_succ (w : Nat) (n : Int) : bitsN (w + 1) n = bitsN w (n / 2) ++ [bitAt n 0] := by
  apply List.ext_getElem
  · simp [bitsN_len]
  · intro i h1 h2
    rw [List.getElem_append]
    rw [bitsN_len] at h1
    split
    · rename_i h3
      rw [bitsN_len] at h3
      simp only [bitsN, List.getElem_map, List.getElem_range, bitAt]
      rw [Int.ediv_ediv_of_nonneg (by omega), show w + 1 - 1 - i = (w - 1 - i) + 1 from by omega, Int.pow_succ, Int.mul_comm]
    · rename_i h3
      rw [bitsN_len] at h3
      have hi : i = w := by omega
      subst hi
      simp [bitsN, bitsN_len]
theorem val_bitsN : ∀ (w : Nat) (n : Int), 0 ≤ n → n < 2 ^ w → val (bitsN w n) = n
  | 0, n, h0, h1 => by
    have : n = 0 := by simp at h1; omega
    subst this; rfl
  | w + 1, n, h0, h1 => by
    rw [Int.pow_succ] at h1
    rw [bitsN_succ, val_snoc, val_bitsN w (n / 2) (by omega) (by omega)]
    simp only [bitAt, Int.pow_zero, Int.ediv_one]
    by_cases h : n % 2 = 1
    · simp [h]; omega
    · simp [h]; omega
theorem bitsN_val : ∀ l : List Bool, bitsN l.length (val l) = l := by
  intro l
  induction h : l.length generalizing l with
  | zero => rw [List.length_eq_zero_iff] at h; subst h; rfl
  | succ w ih =>
    have hl : l ≠ [] := by intro h0; subst h0; simp at h
    rw [bitsN_succ]
    obtain ⟨k, b, rfl⟩ : ∃ k b, l = k ++ [b] := ⟨l.dropLast, l.getLast hl, (List.dropLast_concat_getLast hl).symm⟩
    have hk : k.length = w := by simpa using h
    rw [val_snoc]
    have e1 : (2 * val k + (if b then 1 else 0)) / 2 = val k := by cases b <;> simp <;> omega
    have e2 : bitAt (2 * val k + (if b then 1 else 0)) 0 = b := by
      simp only [bitAt, Int.pow_zero, Int.ediv_one]
      cases b
      · simp
      · simp only [if_true, beq_iff_eq]; omega
    rw [e1, e2, ih k hk]

/-! ### Numbers one after the other -/
def wAt (ws : List Int) (k : Nat) : Int := ws.getD k default % 41
def vAt (ns ws : List Int) (k : Nat) : Int := ns.getD k default % (1 * 2 ^ (wAt ws k).toNat)
def encB (ns ws : List Int) (k : Nat) : List Bool := ((List.range k).map fun i => bitsN (wAt ws i).toNat (vAt ns ws i)).flatten
def vsB (ns ws : List Int) (k : Nat) : List Int := (List.range k).map (vAt ns ws)
def wsB (ws : List Int) (k : Nat) : List Int := (List.range k).map (wAt ws)
theorem wAt_in (ws : List Int) (k : Nat) : 0 ≤ wAt ws k ∧ wAt ws k ≤ 40 := by unfold wAt; omega
theorem vAt_in (ns ws : List Int) (k : Nat) : 0 ≤ vAt ns ws k ∧ vAt ns ws k < 2 ^ (wAt ws k).toNat := by
  have h := pow_pos' (wAt ws k).toNat
  unfold vAt
  rw [Int.one_mul]
  exact ⟨Int.emod_nonneg _ (by omega), Int.emod_lt_of_pos _ h⟩
theorem encB_next (ns ws : List Int) (k : Nat) : encB ns ws (k + 1) = encB ns ws k ++ bitsN (wAt ws k).toNat (vAt ns ws k) := by
  simp [encB, List.range_succ]
theorem vsB_next (ns ws : List Int) (k : Nat) : vsB ns ws (k + 1) = vsB ns ws k ++ [vAt ns ws k] := by simp [vsB, List.range_succ]
theorem wsB_next (ws : List Int) (k : Nat) : wsB ws (k + 1) = wsB ws k ++ [wAt ws k] := by simp [wsB, List.range_succ]
theorem vsB_len (ns ws : List Int) (k : Nat) : (vsB ns ws k).length = k := by simp [vsB]
theorem wsB_len (ws : List Int) (k : Nat) : (wsB ws k).length = k := by simp [wsB]
theorem vsB_get {ns ws : List Int} {i k : Nat} (h : i < k) : (vsB ns ws k).getD i default = vAt ns ws i := by simp [vsB, List.getD, h]
theorem wsB_get {ws : List Int} {i k : Nat} (h : i < k) : (wsB ws k).getD i default = wAt ws i := by simp [wsB, List.getD, h]
theorem encB_len (ns ws : List Int) (k : Nat) : (encB ns ws k).length ≤ 40 * k := by
  induction k with
  | zero => simp [encB]
  | succ k ih =>
    have := wAt_in ws k
    rw [encB_next, List.length_append, bitsN_len]; omega
theorem put_next (ns ws : List Int) (k : Nat) : putR (encB ns ws k) (vAt ns ws k) (wAt ws k) = (encB ns ws (k + 1), 0) := by
  have h1 := wAt_in ws k
  have h2 := vAt_in ns ws k
  unfold putR
  rw [if_pos ⟨h1.1, h1.2, h2.1, h2.2⟩, encB_next]
theorem encB_split {ns ws : List Int} {k n : Nat} (h : k < n) : (encB ns ws n).drop (encB ns ws k).length = bitsN (wAt ws k).toNat (vAt ns ws k) ++ (encB ns ws n).drop (encB ns ws (k + 1)).length := by
  have key : ∀ m, (encB ns ws (k + 1 + m)).drop (encB ns ws k).length = bitsN (wAt ws k).toNat (vAt ns ws k) ++ (encB ns ws (k + 1 + m)).drop (encB ns ws (k + 1)).length ∧ (encB ns ws (k + 1)).length ≤ (encB ns ws (k + 1 + m)).length := by
    intro m
    induction m with
    | zero =>
      refine ⟨?_, Nat.le_refl _⟩
      rw [Nat.add_zero, List.drop_of_length_le (Nat.le_refl _), List.append_nil, encB_next, List.drop_left]
    | succ m ih =>
      rw [show k + 1 + (m + 1) = (k + 1 + m) + 1 from rfl, encB_next ns ws (k + 1 + m)]
      have h1 : (encB ns ws k).length ≤ (encB ns ws (k + 1)).length := by rw [encB_next, List.length_append]; omega
      rw [List.drop_append_of_le_length (by omega), List.drop_append_of_le_length ih.2, ih.1, List.append_assoc, List.length_append]
      exact ⟨rfl, by omega⟩
  obtain ⟨m, rfl⟩ : ∃ m, n = k + 1 + m := ⟨n - (k + 1), by omega⟩
  exact (key m).1
/-- What is behind the first k. -/
def restB (ns ws : List Int) (n k : Nat) (more : List Bool) : List Bool := (encB ns ws n).drop (encB ns ws k).length ++ more
theorem take_rest {ns ws : List Int} {n k : Nat} {more : List Bool} (h : k < n) : takeR (restB ns ws n k more) (wAt ws k) = (vAt ns ws k, restB ns ws n (k + 1) more, 0) := by
  have h1 := wAt_in ws k
  have h2 := vAt_in ns ws k
  unfold restB
  rw [encB_split h, List.append_assoc]
  unfold takeR
  rw [if_neg (by omega), if_neg (by rw [List.length_append, bitsN_len]; omega)]
  rw [List.take_append_of_le_length (by rw [bitsN_len]; omega), List.take_of_length_le (by rw [bitsN_len]; omega), val_bitsN _ _ h2.1 h2.2]
  rw [List.drop_append_of_le_length (by rw [bitsN_len]; omega), List.drop_of_length_le (by rw [bitsN_len]; omega), List.nil_append]
theorem restB_zero (ns ws : List Int) (n : Nat) (more : List Bool) : restB ns ws n 0 more = encB ns ws n ++ more := by simp [restB, encB]
theorem restB_all (ns ws : List Int) (n : Nat) (more : List Bool) : restB ns ws n n more = more := by simp [restB]
theorem restB_len (ns ws : List Int) (n k : Nat) (more : List Bool) : (restB ns ws n k more).length ≤ 40 * n + more.length := by
  have := encB_len ns ws n
  simp only [restB, List.length_append, List.length_drop]; omega
end Go.Rb
