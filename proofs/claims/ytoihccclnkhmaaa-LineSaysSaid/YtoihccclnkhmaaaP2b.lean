/-
  What is proved: what is put in groups of four bits is taken, and no two ways write one number. Conditions: none.
-/
import Derived.Test.YtoihccclnkhmaaaP2
set_option linter.unusedVariables false
set_option linter.unusedSimpArgs false
set_option maxRecDepth 4000
namespace Go.Rb
theorem read4 {x : Int} (h0 : 0 ≤ x) (h1 : x < 16) (r : List Bool) : (readR (bitsN 4 x ++ r) 4).1 = x ∧ 4 ≤ (bitsN 4 x ++ r).length ∧ (bitsN 4 x ++ r).drop 4 = r := by
  have hl : (bitsN 4 x).length = 4 := bitsN_len 4 x
  have h2 : 4 ≤ (bitsN 4 x ++ r).length := by rw [List.length_append, hl]; omega
  refine ⟨?_, h2, ?_⟩
  · have h3 := rd4 (bitsN 4 x ++ r)
    have h4 : (bitsN 4 x ++ r).take 4 = bitsN 4 x := by rw [List.take_append_of_le_length (by omega), List.take_of_length_le (by omega)]
    rw [h4, val_bitsN 4 x h0 (by simpa using h1)] at h3
    omega
  · rw [List.drop_append_of_le_length (by omega), List.drop_of_length_le (by omega), List.nil_append]
theorem split8 (m sc : Int) : m % 8 * sc + m / 8 * (sc * 8) = m * sc := by
  have h1 : m / 8 * (sc * 8) = 8 * (m / 8) * sc := by rw [Int.mul_comm sc 8, ← Int.mul_assoc, Int.mul_comm (m / 8) 8]
  rw [h1, ← Int.add_mul]
  congr 1
  omega
theorem zread_enc : ∀ (f k : Nat) (n sc m : Int) (r : List Bool), 1 ≤ f → 0 ≤ m → m < 8 ^ f → 0 ≤ n → 1 ≤ sc → n + m * sc ≤ 8000000 → (0 < k → 1 ≤ m) →
    zread f k n sc (zenc f m ++ r) = (unf (n + m * sc), 4 * (k : Int) + (zenc f m).length, 0)
  | 0, k, n, sc, m, r, hf, _, _, _, _, _, _ => by omega
  | f + 1, k, n, sc, m, r, hf, h0, h1, hn, hsc, hb, hk => by
    by_cases h8 : m < 8
    · rw [zenc_last hf h8]
      have hr := read4 (x := 0 + m % 8) (by omega) (by omega) r
      have hx : (readR (bitsN 4 (0 + m % 8) ++ r) 4).1 % 8 = m := by rw [hr.1]; omega
      rw [zr_done hf hr.2.1 (by rw [hr.1]; omega) (by rw [hx]; omega) (by rw [hr.1]; omega), hx, bitsN_len]
      rfl
    · have h2 := div8_lt h1 (by omega)
      rw [zenc_more hf (by omega), List.append_assoc]
      have hr := read4 (x := 8 + m % 8) (by omega) (by omega) (zenc (f + 1 - 1) (m / 8) ++ r)
      have hx : (readR (bitsN 4 (8 + m % 8) ++ (zenc (f + 1 - 1) (m / 8) ++ r)) 4).1 % 8 = m % 8 := by rw [hr.1]; omega
      have hs := split8 m sc
      have hp1 : 0 ≤ m % 8 * sc := Int.mul_nonneg (by omega) (by omega)
      have hp2 : 0 ≤ m / 8 * (sc * 8) := Int.mul_nonneg (by omega) (by omega)
      rw [zr_next hf hr.2.1 (by rw [hr.1]; omega) (by rw [hx]; omega) (by rw [hr.1]; omega), hx, hr.2.2]
      simp only [Nat.add_sub_cancel] at h2 ⊢
      rw [zread_enc f (k + 1) _ _ (m / 8) r (by omega) (by omega) h2.2 (by omega) (by omega) (by omega) (by omega), List.length_append, bitsN_len]
      rw [show n + m % 8 * sc + m / 8 * (sc * 8) = n + m * sc from by omega]
      refine Prod.ext rfl (Prod.ext ?_ rfl)
      push_cast
      omega
theorem zread_inv : ∀ (f k : Nat) (n sc : Int) (l : List Bool), 0 ≤ n → 1 ≤ sc → (zread f k n sc l).2.2 = 0 →
    ∃ m, 0 ≤ m ∧ m < 8 ^ f ∧ (0 < k → 1 ≤ m) ∧ n + m * sc ≤ 8000000 ∧ (zread f k n sc l).1 = unf (n + m * sc) ∧ (zread f k n sc l).2.1 = 4 * (k : Int) + (zenc f m).length ∧ l = zenc f m ++ l.drop (zenc f m).length
  | 0, k, n, sc, l, _, _, h => by simp [zread] at h
  | f + 1, k, n, sc, l, hn, hsc, h => by
    by_cases h1 : l.length < 4
    · rw [zr_torn (by omega) h1] at h; simp at h
    have hrd := rd4 l
    have hlt : (l.take 4).length = 4 := by rw [List.length_take]; omega
    have htk : bitsN 4 (readR l 4).1 = l.take 4 := by
      have h9 := bitsN_val (l.take 4)
      rw [hlt] at h9
      rw [show (readR l 4).1 = val (l.take 4) from by omega]
      exact h9
    by_cases h2 : (readR l 4).1 = 0 ∧ 0 < k
    · rw [zr_form (by omega) (by omega) h2.1 h2.2] at h; simp at h
    by_cases h3 : n + (readR l 4).1 % 8 * sc > 8000000
    · rw [zr_range (by omega) (by omega) h2 h3] at h; simp at h
    by_cases h4 : (readR l 4).1 < 8
    · have hx : (readR l 4).1 % 8 = (readR l 4).1 := by omega
      have hp : (1 : Int) ≤ 8 ^ f := by have : (0 : Int) < 8 ^ f := Int.pow_pos (by omega); omega
      refine ⟨(readR l 4).1, by omega, by rw [Int.pow_succ]; omega, by omega, by rw [← hx]; omega, ?_, ?_, ?_⟩
      · rw [zr_done (by omega) (by omega) h2 h3 h4, hx]
      · rw [zr_done (by omega) (by omega) h2 h3 h4, zenc_last (by omega) h4, bitsN_len]; rfl
      · rw [zenc_last (by omega) h4, Int.zero_add, hx, htk, hlt, List.take_append_drop]
    · rw [zr_next (by omega) (by omega) h2 h3 h4] at h ⊢
      have hp1 : 0 ≤ (readR l 4).1 % 8 * sc := Int.mul_nonneg (by omega) (by omega)
      simp only [Nat.add_sub_cancel] at h ⊢
      obtain ⟨m, g1, g2, g3, g4, g5, g6, g7⟩ := zread_inv f (k + 1) _ _ _ (by omega) (by omega) h
      have g3' := g3 (by omega)
      have hs := split8 ((readR l 4).1 % 8 + 8 * m) sc
      rw [show ((readR l 4).1 % 8 + 8 * m) % 8 = (readR l 4).1 % 8 from by omega, show ((readR l 4).1 % 8 + 8 * m) / 8 = m from by omega] at hs
      have hz : zenc (f + 1) ((readR l 4).1 % 8 + 8 * m) = l.take 4 ++ zenc f m := by
        rw [zenc_more (by omega) (by omega), ← htk]
        rw [show 8 + ((readR l 4).1 % 8 + 8 * m) % 8 = (readR l 4).1 from by omega, show ((readR l 4).1 % 8 + 8 * m) / 8 = m from by omega]
        rfl
      refine ⟨(readR l 4).1 % 8 + 8 * m, by omega, by rw [Int.pow_succ]; omega, by omega, by omega, ?_, ?_, ?_⟩
      · rw [g5]; congr 1; omega
      · rw [g6, hz, List.length_append, hlt]; push_cast; omega
      · rw [hz, List.length_append, hlt, List.append_assoc, ← List.drop_drop, ← g7, List.take_append_drop]
theorem zenc_mono : ∀ (f : Nat) (m m' : Int), m ≤ m' → (zenc f m).length ≤ (zenc f m').length
  | 0, _, _, _ => by simp [zenc]
  | f + 1, m, m', h => by
    have ih := zenc_mono f (m / 8) (m' / 8) (by omega)
    rw [zenc, zenc, List.length_append, List.length_append, bitsN_len, bitsN_len]
    by_cases h8 : m ≥ 8
    · rw [if_pos h8, if_pos (show m' ≥ 8 by omega)]; omega
    · rw [if_neg h8]; simp
theorem zput_nil {v : Int} (h : -4000000 ≤ v ∧ v ≤ 4000000) (l : List Bool) : zputR l v = (l ++ zenc 8 (foldN v), 0) := by
  unfold zputR
  rw [if_neg (by omega)]
theorem zig_take {v : Int} (h : -4000000 ≤ v ∧ v ≤ 4000000) (r : List Bool) : ztakeR (zenc 8 (foldN v) ++ r) = (v, r, 0) := by
  have h1 := foldN_or v
  have h2 := zread_enc 8 0 0 1 (foldN v) r (by omega) (by omega) (by show _ < (16777216 : Int); omega) (by omega) (by omega) (by omega) (by omega)
  unfold ztakeR zreadR
  rw [h2]
  simp only [Int.zero_add, Int.mul_one, unf_fold, if_true]
  refine Prod.ext rfl (Prod.ext ?_ rfl)
  simp
theorem zig_again {l : List Bool} (h : (ztakeR l).2.2 = 0) : zputR [] (ztakeR l).1 = ((zputR [] (ztakeR l).1).1, 0) ∧ (zputR [] (ztakeR l).1).1 ++ (ztakeR l).2.1 = l := by
  have h' : (zread 8 0 0 1 l).2.2 = 0 := h
  obtain ⟨m, g1, g2, g3, g4, g5, g6, g7⟩ := zread_inv 8 0 0 1 l (by omega) (by omega) h'
  rw [Int.zero_add, Int.mul_one] at g4 g5
  have hu := unf_or g1
  have hv : (ztakeR l).1 = unf m := g5
  have hr : (ztakeR l).2.1 = l.drop (zenc 8 m).length := by
    show (if (zread 8 0 0 1 l).2.2 = 0 then l.drop (zread 8 0 0 1 l).2.1.toNat else []) = _
    rw [if_pos h', g6]
    congr 1
    omega
  rw [hv, hr, zput_nil (by omega), fold_unf g1]
  exact ⟨rfl, by rw [List.nil_append]; exact g7.symm⟩
theorem zig_again' {l : List Bool} (h : (ztakeR l).2.2 = 0) : ∃ Z, zputR [] (ztakeR l).1 = (Z, 0) ∧ Z ++ (ztakeR l).2.1 = l ∧ Z.length + (ztakeR l).2.1.length = l.length := by
  have h1 := zig_again h
  exact ⟨_, h1.1, h1.2, by have := congrArg List.length h1.2; rwa [List.length_append] at this⟩
theorem fold_near {v w : Int} (h : max v (0 - v) < max w (0 - w)) : (zenc 8 (foldN v)).length ≤ (zenc 8 (foldN w)).length := by
  have h1 := foldN_or v
  have h2 := foldN_or w
  exact zenc_mono _ _ _ (by omega)
end Go.Rb
