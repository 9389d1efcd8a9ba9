/-
  What is proved: small numbers in groups of four bits, as plain functions. Conditions: none.
-/
import Derived.Test.YtoihccclnkhmaaaP1c
set_option linter.unusedVariables false
set_option linter.unusedSimpArgs false
set_option maxRecDepth 4000
namespace Go.Rb
def foldN (v : Int) : Int := if v < 0 then -2 * v - 1 else 2 * v
theorem foldN_or (v : Int) : (v < 0 ∧ foldN v = -2 * v - 1) ∨ (0 ≤ v ∧ foldN v = 2 * v) := by unfold foldN; split <;> omega
def unf (n : Int) : Int := if n % 2 = 1 then (-(n + 1)).tdiv 2 else n.tdiv 2
theorem unf_or {n : Int} (h : 0 ≤ n) : (n % 2 = 1 ∧ unf n = -(n / 2 + 1) ∧ (0 - (n + 1)).tdiv 2 = unf n) ∨ (n % 2 = 0 ∧ unf n = n / 2 ∧ n.tdiv 2 = unf n) := by
  unfold unf
  have h1 : n.tdiv 2 = n / 2 := Int.tdiv_eq_ediv_of_nonneg h
  have h2 : (-(n + 1)).tdiv 2 = -((n + 1) / 2) := by rw [Int.neg_tdiv, Int.tdiv_eq_ediv_of_nonneg (by omega)]
  split
  · left; refine ⟨by assumption, ?_, by rw [Int.zero_sub]⟩; rw [h2]; omega
  · right; refine ⟨by omega, h1, rfl⟩
theorem unf_fold (v : Int) : unf (foldN v) = v := by
  have h := foldN_or v
  have h1 := unf_or (n := foldN v) (by omega)
  omega
theorem fold_unf {n : Int} (h : 0 ≤ n) : foldN (unf n) = n := by
  have h1 := unf_or h
  have h2 := foldN_or (unf n)
  omega
theorem pow8 {k : Nat} (h : k ≤ 8) : 1 ≤ (8 : Int) ^ k ∧ (8 : Int) ^ k ≤ 16777216 := by
  have h1 : (8 : Int) ^ k ≤ 8 ^ 8 := by
    have := Nat.pow_le_pow_right (n := 8) (by omega) h
    exact_mod_cast this
  have h2 : (0 : Int) < 8 ^ k := Int.pow_pos (by omega)
  exact ⟨by omega, h1⟩
def zenc : Nat → Int → List Bool
  | 0, _ => []
  | f + 1, m => bitsN 4 ((if m ≥ 8 then 8 else 0) + m % 8) ++ (if m ≥ 8 then zenc f (m / 8) else [])
theorem zenc_last {f : Nat} {m : Int} (hf : 1 ≤ f) (h : m < 8) : zenc f m = bitsN 4 (0 + m % 8) := by
  obtain ⟨g, rfl⟩ : ∃ g, f = g + 1 := ⟨f - 1, by omega⟩
  rw [zenc, if_neg (by omega), if_neg (by omega), List.append_nil]
theorem zenc_more {f : Nat} {m : Int} (hf : 1 ≤ f) (h : 8 ≤ m) : zenc f m = bitsN 4 (8 + m % 8) ++ zenc (f - 1) (m / 8) := by
  obtain ⟨g, rfl⟩ : ∃ g, f = g + 1 := ⟨f - 1, by omega⟩
  rw [zenc, if_pos h, if_pos h]; rfl
theorem zenc_len : ∀ (f : Nat) (m : Int), (zenc f m).length ≤ 4 * f
  | 0, _ => by simp [zenc]
  | f + 1, m => by
    have := zenc_len f (m / 8)
    rw [zenc, List.length_append, bitsN_len]
    split
    · omega
    · simp; omega
theorem div8_lt {m : Int} {f : Nat} (h : m < 8 ^ f) (h8 : 8 ≤ m) : 2 ≤ f ∧ m / 8 < 8 ^ (f - 1) := by
  match f, h with
  | 0, h => simp at h; omega
  | 1, h => simp at h; omega
  | f + 2, h =>
    refine ⟨by omega, ?_⟩
    rw [Int.pow_succ] at h
    show m / 8 < 8 ^ (f + 1)
    omega
def zputR (l : List Bool) (v : Int) : List Bool × Int := if v < -4000000 ∨ v > 4000000 then ([], 3) else (l ++ zenc 8 (foldN v), 0)
theorem put4 (k : List Bool) {n : Int} (h0 : 0 ≤ n) (h1 : n < 16) : putR k n 4 = (k ++ bitsN 4 n, 0) := by
  unfold putR
  rw [if_pos ⟨by omega, by omega, h0, by simpa using h1⟩]; rfl
theorem putm {k : List Bool} {m : Int} (h : 0 ≤ m) : putR k (8 + m % 8) 4 = (k ++ bitsN 4 (8 + m % 8), 0) ∧ putR k (0 + m % 8) 4 = (k ++ bitsN 4 (0 + m % 8), 0) :=
  ⟨put4 k (by omega) (by omega), put4 k (by omega) (by omega)⟩

/-! ### Reading -/
def zread : Nat → Nat → Int → Int → List Bool → Int × Int × Int
  | 0, _, _, _, _ => (0, 0, 3)
  | f + 1, k, n, sc, l =>
    if l.length < 4 then (0, 0, 8) else
    if (readR l 4).1 = 0 ∧ k > 0 then (0, 0, 4) else
    if n + (readR l 4).1 % 8 * sc > 8000000 then (0, 0, 3) else
    if (readR l 4).1 < 8 then (unf (n + (readR l 4).1 % 8 * sc), 4 * (k : Int) + 4, 0) else zread f (k + 1) (n + (readR l 4).1 % 8 * sc) (sc * 8) (l.drop 4)
def zreadR (l : List Bool) : Int × Int × Int := zread 8 0 0 1 l
theorem rd4 (d : List Bool) : (d.length < 4 ∧ (readR d 4).1 = 0 ∧ (readR d 4).2 = 8) ∨ (4 ≤ d.length ∧ (readR d 4).1 = val (d.take 4) ∧ (readR d 4).2 = 0 ∧ 0 ≤ (readR d 4).1 ∧ (readR d 4).1 < 16) := by
  unfold readR
  rw [if_neg (by omega)]
  by_cases h : (d.length : Int) < 4
  · rw [if_pos h]; left; exact ⟨by omega, rfl, rfl⟩
  · rw [if_neg h]
    have h1 := val_bound (d.take 4)
    rw [List.length_take, Nat.min_eq_left (by omega)] at h1
    right; exact ⟨by omega, rfl, rfl, h1.1, by simpa using h1.2⟩
section
variable {f k : Nat} {n sc : Int} {l : List Bool}
theorem zr_torn (hf : 1 ≤ f) (h : l.length < 4) : zread f k n sc l = (0, 0, 8) := by
  obtain ⟨g, rfl⟩ : ∃ g, f = g + 1 := ⟨f - 1, by omega⟩
  rw [zread, if_pos h]
theorem zr_form (hf : 1 ≤ f) (h : 4 ≤ l.length) (h0 : (readR l 4).1 = 0) (hk : 0 < k) : zread f k n sc l = (0, 0, 4) := by
  obtain ⟨g, rfl⟩ : ∃ g, f = g + 1 := ⟨f - 1, by omega⟩
  rw [zread, if_neg (by omega), if_pos ⟨h0, hk⟩]
theorem zr_range (hf : 1 ≤ f) (h : 4 ≤ l.length) (h0 : ¬ ((readR l 4).1 = 0 ∧ 0 < k)) (h1 : n + (readR l 4).1 % 8 * sc > 8000000) : zread f k n sc l = (0, 0, 3) := by
  obtain ⟨g, rfl⟩ : ∃ g, f = g + 1 := ⟨f - 1, by omega⟩
  rw [zread, if_neg (by omega), if_neg h0, if_pos h1]
theorem zr_done (hf : 1 ≤ f) (h : 4 ≤ l.length) (h0 : ¬ ((readR l 4).1 = 0 ∧ 0 < k)) (h1 : ¬ n + (readR l 4).1 % 8 * sc > 8000000) (h2 : (readR l 4).1 < 8) : zread f k n sc l = (unf (n + (readR l 4).1 % 8 * sc), 4 * (k : Int) + 4, 0) := by
  obtain ⟨g, rfl⟩ : ∃ g, f = g + 1 := ⟨f - 1, by omega⟩
  rw [zread, if_neg (by omega), if_neg h0, if_neg h1, if_pos h2]
theorem zr_next (hf : 1 ≤ f) (h : 4 ≤ l.length) (h0 : ¬ ((readR l 4).1 = 0 ∧ 0 < k)) (h1 : ¬ n + (readR l 4).1 % 8 * sc > 8000000) (h2 : ¬ (readR l 4).1 < 8) : zread f k n sc l = zread (f - 1) (k + 1) (n + (readR l 4).1 % 8 * sc) (sc * 8) (l.drop 4) := by
  obtain ⟨g, rfl⟩ : ∃ g, f = g + 1 := ⟨f - 1, by omega⟩
  rw [zread, if_neg (by omega), if_neg h0, if_neg h1, if_neg h2]; rfl
theorem zr_zero : zread 0 k n sc l = (0, 0, 3) := rfl
end
theorem mul_bd {a b c : Int} (h0 : 0 ≤ a) (h1 : a ≤ 7) (h2 : 0 ≤ b) (h3 : b ≤ c) : 0 ≤ a * b ∧ a * b ≤ 7 * c := by
  refine ⟨Int.mul_nonneg h0 h2, ?_⟩
  have h4 : a * b ≤ 7 * b := Int.mul_le_mul_of_nonneg_right h1 h2
  omega
theorem zread_ok : ∀ (f k : Nat) (n sc : Int) (l : List Bool), (zread f k n sc l).2.2 = 0 → 4 * (k : Int) ≤ (zread f k n sc l).2.1 ∧ (zread f k n sc l).2.1 ≤ 4 * (k : Int) + l.length
  | 0, k, n, sc, l, h => by simp [zread] at h
  | f + 1, k, n, sc, l, h => by
    by_cases h1 : l.length < 4
    · rw [zr_torn (by omega) h1] at h; simp at h
    · by_cases h2 : (readR l 4).1 = 0 ∧ 0 < k
      · rw [zr_form (by omega) (by omega) h2.1 h2.2] at h; simp at h
      · by_cases h3 : n + (readR l 4).1 % 8 * sc > 8000000
        · rw [zr_range (by omega) (by omega) h2 h3] at h; simp at h
        · by_cases h4 : (readR l 4).1 < 8
          · rw [zr_done (by omega) (by omega) h2 h3 h4]; simp only; omega
          · rw [zr_next (by omega) (by omega) h2 h3 h4] at h ⊢
            have := zread_ok _ _ _ _ _ h
            rw [List.length_drop] at this
            simp only [Nat.add_sub_cancel] at this ⊢
            push_cast at this
            omega
theorem zread_bad : ∀ (f k : Nat) (n sc : Int) (l : List Bool), ¬ (zread f k n sc l).2.2 = 0 → (zread f k n sc l).1 = 0 ∧ (zread f k n sc l).2.1 = 0
  | 0, k, n, sc, l, h => ⟨rfl, rfl⟩
  | f + 1, k, n, sc, l, h => by
    by_cases h1 : l.length < 4
    · rw [zr_torn (by omega) h1]; exact ⟨rfl, rfl⟩
    · by_cases h2 : (readR l 4).1 = 0 ∧ 0 < k
      · rw [zr_form (by omega) (by omega) h2.1 h2.2]; exact ⟨rfl, rfl⟩
      · by_cases h3 : n + (readR l 4).1 % 8 * sc > 8000000
        · rw [zr_range (by omega) (by omega) h2 h3]; exact ⟨rfl, rfl⟩
        · by_cases h4 : (readR l 4).1 < 8
          · rw [zr_done (by omega) (by omega) h2 h3 h4] at h; simp at h
          · rw [zr_next (by omega) (by omega) h2 h3 h4] at h ⊢
            exact zread_bad _ _ _ _ _ h
theorem zreadR_ok {l : List Bool} (h : (zreadR l).2.2 = 0) : 0 ≤ (zreadR l).2.1 ∧ (zreadR l).2.1 ≤ l.length := by
  have := zread_ok 8 0 0 1 l h
  unfold zreadR
  omega
theorem zreadR_bad {l : List Bool} (h : ¬ (zreadR l).2.2 = 0) : (zreadR l).1 = 0 ∧ (zreadR l).2.1 = 0 := zread_bad 8 0 0 1 l h
def ztakeR (l : List Bool) : Int × List Bool × Int := ((zreadR l).1, (if (zreadR l).2.2 = 0 then l.drop (zreadR l).2.1.toNat else []), (zreadR l).2.2)

theorem zputR_len (l : List Bool) (v : Int) : (zputR l v).1.length ≤ l.length + 32 := by
  unfold zputR
  have := zenc_len 8 (foldN v)
  split
  · simp
  · rw [List.length_append]; omega
theorem ztakeR_len (l : List Bool) : (ztakeR l).2.1.length ≤ l.length := by
  unfold ztakeR
  dsimp only
  split
  · rw [List.length_drop]; omega
  · simp
/-! ### The document's way -/
def dig : Nat → Int → List Int
  | 0, _ => []
  | f + 1, m => m % 8 :: (if m ≥ 8 then dig f (m / 8) else [])
def grp (more : Bool) (d : Int) : List Bool := [more, decide (d ≥ 4), decide (d.tmod 4 ≥ 2), d.tmod 2 == 1]
def codeAt (D : List Int) (i : Nat) : List Bool := ((List.range i).map fun (j : Nat) => grp (decide ((j : Int) < D.length - 1)) (D.getD j default)).flatten
theorem codeAt_next (D : List Int) (i : Nat) : codeAt D (i + 1) = codeAt D i ++ grp (decide ((i : Int) < D.length - 1)) (D.getD i default) := by simp [codeAt, List.range_succ]
theorem codeAt_len (D : List Int) (i : Nat) : (codeAt D i).length = 4 * i := by
  induction i with
  | zero => simp [codeAt]
  | succ i ih => rw [codeAt_next, List.length_append, ih]; simp [grp]; omega
theorem grp_bits {d : Int} (b : Bool) (h0 : 0 ≤ d) (h1 : d < 8) : grp b d = bitsN 4 ((if b then 8 else 0) + d) := by
  have h : d = 0 ∨ d = 1 ∨ d = 2 ∨ d = 3 ∨ d = 4 ∨ d = 5 ∨ d = 6 ∨ d = 7 := by omega
  cases b <;> rcases h with rfl | rfl | rfl | rfl | rfl | rfl | rfl | rfl <;> decide
theorem codeAt_cons (d : Int) (D : List Int) : codeAt (d :: D) (D.length + 1) = grp (decide (0 < D.length)) d ++ codeAt D D.length := by
  unfold codeAt
  rw [List.range_succ_eq_map, List.map_cons, List.flatten_cons, List.map_map]
  congr 1
  · congr 1
    simp only [List.length_cons]
    apply decide_eq_decide.2
    omega
  · congr 1
    apply List.map_congr_left
    intro j _
    simp only [Function.comp, List.getD_cons_succ, List.length_cons]
    congr 1
    apply decide_eq_decide.2
    omega
theorem dig_pos {f : Nat} {m : Int} (h : 1 ≤ f) : 0 < (dig f m).length := by
  obtain ⟨g, rfl⟩ : ∃ g, f = g + 1 := ⟨f - 1, by omega⟩
  simp [dig]
theorem code_dig : ∀ (f : Nat) (m : Int), 0 ≤ m → m < 8 ^ f → 1 ≤ f → codeAt (dig f m) (dig f m).length = zenc f m
  | 0, m, _, _, h => by omega
  | f + 1, m, h0, h1, _ => by
    rw [dig, List.length_cons, codeAt_cons]
    by_cases h8 : m ≥ 8
    · have h2 := div8_lt h1 h8
      rw [if_pos h8, zenc_more (by omega) h8]
      have hp := dig_pos (f := f) (m := m / 8) (by omega)
      rw [code_dig f (m / 8) (by omega) h2.2 (by omega), grp_bits _ (by omega) (by omega)]
      simp [hp]
    · rw [if_neg h8, zenc_last (by omega) (by omega), grp_bits _ (by omega) (by omega)]
      simp [codeAt]
theorem dig_step {f : Nat} {m : Int} (hf : 1 ≤ f) (h0 : 0 ≤ m) : dig f m = (m % 8) :: (if m / 8 > 0 then dig (f - 1) (m / 8) else []) := by
  obtain ⟨g, rfl⟩ : ∃ g, f = g + 1 := ⟨f - 1, by omega⟩
  rw [dig]
  by_cases h8 : m ≥ 8
  · rw [if_pos h8, if_pos (by omega)]; rfl
  · rw [if_neg h8, if_neg (by omega)]
theorem code_fold {v : Int} (h : -4000000 ≤ v ∧ v ≤ 4000000) : codeAt (dig 8 (foldN v)) (dig 8 (foldN v)).length = zenc 8 (foldN v) := by
  have h1 := foldN_or v
  exact code_dig 8 _ (by omega) (by show _ < (16777216 : Int); omega) (by omega)
/-! A group as the document takes it apart. -/
def dAt (b : List Bool) (i : Nat) : Int := (if 0 < i ∧ b.getD 0 default then 4 else 0) + (if 1 < i ∧ b.getD 1 default then 2 else 0) + (if 2 < i ∧ b.getD 2 default then 1 else 0)
theorem dAt_next {b : List Bool} {i : Nat} (h : i < 3) : dAt b (i + 1) = dAt b i + (if b.getD i default then (4 : Int) / 2 ^ i else 0) := by
  have h3 : i = 0 ∨ i = 1 ∨ i = 2 := by omega
  rcases h3 with rfl | rfl | rfl <;> simp [dAt]
theorem dAt_in (b : List Bool) (i : Nat) : 0 ≤ dAt b i ∧ dAt b i ≤ 7 := by
  unfold dAt
  split <;> split <;> split <;> omega
theorem group {l : List Bool} (h : 4 ≤ l.length) : (readR l 4).1 = (if l.getD 0 default then 8 else 0) + dAt ((l.take 4).drop 1) 3 := by
  match l, h with
  | a :: b :: c :: d :: r, _ =>
    have h1 := rd4 (a :: b :: c :: d :: r)
    simp only [List.length_cons] at h1
    have h2 : (readR (a :: b :: c :: d :: r) 4).1 = val [a, b, c, d] := by
      rcases h1 with h1 | h1
      · omega
      · exact h1.2.1
    rw [h2]
    show val [a, b, c, d] = (if a = true then 8 else 0) + dAt [b, c, d] 3
    cases a <;> cases b <;> cases c <;> cases d <;> decide
theorem group_f {l : List Bool} (h : 4 ≤ l.length) (hb : l.getD 0 default = false) : (readR l 4).1 = dAt ((l.take 4).drop 1) 3 := by rw [group h, hb]; simp
theorem group_t {l : List Bool} (h : 4 ≤ l.length) (hb : l.getD 0 default = true) : (readR l 4).1 = 8 + dAt ((l.take 4).drop 1) 3 := by rw [group h, hb]; simp
theorem group_mod {l : List Bool} (h : 4 ≤ l.length) : (readR l 4).1 % 8 = dAt ((l.take 4).drop 1) 3 := by
  have h1 := group h
  have h2 := dAt_in ((l.take 4).drop 1) 3
  split at h1 <;> omega
end Go.Rb
