/-
  What is proved: points in bits, as plain functions. Conditions: none.
-/
import Derived.Test.YtoihccclnkhmaaaP2b
import Derived.Test.YtoihccclnkhmaaaP3a
set_option linter.unusedVariables false
set_option linter.unusedSimpArgs false
set_option maxRecDepth 4000
namespace Go.Rb
abbrev badP (p : Pt) : Prop := p.t < 0 ∨ p.t > 100000 ∨ p.v < -1000000 ∨ p.v > 1000000
def chkP (p : Pt) : Int := if badP p then 3 else 0
theorem chkP_or (p : Pt) : (badP p ∧ chkP p = 3) ∨ (PtIn p ∧ chkP p = 0) := by
  unfold chkP
  by_cases h : badP p
  · left; exact ⟨h, if_pos h⟩
  · right; exact ⟨by unfold badP at h; unfold PtIn; omega, if_neg h⟩
def lastP (l : List Pt) (i : Nat) : Pt := if i = 0 then ⟨0, 0⟩ else l.getD (i - 1) default
def stepP (l : List Pt) (i : Nat) : Int := if i = 0 then 0 else (l.getD (i - 1) default).t - (lastP l (i - 1)).t
theorem lastP_next (l : List Pt) (i : Nat) : lastP l (i + 1) = l.getD i default := by simp [lastP]
theorem stepP_next (l : List Pt) (i : Nat) : stepP l (i + 1) = (l.getD i default).t - (lastP l i).t := by simp [stepP]
def itemB (last : Pt) (step : Int) (p : Pt) : List Bool := zenc 8 (foldN (p.t - last.t - step)) ++ zenc 8 (foldN (p.v - last.v))
def packAt (l : List Pt) (i : Nat) : List Bool := ((List.range i).map fun j => itemB (lastP l j) (stepP l j) (l.getD j default)).flatten
theorem packAt_next (l : List Pt) (i : Nat) : packAt l (i + 1) = packAt l i ++ itemB (lastP l i) (stepP l i) (l.getD i default) := by simp [packAt, List.range_succ]
theorem itemB_len (a : Pt) (s : Int) (p : Pt) : (itemB a s p).length ≤ 64 := by
  have h1 := zenc_len 8 (foldN (p.t - a.t - s))
  have h2 := zenc_len 8 (foldN (p.v - a.v))
  unfold itemB; rw [List.length_append]; omega
theorem packAt_len (l : List Pt) (i : Nat) : (packAt l i).length ≤ 64 * i := by
  induction i with
  | zero => simp [packAt]
  | succ i ih =>
    have := itemB_len (lastP l i) (stepP l i) (l.getD i default)
    rw [packAt_next, List.length_append]; omega
def packR (l : List Pt) : List Bool × Int := if checkL l = 0 then (packAt l l.length, 0) else ([], checkL l)
theorem packR_len (l : List Pt) : (packR l).1.length ≤ 2560 := by
  unfold packR
  split
  · rename_i h
    have h1 := packAt_len l l.length
    have h2 := checkL_len h
    show (packAt l l.length).length ≤ 2560
    omega
  · simp
/-- What is packed is in range. -/
theorem pk_in {l : List Pt} (h : checkL l = 0) {i : Nat} (hi : i < l.length) : PtIn (l.getD i default) ∧ PtIn (lastP l i) ∧ -100000 ≤ stepP l i ∧ stepP l i ≤ 100000 := by
  have hall := checkL_all h
  have hp : ∀ j, j < l.length → PtIn (l.getD j default) := fun j hj => hall _ (getD_mem hj)
  have hl : ∀ j, j ≤ l.length → PtIn (lastP l j) := by
    intro j hj
    unfold lastP
    split
    · unfold PtIn; decide
    · exact hp _ (by omega)
  refine ⟨hp i hi, hl i (by omega), ?_⟩
  unfold stepP
  split
  · omega
  · have h1 := hp (i - 1) (by omega)
    have h2 := hl (i - 1) (by omega)
    unfold PtIn at h1 h2
    omega
/-- The document's differences. -/
theorem second {l : List Pt} {i : Nat} : (i = 0 → (lastP l i).t = 0 ∧ (lastP l i).v = 0 ∧ stepP l i = 0) ∧ (0 < i → (lastP l i) = l.getD (i - 1) default) ∧ (i = 1 → stepP l i = (l.getD (i - 1) default).t) ∧
    (1 < i → stepP l i = (l.getD (i - 1) default).t - (l.getD (i - 2) default).t) := by
  refine ⟨?_, ?_, ?_, ?_⟩
  · rintro rfl; simp [lastP, stepP]
  · intro h; unfold lastP; rw [if_neg (by omega)]
  · rintro rfl; simp [lastP, stepP]
  · intro h
    unfold stepP lastP
    rw [if_neg (by omega), if_neg (by omega), show i - 1 - 1 = i - 2 from by omega]

/-! ### Unpacking -/
def stepE (k : Nat) (last p : Pt) : Int := if badP p then 3 else if 0 < k ∧ last.t ≥ p.t then 7 else 0
def nxt (last : Pt) (step : Int) (b : List Bool) : Pt := ⟨last.t + step + (zreadR b).1, last.v + (zreadR (b.drop (zreadR b).2.1.toNat)).1⟩
def bits1 (b : List Bool) : List Bool := b.drop (zreadR b).2.1.toNat
def bits2 (b : List Bool) : List Bool := (bits1 b).drop (zreadR (bits1 b)).2.1.toNat
def unpk : Nat → Nat → Pt → Int → List Pt → List Bool → List Pt × Int
  | 0, _, _, _, acc, b => if b.length > 0 then ([], 8) else (acc, 0)
  | f + 1, k, last, step, acc, b =>
    if ¬ (zreadR b).2.2 = 0 then ([], (zreadR b).2.2) else
    if ¬ (zreadR (bits1 b)).2.2 = 0 then ([], (zreadR (bits1 b)).2.2) else
    if ¬ stepE k last (nxt last step b) = 0 then ([], stepE k last (nxt last step b)) else
    unpk f (k + 1) (nxt last step b) ((nxt last step b).t - last.t) (acc ++ [nxt last step b]) (bits2 b)
def unpackR (b : List Bool) (n : Int) : List Pt × Int := if n < 0 ∨ n > 40 then ([], 2) else unpk n.toNat 0 ⟨0, 0⟩ 0 [] b
section
variable {f k : Nat} {last : Pt} {step : Int} {acc : List Pt} {b : List Bool}
theorem un_a (hf : 1 ≤ f) (h : ¬ (zreadR b).2.2 = 0) : unpk f k last step acc b = ([], (zreadR b).2.2) := by
  obtain ⟨g, rfl⟩ : ∃ g, f = g + 1 := ⟨f - 1, by omega⟩
  rw [unpk, if_pos h]
theorem un_b (hf : 1 ≤ f) (h : (zreadR b).2.2 = 0) (h1 : ¬ (zreadR (bits1 b)).2.2 = 0) : unpk f k last step acc b = ([], (zreadR (bits1 b)).2.2) := by
  obtain ⟨g, rfl⟩ : ∃ g, f = g + 1 := ⟨f - 1, by omega⟩
  rw [unpk, if_neg (by omega), if_pos h1]
theorem un_c (hf : 1 ≤ f) (h : (zreadR b).2.2 = 0) (h1 : (zreadR (bits1 b)).2.2 = 0) (h2 : ¬ stepE k last (nxt last step b) = 0) : unpk f k last step acc b = ([], stepE k last (nxt last step b)) := by
  obtain ⟨g, rfl⟩ : ∃ g, f = g + 1 := ⟨f - 1, by omega⟩
  rw [unpk, if_neg (by omega), if_neg (by omega), if_pos h2]
theorem un_d (hf : 1 ≤ f) (h : (zreadR b).2.2 = 0) (h1 : (zreadR (bits1 b)).2.2 = 0) (h2 : stepE k last (nxt last step b) = 0) :
    unpk f k last step acc b = unpk (f - 1) (k + 1) (nxt last step b) ((nxt last step b).t - last.t) (acc ++ [nxt last step b]) (bits2 b) := by
  obtain ⟨g, rfl⟩ : ∃ g, f = g + 1 := ⟨f - 1, by omega⟩
  rw [unpk, if_neg (by omega), if_neg (by omega), if_neg (by omega)]; rfl
theorem un_e (h : b.length > 0) : unpk 0 k last step acc b = ([], 8) := by rw [unpk, if_pos h]
theorem un_f (h : ¬ b.length > 0) : unpk 0 k last step acc b = (acc, 0) := by rw [unpk, if_neg h]
end
theorem stepE_or (k : Nat) (last p : Pt) : (badP p ∧ stepE k last p = 3) ∨ (PtIn p ∧ 0 < k ∧ p.t ≤ last.t ∧ stepE k last p = 7) ∨ (PtIn p ∧ (k = 0 ∨ last.t < p.t) ∧ stepE k last p = 0) := by
  unfold stepE
  by_cases h : badP p
  · left; exact ⟨h, if_pos h⟩
  · have hp : PtIn p := by unfold badP at h; unfold PtIn; omega
    right
    rw [if_neg h]
    by_cases h2 : 0 < k ∧ last.t ≥ p.t
    · left; rw [if_pos h2]; exact ⟨hp, h2.1, h2.2, rfl⟩
    · right; rw [if_neg h2]; exact ⟨hp, by omega, rfl⟩
/-- The last point, held against a new one. -/
theorem check_two {acc : List Pt} {last p : Pt} {k : Nat} (hk : acc.length = k) (hl : PtIn last) (hlast : 0 < k → acc.getD (k - 1) default = last) : checkL (acc.drop (acc.length - 1) ++ [p]) = stepE k last p := by
  by_cases h0 : k = 0
  · have : acc = [] := List.eq_nil_of_length_eq_zero (by omega)
    subst this
    subst h0
    simp only [List.drop_nil, List.nil_append, checkL, List.length_cons, List.length_nil, chk, stepE, badP]
    unfold PtIn at hl
    rw [if_neg (by omega)]
    by_cases hb : p.t < 0 ∨ p.t > 100000 ∨ p.v < -1000000 ∨ p.v > 1000000
    · rw [if_pos hb, if_pos hb]
    · rw [if_neg hb, if_neg hb, if_neg (by omega), if_neg (by omega)]
  · have hd : acc.drop (acc.length - 1) = [last] := by
      rw [drop_cons (by omega), List.drop_of_length_le (by omega), hk, hlast (by omega)]
    rw [hd]
    simp only [List.cons_append, List.nil_append, checkL, List.length_cons, List.length_nil, chk, stepE, badP]
    unfold PtIn at hl
    rw [if_neg (by omega), if_neg (by omega), if_neg (by omega)]
    by_cases hb : p.t < 0 ∨ p.t > 100000 ∨ p.v < -1000000 ∨ p.v > 1000000
    · rw [if_pos hb, if_pos hb]
    · rw [if_neg hb, if_neg hb]
      by_cases hc : last.t ≥ p.t
      · rw [if_pos hc, if_pos ⟨by omega, hc⟩]
      · rw [if_neg hc, if_neg (by omega)]
theorem zreadR_in (l : List Bool) : -4000001 ≤ (zreadR l).1 ∧ (zreadR l).1 ≤ 4000000 := by
  by_cases h : (zreadR l).2.2 = 0
  · obtain ⟨m, g1, g2, g3, g4, g5, _⟩ := zread_inv 8 0 0 1 l (by omega) (by omega) h
    rw [Int.zero_add, Int.mul_one] at g4 g5
    have hu := unf_or g1
    have hv : (zreadR l).1 = unf m := g5
    omega
  · rw [(zreadR_bad h).1]; omega
theorem ztakeR_eq (b : List Bool) : (ztakeR b).1 = (zreadR b).1 ∧ (ztakeR b).2.2 = (zreadR b).2.2 := ⟨rfl, rfl⟩
theorem ztakeR_rest {b : List Bool} (h : (zreadR b).2.2 = 0) : (ztakeR b).2.1 = bits1 b := by unfold ztakeR bits1; exact if_pos h
theorem bits1_len (b : List Bool) : (bits1 b).length ≤ b.length := by unfold bits1; rw [List.length_drop]; omega
theorem bits2_len (b : List Bool) : (bits2 b).length ≤ b.length := by
  have := bits1_len b
  unfold bits2; rw [List.length_drop]; omega
theorem bits2_eq {b : List Bool} (h : (zreadR b).2.2 = 0) (h1 : (zreadR (bits1 b)).2.2 = 0) : b.drop ((zreadR b).2.1 + (zreadR (bits1 b)).2.1).toNat = bits2 b := by
  have g1 := zreadR_ok h
  have g2 := zreadR_ok h1
  unfold bits2 bits1
  unfold bits1 at g2
  rw [List.drop_drop]
  congr 1
  omega
theorem unpk_len : ∀ (f k : Nat) (last : Pt) (step : Int) (acc : List Pt) (b : List Bool), (unpk f k last step acc b).1.length ≤ acc.length + f
  | 0, k, last, step, acc, b => by
    by_cases h : b.length > 0
    · rw [un_e h]; simp
    · rw [un_f h]; simp
  | f + 1, k, last, step, acc, b => by
    by_cases h1 : (zreadR b).2.2 = 0
    · by_cases h2 : (zreadR (bits1 b)).2.2 = 0
      · by_cases h3 : stepE k last (nxt last step b) = 0
        · rw [un_d (by omega) h1 h2 h3]
          have := unpk_len (f + 1 - 1) (k + 1) (nxt last step b) ((nxt last step b).t - last.t) (acc ++ [nxt last step b]) (bits2 b)
          rw [List.length_append] at this
          simp only [List.length_cons, List.length_nil] at this
          omega
        · rw [un_c (by omega) h1 h2 h3]; simp
      · rw [un_b (by omega) h1 h2]; simp
    · rw [un_a (by omega) h1]; simp
theorem unpackR_len (b : List Bool) (n : Int) : (unpackR b n).1.length ≤ 40 := by
  unfold unpackR
  split
  · simp
  · have := unpk_len n.toNat 0 ⟨0, 0⟩ 0 [] b
    simp only [List.length_nil] at this
    omega
end Go.Rb
