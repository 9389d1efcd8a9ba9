/-
  What is proved, part by part: What is stated: the program's data as plain Lean types. numbers as bits, as plain functions. numbers as bits, further plain facts. numbers as bits: what is put is taken. small numbers in groups of four bits, as plain functions. what is put in groups of four bits is taken, and no two ways write one number. when points rise, as a plain function. points in bits, as plain functions. points that are packed are unpacked, just so many; what is unpacked is packed as it was; beginnings; steady points. blocks, as plain functions; of two merged both are there. how loops run; plain operations in plain words. slices cloned, held against each other, put together: in plain words, for elements of any kind. facts on the types of the program. what bits.Read comes to. what slices.Clone[[]bool,bool] comes to. what bits.Take comes to. what bits.Put comes to. what slices.Equal[[]bool,bool] comes to. numbers as bits: what the program's functions come to, in plain words. what zig.Read comes to. what zig.Take comes to. what zig.fold comes to. what zig.Put comes to. numbers either way as bits: what the program's functions come to, in plain words. what rainbookref.in comes to. what rainbookref.Coded comes to. what rainbookref.Decoded comes to. numbers either way as bits: what the document's functions come to, in plain words. what line.Check comes to. what line.Pack comes to. what line.Unpack comes to. what rainbookref.CheckPoint comes to. what rainbookref.CheckPoints comes to. what rainbookref.PackedOf comes to. what rainbookref.UnpackedOf comes to. points of a series: what the program's functions come to, in plain words. points of a series packed, unpacked: what the program's and the document's functions come to, in plain words. points of a series unpacked: what the program's and the document's functions come to, in plain words. Conditions: none.
-/
import Derived.Test.YtoihccclnkhmaaaKED
import Derived.Test.YtoihccclnkhmaaaKEC
import Derived.Test.YtoihccclnkhmaaaProg
import Derived.KernelRfl
set_option linter.unusedVariables false
set_option linter.unusedSimpArgs false
set_option linter.unnecessarySimpa false
set_option maxRecDepth 4000
namespace Go.Rb

abbrev Pt := Int × Int
abbrev Pt.t (p : Pt) : Int := Prod.fst p
abbrev Pt.v (p : Pt) : Int := Prod.snd p
abbrev Sm := Int × Int × Int × Int
abbrev Bk := Int × Int × Int × List Bool
abbrev Bk.n (b : Bk) : Int := Prod.fst b
abbrev Bk.fr (b : Bk) : Int := Prod.fst (Prod.snd b)
abbrev Bk.to (b : Bk) : Int := Prod.fst (Prod.snd (Prod.snd b))
abbrev Bk.bits (b : Bk) : List Bool := Prod.snd (Prod.snd (Prod.snd b))
abbrev Rowd := List Bk × List Pt
abbrev Rowd.blocks (r : Rowd) : List Bk := Prod.fst r
abbrev Rowd.head (r : Rowd) : List Pt := Prod.snd r
abbrev Shf := List Rowd
abbrev Ent := Int × Int × Int
abbrev Buc := Int × Int × Int × Int × Int
abbrev Rc := Int × Int × Int × List Ent

def inR64 (n : Int) : Prop := -9223372036854775808 ≤ n ∧ n ≤ 9223372036854775807
theorem wr_id {n : Int} (h1 : -9223372036854775808 ≤ n) (h2 : n ≤ 9223372036854775807) : IntKind.wrap .i64 n = n := by rw [IntKind.wrap_i64]; omega
theorem wrap_or (n : Int) : ∃ k : Int, IntKind.wrap .i64 n = n + k * 18446744073709551616 := by
  refine ⟨-((n + 9223372036854775808) / 18446744073709551616), ?_⟩
  rw [IntKind.wrap_i64]; omega

theorem take_next {α : Type} [Inhabited α] {l : List α} {i : Nat} (h : i < l.length) : l.take (i + 1) = l.take i ++ [l.getD i default] := by
  rw [List.take_succ_eq_append_getElem h]; simp [List.getD, List.getElem?_eq_getElem h]
end Go.Rb
namespace Go.Rb
def bitAt (n : Int) (k : Nat) : Bool := n / 2 ^ k % 2 == 1
def bitsN (w : Nat) (n : Int) : List Bool := (List.range w).map fun j => bitAt n (w - 1 - j)
def putOk (n w : Int) : Prop := 0 ≤ w ∧ w ≤ 40 ∧ 0 ≤ n ∧ n < 2 ^ w.toNat
instance (n w : Int) : Decidable (putOk n w) := by unfold putOk; infer_instance
def putR (l : List Bool) (n w : Int) : List Bool × Int := if putOk n w then (l ++ bitsN w.toNat n, 0) else ([], 3)
def val (l : List Bool) : Int := l.foldl (fun n b => 2 * n + (if b then 1 else 0)) 0
def readR (l : List Bool) (w : Int) : Int × Int := if w < 0 ∨ w > 40 then (0, 3) else if (l.length : Int) < w then (0, 8) else (val (l.take w.toNat), 0)
def takeR (l : List Bool) (w : Int) : Int × List Bool × Int := if w < 0 ∨ w > 40 then (0, [], 3) else if (l.length : Int) < w then (0, [], 8) else (val (l.take w.toNat), l.drop w.toNat, 0)

theorem bitsN_len (w : Nat) (n : Int) : (bitsN w n).length = w := by simp [bitsN]
theorem bitsN_get {w : Nat} {n : Int} {j : Nat} (h : j < w) : (bitsN w n).getD j default = bitAt n (w - 1 - j) := by
  simp [bitsN, List.getD, h]
theorem pow_pos' (k : Nat) : (0 : Int) < 2 ^ k := Int.pow_pos (by omega)
/-- What the machine's shift and mask make of a number. -/
theorem and_one {a : Int} (h0 : 0 ≤ a) (h1 : a ≤ 9223372036854775807) : IntKind.wrap .i64 ((BitVec.ofInt (IntKind.i64.bits) a &&& BitVec.ofInt (IntKind.i64.bits) 1).toNat : Int) = a % 2 := by
  have hb : IntKind.i64.bits = 64 := rfl
  rw [hb]
  obtain ⟨m, rfl⟩ : ∃ m : Nat, a = (m : Int) := ⟨a.toNat, by omega⟩
  have h2 : (BitVec.ofInt 64 (m : Int)).toNat = m := by
    simp only [BitVec.toNat_ofInt]
    omega
  have h3 : (BitVec.ofInt 64 (1 : Int)).toNat = 1 := by decide
  rw [BitVec.toNat_and, h2, h3, Nat.and_one_is_mod, wr_id (by omega) (by omega)]
  omega
theorem fdiv_pow {a : Int} (h0 : 0 ≤ a) (k : Nat) : a.fdiv (2 ^ k) = a / 2 ^ k := Int.fdiv_eq_ediv_of_nonneg a (by have := pow_pos' k; omega)
theorem div_pow_le {a : Int} (h0 : 0 ≤ a) (k : Nat) : 0 ≤ a / 2 ^ k ∧ a / 2 ^ k ≤ a := by
  have := pow_pos' k
  refine ⟨Int.ediv_nonneg h0 (by omega), Int.ediv_le_self _ h0⟩
theorem shr_zero {n : Int} {w : Nat} (h0 : 0 ≤ n) : n / 2 ^ w = 0 ↔ n < 2 ^ w := by
  have h1 := pow_pos' w
  constructor
  · intro h
    have := Int.lt_ediv_add_one_mul_self n h1
    rw [h] at this
    omega
  · intro h
    exact Int.ediv_eq_zero_of_lt h0 h
theorem val_snoc (l : List Bool) (b : Bool) : val (l ++ [b]) = 2 * val l + (if b then 1 else 0) := by simp [val]
theorem val_next {l : List Bool} {i : Nat} (h : i < l.length) : val (l.take (i + 1)) = 2 * val (l.take i) + (if l.getD i default then 1 else 0) := by
  rw [take_next h, val_snoc]
theorem val_bound : ∀ (l : List Bool), 0 ≤ val l ∧ val l < 2 ^ l.length := by
  intro l
  have key : ∀ (l : List Bool) (a : Int) (k : Nat), 0 ≤ a → a < 2 ^ k → 0 ≤ l.foldl (fun n b => 2 * n + (if b then 1 else 0)) a ∧ l.foldl (fun n b => 2 * n + (if b then 1 else 0)) a < 2 ^ (k + l.length) := by
    intro l
    induction l with
    | nil => intro a k h0 h1; exact ⟨h0, h1⟩
    | cons b l ih =>
      intro a k h0 h1
      rw [List.foldl_cons, List.length_cons, show k + (l.length + 1) = (k + 1) + l.length from by omega]
      refine ih _ (k + 1) ?_ ?_
      · split <;> omega
      · rw [Int.pow_succ]
        split <;> omega
  have := key l 0 0 (by omega) (by decide)
  simpa [val] using this
theorem val_cons (b : Bool) (l : List Bool) : val (b :: l) = (if b then 1 else 0) * 2 ^ l.length + val l := by
  have key : ∀ (l : List Bool) (a : Int), l.foldl (fun n b => 2 * n + (if b then 1 else 0)) a = a * 2 ^ l.length + l.foldl (fun n b => 2 * n + (if b then 1 else 0)) 0 := by
    intro l
    induction l with
    | nil => intro a; simp
    | cons c l ih =>
      intro a
      rw [List.foldl_cons, ih, List.foldl_cons, ih (2 * 0 + _), List.length_cons, Int.pow_succ]
      have e : (2 * a + if c = true then 1 else 0) * 2 ^ l.length = a * (2 ^ l.length * 2) + (2 * 0 + if c = true then 1 else 0) * 2 ^ l.length := by
        rw [Int.add_mul, Int.mul_comm 2 a, Int.mul_assoc, Int.mul_comm 2 (2 ^ l.length)]
        simp
      omega
  show List.foldl _ (2 * 0 + _) l = _
  rw [key]
  simp [val]
end Go.Rb
namespace Go.Rb
theorem pow_mono {a b : Nat} (h : a ≤ b) : (2 : Int) ^ a ≤ 2 ^ b := by
  have := Nat.pow_le_pow_right (n := 2) (by omega) h
  exact_mod_cast this
theorem val_lt40 {l : List Bool} (h : l.length ≤ 40) : 0 ≤ val l ∧ val l < 1099511627776 := by
  have h1 := val_bound l
  have h2 : (2 : Int) ^ l.length ≤ 2 ^ 40 := pow_mono h
  exact ⟨h1.1, Int.lt_of_lt_of_le h1.2 h2⟩
theorem pow40 {k : Nat} (h : k ≤ 40) : 0 < (2 : Int) ^ k ∧ (2 : Int) ^ k ≤ 1099511627776 := ⟨pow_pos' k, pow_mono (b := 40) h⟩
theorem takeR_eq (l : List Bool) (w : Int) : takeR l w = ((readR l w).1, (if (readR l w).2 = 0 then l.drop w.toNat else []), (readR l w).2) := by
  unfold takeR readR
  by_cases h : w < 0 ∨ w > 40
  · simp [h]
  · by_cases h2 : (l.length : Int) < w
    · simp [h, h2]
    · simp [h, h2]
theorem readR_ok {l : List Bool} {w : Int} (h : (readR l w).2 = 0) : 0 ≤ w ∧ w ≤ 40 ∧ w ≤ l.length ∧ (readR l w).1 = val (l.take w.toNat) := by
  unfold readR at h ⊢
  by_cases h1 : w < 0 ∨ w > 40
  · simp [h1] at h
  · by_cases h2 : (l.length : Int) < w
    · simp [h1, h2] at h
    · simp only [h1, h2, if_false, and_true]
      omega
theorem readR_bad {l : List Bool} {w : Int} (h : ¬ (readR l w).2 = 0) : (readR l w).1 = 0 := by
  unfold readR at h ⊢
  by_cases h1 : w < 0 ∨ w > 40
  · simp [h1]
  · by_cases h2 : (l.length : Int) < w
    · simp [h1, h2]
    · simp [h1, h2] at h
theorem val_step {l : List Bool} {j : Nat} (h : j < l.length) : val (l.drop (l.length - 1 - j)) = (if l.getD (l.length - 1 - j) default then 1 else 0) * 2 ^ j + val (l.drop (l.length - j)) := by
  have e : l.drop (l.length - 1 - j) = l.getD (l.length - 1 - j) default :: l.drop (l.length - j) := by
    rw [List.drop_eq_getElem_cons (by omega), show l.length - 1 - j + 1 = l.length - j from by omega]
    congr 1
    simp [List.getD, List.getElem?_eq_getElem (show l.length - 1 - j < l.length by omega)]
  rw [e, val_cons, List.length_drop, show l.length - (l.length - j) = j from by omega]
/-- Places that are filled from behind. -/
def fillB (w : Nat) (n : Int) (j : Nat) : List Bool := List.replicate (w - j) false ++ (bitsN w n).drop (w - j)
theorem fillB_len (w : Nat) (n : Int) {j : Nat} (h : j ≤ w) : (fillB w n j).length = w := by
  simp [fillB, bitsN_len]
theorem fillB_zero (w : Nat) (n : Int) : fillB w n 0 = List.replicate w false := by simp [fillB, bitsN_len]
theorem fillB_all (w : Nat) (n : Int) : fillB w n w = bitsN w n := by simp [fillB]
theorem fillB_next {w : Nat} {n : Int} {j : Nat} (h : j < w) : (fillB w n j).take (w - 1 - j) ++ bitAt n j :: (fillB w n j).drop (w - 1 - j + 1) = fillB w n (j + 1) := by
  have e1 : (fillB w n j).take (w - 1 - j) = List.replicate (w - (j + 1)) false := by
    rw [fillB, List.take_append_of_le_length (by simp; omega), List.take_replicate]
    congr 1; omega
  have e2 : (fillB w n j).drop (w - 1 - j + 1) = (bitsN w n).drop (w - j) := by
    rw [fillB, List.drop_append_of_le_length (by simp; omega)]
    rw [show w - 1 - j + 1 = w - j from by omega]
    simp
  have e3 : (bitsN w n).drop (w - (j + 1)) = bitAt n j :: (bitsN w n).drop (w - j) := by
    rw [List.drop_eq_getElem_cons (by rw [bitsN_len]; omega), show w - (j + 1) + 1 = w - j from by omega]
    congr 1
    simp only [bitsN, List.getElem_map, List.getElem_range]
    congr 1; omega
  rw [e1, e2, fillB, e3]
theorem div_two (n : Int) (j : Nat) : n / 2 ^ j / 2 = n / 2 ^ (j + 1) := by
  rw [Int.ediv_ediv_of_nonneg (by have := pow_pos' j; omega), Int.pow_succ]
end Go.Rb
namespace Go.Rb
theorem putR_len {l : List Bool} {n w : Int} (h : l.length ≤ 140737488351232) : (putR l n w).1.length < 4611686018427387904 := by
  unfold putR
  split
  · rename_i hc
    unfold putOk at hc
    simp only [List.length_append, bitsN_len]
    omega
  · simp
theorem takeR_len {l : List Bool} {w : Int} (h : l.length ≤ 140737488351232) : (takeR l w).2.1.length < 4611686018427387904 := by
  unfold takeR
  split
  · simp
  · split
    · simp
    · simp only [List.length_drop]
      omega
theorem bitsN_succ (w : Nat) (n : Int) : bitsN (w + 1) n = bitsN w (n / 2) ++ [bitAt n 0] := by
  apply List.ext_getElem
  · simp [bitsN_len]
  · intro i h1 h2
    rw [List.getElem_append]
    rw [bitsN_len] at h1
    split
    · rename_i h3
      rw [bitsN_len] at h3
      simp only [bitsN, List.getElem_map, List.getElem_range, bitAt]
      rw [Int.ediv_ediv_of_nonneg (by omega), show w + 1 - 1 - i = (w - 1 - i) + 1 from by omega, Int.pow_succ, Int.mul_comm]
    · rename_i h3
      rw [bitsN_len] at h3
      have hi : i = w := by omega
      subst hi
      simp [bitsN, bitsN_len]
theorem val_bitsN : ∀ (w : Nat) (n : Int), 0 ≤ n → n < 2 ^ w → val (bitsN w n) = n
  | 0, n, h0, h1 => by
    have : n = 0 := by simp at h1; omega
    subst this; rfl
  | w + 1, n, h0, h1 => by
    rw [Int.pow_succ] at h1
    rw [bitsN_succ, val_snoc, val_bitsN w (n / 2) (by omega) (by omega)]
    simp only [bitAt, Int.pow_zero, Int.ediv_one]
    by_cases h : n % 2 = 1
    · simp [h]; omega
    · simp [h]; omega
theorem bitsN_val : ∀ l : List Bool, bitsN l.length (val l) = l := by
  intro l
  induction h : l.length generalizing l with
  | zero => rw [List.length_eq_zero_iff] at h; subst h; rfl
  | succ w ih =>
    have hl : l ≠ [] := by intro h0; subst h0; simp at h
    rw [bitsN_succ]
    obtain ⟨k, b, rfl⟩ : ∃ k b, l = k ++ [b] := ⟨l.dropLast, l.getLast hl, (List.dropLast_concat_getLast hl).symm⟩
    have hk : k.length = w := by simpa using h
    rw [val_snoc]
    have e1 : (2 * val k + (if b then 1 else 0)) / 2 = val k := by cases b <;> simp <;> omega
    have e2 : bitAt (2 * val k + (if b then 1 else 0)) 0 = b := by
      simp only [bitAt, Int.pow_zero, Int.ediv_one]
      cases b
      · simp
      · simp only [if_true, beq_iff_eq]; omega
    rw [e1, e2, ih k hk]

/-! ### Numbers one after the other -/
def wAt (ws : List Int) (k : Nat) : Int := ws.getD k default % 41
def vAt (ns ws : List Int) (k : Nat) : Int := ns.getD k default % (1 * 2 ^ (wAt ws k).toNat)
def encB (ns ws : List Int) (k : Nat) : List Bool := ((List.range k).map fun i => bitsN (wAt ws i).toNat (vAt ns ws i)).flatten
def vsB (ns ws : List Int) (k : Nat) : List Int := (List.range k).map (vAt ns ws)
def wsB (ws : List Int) (k : Nat) : List Int := (List.range k).map (wAt ws)
theorem wAt_in (ws : List Int) (k : Nat) : 0 ≤ wAt ws k ∧ wAt ws k ≤ 40 := by unfold wAt; omega
theorem vAt_in (ns ws : List Int) (k : Nat) : 0 ≤ vAt ns ws k ∧ vAt ns ws k < 2 ^ (wAt ws k).toNat := by
  have h := pow_pos' (wAt ws k).toNat
  unfold vAt
  rw [Int.one_mul]
  exact ⟨Int.emod_nonneg _ (by omega), Int.emod_lt_of_pos _ h⟩
theorem encB_next (ns ws : List Int) (k : Nat) : encB ns ws (k + 1) = encB ns ws k ++ bitsN (wAt ws k).toNat (vAt ns ws k) := by
  simp [encB, List.range_succ]
theorem vsB_next (ns ws : List Int) (k : Nat) : vsB ns ws (k + 1) = vsB ns ws k ++ [vAt ns ws k] := by simp [vsB, List.range_succ]
theorem wsB_next (ws : List Int) (k : Nat) : wsB ws (k + 1) = wsB ws k ++ [wAt ws k] := by simp [wsB, List.range_succ]
theorem vsB_len (ns ws : List Int) (k : Nat) : (vsB ns ws k).length = k := by simp [vsB]
theorem wsB_len (ws : List Int) (k : Nat) : (wsB ws k).length = k := by simp [wsB]
theorem vsB_get {ns ws : List Int} {i k : Nat} (h : i < k) : (vsB ns ws k).getD i default = vAt ns ws i := by simp [vsB, List.getD, h]
theorem wsB_get {ws : List Int} {i k : Nat} (h : i < k) : (wsB ws k).getD i default = wAt ws i := by simp [wsB, List.getD, h]
theorem encB_len (ns ws : List Int) (k : Nat) : (encB ns ws k).length ≤ 40 * k := by
  induction k with
  | zero => simp [encB]
  | succ k ih =>
    have := wAt_in ws k
    rw [encB_next, List.length_append, bitsN_len]; omega
theorem put_next (ns ws : List Int) (k : Nat) : putR (encB ns ws k) (vAt ns ws k) (wAt ws k) = (encB ns ws (k + 1), 0) := by
  have h1 := wAt_in ws k
  have h2 := vAt_in ns ws k
  unfold putR
  rw [if_pos ⟨h1.1, h1.2, h2.1, h2.2⟩, encB_next]
theorem encB_split {ns ws : List Int} {k n : Nat} (h : k < n) : (encB ns ws n).drop (encB ns ws k).length = bitsN (wAt ws k).toNat (vAt ns ws k) ++ (encB ns ws n).drop (encB ns ws (k + 1)).length := by
  have key : ∀ m, (encB ns ws (k + 1 + m)).drop (encB ns ws k).length = bitsN (wAt ws k).toNat (vAt ns ws k) ++ (encB ns ws (k + 1 + m)).drop (encB ns ws (k + 1)).length ∧ (encB ns ws (k + 1)).length ≤ (encB ns ws (k + 1 + m)).length := by
    intro m
    induction m with
    | zero =>
      refine ⟨?_, Nat.le_refl _⟩
      rw [Nat.add_zero, List.drop_of_length_le (Nat.le_refl _), List.append_nil, encB_next, List.drop_left]
    | succ m ih =>
      rw [show k + 1 + (m + 1) = (k + 1 + m) + 1 from rfl, encB_next ns ws (k + 1 + m)]
      have h1 : (encB ns ws k).length ≤ (encB ns ws (k + 1)).length := by rw [encB_next, List.length_append]; omega
      rw [List.drop_append_of_le_length (by omega), List.drop_append_of_le_length ih.2, ih.1, List.append_assoc, List.length_append]
      exact ⟨rfl, by omega⟩
  obtain ⟨m, rfl⟩ : ∃ m, n = k + 1 + m := ⟨n - (k + 1), by omega⟩
  exact (key m).1
/-- What is behind the first k. -/
def restB (ns ws : List Int) (n k : Nat) (more : List Bool) : List Bool := (encB ns ws n).drop (encB ns ws k).length ++ more
theorem take_rest {ns ws : List Int} {n k : Nat} {more : List Bool} (h : k < n) : takeR (restB ns ws n k more) (wAt ws k) = (vAt ns ws k, restB ns ws n (k + 1) more, 0) := by
  have h1 := wAt_in ws k
  have h2 := vAt_in ns ws k
  unfold restB
  rw [encB_split h, List.append_assoc]
  unfold takeR
  rw [if_neg (by omega), if_neg (by rw [List.length_append, bitsN_len]; omega)]
  rw [List.take_append_of_le_length (by rw [bitsN_len]; omega), List.take_of_length_le (by rw [bitsN_len]; omega), val_bitsN _ _ h2.1 h2.2]
  rw [List.drop_append_of_le_length (by rw [bitsN_len]; omega), List.drop_of_length_le (by rw [bitsN_len]; omega), List.nil_append]
theorem restB_zero (ns ws : List Int) (n : Nat) (more : List Bool) : restB ns ws n 0 more = encB ns ws n ++ more := by simp [restB, encB]
theorem restB_all (ns ws : List Int) (n : Nat) (more : List Bool) : restB ns ws n n more = more := by simp [restB]
theorem restB_len (ns ws : List Int) (n k : Nat) (more : List Bool) : (restB ns ws n k more).length ≤ 40 * n + more.length := by
  have := encB_len ns ws n
  simp only [restB, List.length_append, List.length_drop]; omega
end Go.Rb
namespace Go.Rb
def foldN (v : Int) : Int := if v < 0 then -2 * v - 1 else 2 * v
theorem foldN_or (v : Int) : (v < 0 ∧ foldN v = -2 * v - 1) ∨ (0 ≤ v ∧ foldN v = 2 * v) := by unfold foldN; split <;> omega
def unf (n : Int) : Int := if n % 2 = 1 then (-(n + 1)).tdiv 2 else n.tdiv 2
theorem unf_or {n : Int} (h : 0 ≤ n) : (n % 2 = 1 ∧ unf n = -(n / 2 + 1) ∧ (0 - (n + 1)).tdiv 2 = unf n) ∨ (n % 2 = 0 ∧ unf n = n / 2 ∧ n.tdiv 2 = unf n) := by
  unfold unf
  have h1 : n.tdiv 2 = n / 2 := Int.tdiv_eq_ediv_of_nonneg h
  have h2 : (-(n + 1)).tdiv 2 = -((n + 1) / 2) := by rw [Int.neg_tdiv, Int.tdiv_eq_ediv_of_nonneg (by omega)]
  split
  · left; refine ⟨by assumption, ?_, by rw [Int.zero_sub]⟩; rw [h2]; omega
  · right; refine ⟨by omega, h1, rfl⟩
theorem unf_fold (v : Int) : unf (foldN v) = v := by
  have h := foldN_or v
  have h1 := unf_or (n := foldN v) (by omega)
  omega
theorem fold_unf {n : Int} (h : 0 ≤ n) : foldN (unf n) = n := by
  have h1 := unf_or h
  have h2 := foldN_or (unf n)
  omega
theorem pow8 {k : Nat} (h : k ≤ 8) : 1 ≤ (8 : Int) ^ k ∧ (8 : Int) ^ k ≤ 16777216 := by
  have h1 : (8 : Int) ^ k ≤ 8 ^ 8 := by
    have := Nat.pow_le_pow_right (n := 8) (by omega) h
    exact_mod_cast this
  have h2 : (0 : Int) < 8 ^ k := Int.pow_pos (by omega)
  exact ⟨by omega, h1⟩
def zenc : Nat → Int → List Bool
  | 0, _ => []
  | f + 1, m => bitsN 4 ((if m ≥ 8 then 8 else 0) + m % 8) ++ (if m ≥ 8 then zenc f (m / 8) else [])
theorem zenc_last {f : Nat} {m : Int} (hf : 1 ≤ f) (h : m < 8) : zenc f m = bitsN 4 (0 + m % 8) := by
  obtain ⟨g, rfl⟩ : ∃ g, f = g + 1 := ⟨f - 1, by omega⟩
  rw [zenc, if_neg (by omega), if_neg (by omega), List.append_nil]
theorem zenc_more {f : Nat} {m : Int} (hf : 1 ≤ f) (h : 8 ≤ m) : zenc f m = bitsN 4 (8 + m % 8) ++ zenc (f - 1) (m / 8) := by
  obtain ⟨g, rfl⟩ : ∃ g, f = g + 1 := ⟨f - 1, by omega⟩
  rw [zenc, if_pos h, if_pos h]; rfl
theorem zenc_len : ∀ (f : Nat) (m : Int), (zenc f m).length ≤ 4 * f
  | 0, _ => by simp [zenc]
  | f + 1, m => by
    have := zenc_len f (m / 8)
    rw [zenc, List.length_append, bitsN_len]
    split
    · omega
    · simp; omega
theorem div8_lt {m : Int} {f : Nat} (h : m < 8 ^ f) (h8 : 8 ≤ m) : 2 ≤ f ∧ m / 8 < 8 ^ (f - 1) := by
  match f, h with
  | 0, h => simp at h; omega
  | 1, h => simp at h; omega
  | f + 2, h =>
    refine ⟨by omega, ?_⟩
    rw [Int.pow_succ] at h
    show m / 8 < 8 ^ (f + 1)
    omega
def zputR (l : List Bool) (v : Int) : List Bool × Int := if v < -4000000 ∨ v > 4000000 then ([], 3) else (l ++ zenc 8 (foldN v), 0)
theorem put4 (k : List Bool) {n : Int} (h0 : 0 ≤ n) (h1 : n < 16) : putR k n 4 = (k ++ bitsN 4 n, 0) := by
  unfold putR
  rw [if_pos ⟨by omega, by omega, h0, by simpa using h1⟩]; rfl
theorem putm {k : List Bool} {m : Int} (h : 0 ≤ m) : putR k (8 + m % 8) 4 = (k ++ bitsN 4 (8 + m % 8), 0) ∧ putR k (0 + m % 8) 4 = (k ++ bitsN 4 (0 + m % 8), 0) :=
  ⟨put4 k (by omega) (by omega), put4 k (by omega) (by omega)⟩

/-! ### Reading -/
def zread : Nat → Nat → Int → Int → List Bool → Int × Int × Int
  | 0, _, _, _, _ => (0, 0, 3)
  | f + 1, k, n, sc, l =>
    if l.length < 4 then (0, 0, 8) else
    if (readR l 4).1 = 0 ∧ k > 0 then (0, 0, 4) else
    if n + (readR l 4).1 % 8 * sc > 8000000 then (0, 0, 3) else
    if (readR l 4).1 < 8 then (unf (n + (readR l 4).1 % 8 * sc), 4 * (k : Int) + 4, 0) else zread f (k + 1) (n + (readR l 4).1 % 8 * sc) (sc * 8) (l.drop 4)
def zreadR (l : List Bool) : Int × Int × Int := zread 8 0 0 1 l
theorem rd4 (d : List Bool) : (d.length < 4 ∧ (readR d 4).1 = 0 ∧ (readR d 4).2 = 8) ∨ (4 ≤ d.length ∧ (readR d 4).1 = val (d.take 4) ∧ (readR d 4).2 = 0 ∧ 0 ≤ (readR d 4).1 ∧ (readR d 4).1 < 16) := by
  unfold readR
  rw [if_neg (by omega)]
  by_cases h : (d.length : Int) < 4
  · rw [if_pos h]; left; exact ⟨by omega, rfl, rfl⟩
  · rw [if_neg h]
    have h1 := val_bound (d.take 4)
    rw [List.length_take, Nat.min_eq_left (by omega)] at h1
    right; exact ⟨by omega, rfl, rfl, h1.1, by simpa using h1.2⟩
section
variable {f k : Nat} {n sc : Int} {l : List Bool}
theorem zr_torn (hf : 1 ≤ f) (h : l.length < 4) : zread f k n sc l = (0, 0, 8) := by
  obtain ⟨g, rfl⟩ : ∃ g, f = g + 1 := ⟨f - 1, by omega⟩
  rw [zread, if_pos h]
theorem zr_form (hf : 1 ≤ f) (h : 4 ≤ l.length) (h0 : (readR l 4).1 = 0) (hk : 0 < k) : zread f k n sc l = (0, 0, 4) := by
  obtain ⟨g, rfl⟩ : ∃ g, f = g + 1 := ⟨f - 1, by omega⟩
  rw [zread, if_neg (by omega), if_pos ⟨h0, hk⟩]
theorem zr_range (hf : 1 ≤ f) (h : 4 ≤ l.length) (h0 : ¬ ((readR l 4).1 = 0 ∧ 0 < k)) (h1 : n + (readR l 4).1 % 8 * sc > 8000000) : zread f k n sc l = (0, 0, 3) := by
  obtain ⟨g, rfl⟩ : ∃ g, f = g + 1 := ⟨f - 1, by omega⟩
  rw [zread, if_neg (by omega), if_neg h0, if_pos h1]
theorem zr_done (hf : 1 ≤ f) (h : 4 ≤ l.length) (h0 : ¬ ((readR l 4).1 = 0 ∧ 0 < k)) (h1 : ¬ n + (readR l 4).1 % 8 * sc > 8000000) (h2 : (readR l 4).1 < 8) : zread f k n sc l = (unf (n + (readR l 4).1 % 8 * sc), 4 * (k : Int) + 4, 0) := by
  obtain ⟨g, rfl⟩ : ∃ g, f = g + 1 := ⟨f - 1, by omega⟩
  rw [zread, if_neg (by omega), if_neg h0, if_neg h1, if_pos h2]
theorem zr_next (hf : 1 ≤ f) (h : 4 ≤ l.length) (h0 : ¬ ((readR l 4).1 = 0 ∧ 0 < k)) (h1 : ¬ n + (readR l 4).1 % 8 * sc > 8000000) (h2 : ¬ (readR l 4).1 < 8) : zread f k n sc l = zread (f - 1) (k + 1) (n + (readR l 4).1 % 8 * sc) (sc * 8) (l.drop 4) := by
  obtain ⟨g, rfl⟩ : ∃ g, f = g + 1 := ⟨f - 1, by omega⟩
  rw [zread, if_neg (by omega), if_neg h0, if_neg h1, if_neg h2]; rfl
theorem zr_zero : zread 0 k n sc l = (0, 0, 3) := rfl
end
theorem mul_bd {a b c : Int} (h0 : 0 ≤ a) (h1 : a ≤ 7) (h2 : 0 ≤ b) (h3 : b ≤ c) : 0 ≤ a * b ∧ a * b ≤ 7 * c := by
  refine ⟨Int.mul_nonneg h0 h2, ?_⟩
  have h4 : a * b ≤ 7 * b := Int.mul_le_mul_of_nonneg_right h1 h2
  omega
theorem zread_ok : ∀ (f k : Nat) (n sc : Int) (l : List Bool), (zread f k n sc l).2.2 = 0 → 4 * (k : Int) ≤ (zread f k n sc l).2.1 ∧ (zread f k n sc l).2.1 ≤ 4 * (k : Int) + l.length
  | 0, k, n, sc, l, h => by simp [zread] at h
  | f + 1, k, n, sc, l, h => by
    by_cases h1 : l.length < 4
    · rw [zr_torn (by omega) h1] at h; simp at h
    · by_cases h2 : (readR l 4).1 = 0 ∧ 0 < k
      · rw [zr_form (by omega) (by omega) h2.1 h2.2] at h; simp at h
      · by_cases h3 : n + (readR l 4).1 % 8 * sc > 8000000
        · rw [zr_range (by omega) (by omega) h2 h3] at h; simp at h
        · by_cases h4 : (readR l 4).1 < 8
          · rw [zr_done (by omega) (by omega) h2 h3 h4]; simp only; omega
          · rw [zr_next (by omega) (by omega) h2 h3 h4] at h ⊢
            have := zread_ok _ _ _ _ _ h
            rw [List.length_drop] at this
            simp only [Nat.add_sub_cancel] at this ⊢
            push_cast at this
            omega
theorem zread_bad : ∀ (f k : Nat) (n sc : Int) (l : List Bool), ¬ (zread f k n sc l).2.2 = 0 → (zread f k n sc l).1 = 0 ∧ (zread f k n sc l).2.1 = 0
  | 0, k, n, sc, l, h => ⟨rfl, rfl⟩
  | f + 1, k, n, sc, l, h => by
    by_cases h1 : l.length < 4
    · rw [zr_torn (by omega) h1]; exact ⟨rfl, rfl⟩
    · by_cases h2 : (readR l 4).1 = 0 ∧ 0 < k
      · rw [zr_form (by omega) (by omega) h2.1 h2.2]; exact ⟨rfl, rfl⟩
      · by_cases h3 : n + (readR l 4).1 % 8 * sc > 8000000
        · rw [zr_range (by omega) (by omega) h2 h3]; exact ⟨rfl, rfl⟩
        · by_cases h4 : (readR l 4).1 < 8
          · rw [zr_done (by omega) (by omega) h2 h3 h4] at h; simp at h
          · rw [zr_next (by omega) (by omega) h2 h3 h4] at h ⊢
            exact zread_bad _ _ _ _ _ h
theorem zreadR_ok {l : List Bool} (h : (zreadR l).2.2 = 0) : 0 ≤ (zreadR l).2.1 ∧ (zreadR l).2.1 ≤ l.length := by
  have := zread_ok 8 0 0 1 l h
  unfold zreadR
  omega
theorem zreadR_bad {l : List Bool} (h : ¬ (zreadR l).2.2 = 0) : (zreadR l).1 = 0 ∧ (zreadR l).2.1 = 0 := zread_bad 8 0 0 1 l h
def ztakeR (l : List Bool) : Int × List Bool × Int := ((zreadR l).1, (if (zreadR l).2.2 = 0 then l.drop (zreadR l).2.1.toNat else []), (zreadR l).2.2)

theorem zputR_len (l : List Bool) (v : Int) : (zputR l v).1.length ≤ l.length + 32 := by
  unfold zputR
  have := zenc_len 8 (foldN v)
  split
  · simp
  · rw [List.length_append]; omega
theorem ztakeR_len (l : List Bool) : (ztakeR l).2.1.length ≤ l.length := by
  unfold ztakeR
  dsimp only
  split
  · rw [List.length_drop]; omega
  · simp
/-! ### The document's way -/
def dig : Nat → Int → List Int
  | 0, _ => []
  | f + 1, m => m % 8 :: (if m ≥ 8 then dig f (m / 8) else [])
def grp (more : Bool) (d : Int) : List Bool := [more, decide (d ≥ 4), decide (d.tmod 4 ≥ 2), d.tmod 2 == 1]
def codeAt (D : List Int) (i : Nat) : List Bool := ((List.range i).map fun (j : Nat) => grp (decide ((j : Int) < D.length - 1)) (D.getD j default)).flatten
theorem codeAt_next (D : List Int) (i : Nat) : codeAt D (i + 1) = codeAt D i ++ grp (decide ((i : Int) < D.length - 1)) (D.getD i default) := by simp [codeAt, List.range_succ]
theorem codeAt_len (D : List Int) (i : Nat) : (codeAt D i).length = 4 * i := by
  induction i with
  | zero => simp [codeAt]
  | succ i ih => rw [codeAt_next, List.length_append, ih]; simp [grp]; omega
theorem grp_bits {d : Int} (b : Bool) (h0 : 0 ≤ d) (h1 : d < 8) : grp b d = bitsN 4 ((if b then 8 else 0) + d) := by
  have h : d = 0 ∨ d = 1 ∨ d = 2 ∨ d = 3 ∨ d = 4 ∨ d = 5 ∨ d = 6 ∨ d = 7 := by omega
  cases b <;> rcases h with rfl | rfl | rfl | rfl | rfl | rfl | rfl | rfl <;> decide
theorem codeAt_cons (d : Int) (D : List Int) : codeAt (d :: D) (D.length + 1) = grp (decide (0 < D.length)) d ++ codeAt D D.length := by
  unfold codeAt
  rw [List.range_succ_eq_map, List.map_cons, List.flatten_cons, List.map_map]
  congr 1
  · congr 1
    simp only [List.length_cons]
    apply decide_eq_decide.2
    omega
  · congr 1
    apply List.map_congr_left
    intro j _
    simp only [Function.comp, List.getD_cons_succ, List.length_cons]
    congr 1
    apply decide_eq_decide.2
    omega
theorem dig_pos {f : Nat} {m : Int} (h : 1 ≤ f) : 0 < (dig f m).length := by
  obtain ⟨g, rfl⟩ : ∃ g, f = g + 1 := ⟨f - 1, by omega⟩
  simp [dig]
theorem code_dig : ∀ (f : Nat) (m : Int), 0 ≤ m → m < 8 ^ f → 1 ≤ f → codeAt (dig f m) (dig f m).length = zenc f m
  | 0, m, _, _, h => by omega
  | f + 1, m, h0, h1, _ => by
    rw [dig, List.length_cons, codeAt_cons]
    by_cases h8 : m ≥ 8
    · have h2 := div8_lt h1 h8
      rw [if_pos h8, zenc_more (by omega) h8]
      have hp := dig_pos (f := f) (m := m / 8) (by omega)
      rw [code_dig f (m / 8) (by omega) h2.2 (by omega), grp_bits _ (by omega) (by omega)]
      simp [hp]
    · rw [if_neg h8, zenc_last (by omega) (by omega), grp_bits _ (by omega) (by omega)]
      simp [codeAt]
theorem dig_step {f : Nat} {m : Int} (hf : 1 ≤ f) (h0 : 0 ≤ m) : dig f m = (m % 8) :: (if m / 8 > 0 then dig (f - 1) (m / 8) else []) := by
  obtain ⟨g, rfl⟩ : ∃ g, f = g + 1 := ⟨f - 1, by omega⟩
  rw [dig]
  by_cases h8 : m ≥ 8
  · rw [if_pos h8, if_pos (by omega)]; rfl
  · rw [if_neg h8, if_neg (by omega)]
theorem code_fold {v : Int} (h : -4000000 ≤ v ∧ v ≤ 4000000) : codeAt (dig 8 (foldN v)) (dig 8 (foldN v)).length = zenc 8 (foldN v) := by
  have h1 := foldN_or v
  exact code_dig 8 _ (by omega) (by show _ < (16777216 : Int); omega) (by omega)
/-! A group as the document takes it apart. -/
def dAt (b : List Bool) (i : Nat) : Int := (if 0 < i ∧ b.getD 0 default then 4 else 0) + (if 1 < i ∧ b.getD 1 default then 2 else 0) + (if 2 < i ∧ b.getD 2 default then 1 else 0)
theorem dAt_next {b : List Bool} {i : Nat} (h : i < 3) : dAt b (i + 1) = dAt b i + (if b.getD i default then (4 : Int) / 2 ^ i else 0) := by
  have h3 : i = 0 ∨ i = 1 ∨ i = 2 := by omega
  rcases h3 with rfl | rfl | rfl <;> simp [dAt]
theorem dAt_in (b : List Bool) (i : Nat) : 0 ≤ dAt b i ∧ dAt b i ≤ 7 := by
  unfold dAt
  split <;> split <;> split <;> omega
theorem group {l : List Bool} (h : 4 ≤ l.length) : (readR l 4).1 = (if l.getD 0 default then 8 else 0) + dAt ((l.take 4).drop 1) 3 := by
  match l, h with
  | a :: b :: c :: d :: r, _ =>
    have h1 := rd4 (a :: b :: c :: d :: r)
    simp only [List.length_cons] at h1
    have h2 : (readR (a :: b :: c :: d :: r) 4).1 = val [a, b, c, d] := by
      rcases h1 with h1 | h1
      · omega
      · exact h1.2.1
    rw [h2]
    show val [a, b, c, d] = (if a = true then 8 else 0) + dAt [b, c, d] 3
    cases a <;> cases b <;> cases c <;> cases d <;> decide
theorem group_f {l : List Bool} (h : 4 ≤ l.length) (hb : l.getD 0 default = false) : (readR l 4).1 = dAt ((l.take 4).drop 1) 3 := by rw [group h, hb]; simp
theorem group_t {l : List Bool} (h : 4 ≤ l.length) (hb : l.getD 0 default = true) : (readR l 4).1 = 8 + dAt ((l.take 4).drop 1) 3 := by rw [group h, hb]; simp
theorem group_mod {l : List Bool} (h : 4 ≤ l.length) : (readR l 4).1 % 8 = dAt ((l.take 4).drop 1) 3 := by
  have h1 := group h
  have h2 := dAt_in ((l.take 4).drop 1) 3
  split at h1 <;> omega
end Go.Rb
namespace Go.Rb
theorem read4 {x : Int} (h0 : 0 ≤ x) (h1 : x < 16) (r : List Bool) : (readR (bitsN 4 x ++ r) 4).1 = x ∧ 4 ≤ (bitsN 4 x ++ r).length ∧ (bitsN 4 x ++ r).drop 4 = r := by
  have hl : (bitsN 4 x).length = 4 := bitsN_len 4 x
  have h2 : 4 ≤ (bitsN 4 x ++ r).length := by rw [List.length_append, hl]; omega
  refine ⟨?_, h2, ?_⟩
  · have h3 := rd4 (bitsN 4 x ++ r)
    have h4 : (bitsN 4 x ++ r).take 4 = bitsN 4 x := by rw [List.take_append_of_le_length (by omega), List.take_of_length_le (by omega)]
    rw [h4, val_bitsN 4 x h0 (by simpa using h1)] at h3
    omega
  · rw [List.drop_append_of_le_length (by omega), List.drop_of_length_le (by omega), List.nil_append]
theorem split8 (m sc : Int) : m % 8 * sc + m / 8 * (sc * 8) = m * sc := by
  have h1 : m / 8 * (sc * 8) = 8 * (m / 8) * sc := by rw [Int.mul_comm sc 8, ← Int.mul_assoc, Int.mul_comm (m / 8) 8]
  rw [h1, ← Int.add_mul]
  congr 1
  omega
theorem zread_enc : ∀ (f k : Nat) (n sc m : Int) (r : List Bool), 1 ≤ f → 0 ≤ m → m < 8 ^ f → 0 ≤ n → 1 ≤ sc → n + m * sc ≤ 8000000 → (0 < k → 1 ≤ m) →
    zread f k n sc (zenc f m ++ r) = (unf (n + m * sc), 4 * (k : Int) + (zenc f m).length, 0)
  | 0, k, n, sc, m, r, hf, _, _, _, _, _, _ => by omega
  | f + 1, k, n, sc, m, r, hf, h0, h1, hn, hsc, hb, hk => by
    by_cases h8 : m < 8
    · rw [zenc_last hf h8]
      have hr := read4 (x := 0 + m % 8) (by omega) (by omega) r
      have hx : (readR (bitsN 4 (0 + m % 8) ++ r) 4).1 % 8 = m := by rw [hr.1]; omega
      rw [zr_done hf hr.2.1 (by rw [hr.1]; omega) (by rw [hx]; omega) (by rw [hr.1]; omega), hx, bitsN_len]
      rfl
    · have h2 := div8_lt h1 (by omega)
      rw [zenc_more hf (by omega), List.append_assoc]
      have hr := read4 (x := 8 + m % 8) (by omega) (by omega) (zenc (f + 1 - 1) (m / 8) ++ r)
      have hx : (readR (bitsN 4 (8 + m % 8) ++ (zenc (f + 1 - 1) (m / 8) ++ r)) 4).1 % 8 = m % 8 := by rw [hr.1]; omega
      have hs := split8 m sc
      have hp1 : 0 ≤ m % 8 * sc := Int.mul_nonneg (by omega) (by omega)
      have hp2 : 0 ≤ m / 8 * (sc * 8) := Int.mul_nonneg (by omega) (by omega)
      rw [zr_next hf hr.2.1 (by rw [hr.1]; omega) (by rw [hx]; omega) (by rw [hr.1]; omega), hx, hr.2.2]
      simp only [Nat.add_sub_cancel] at h2 ⊢
      rw [zread_enc f (k + 1) _ _ (m / 8) r (by omega) (by omega) h2.2 (by omega) (by omega) (by omega) (by omega), List.length_append, bitsN_len]
      rw [show n + m % 8 * sc + m / 8 * (sc * 8) = n + m * sc from by omega]
      refine Prod.ext rfl (Prod.ext ?_ rfl)
      push_cast
      omega
theorem zread_inv : ∀ (f k : Nat) (n sc : Int) (l : List Bool), 0 ≤ n → 1 ≤ sc → (zread f k n sc l).2.2 = 0 →
    ∃ m, 0 ≤ m ∧ m < 8 ^ f ∧ (0 < k → 1 ≤ m) ∧ n + m * sc ≤ 8000000 ∧ (zread f k n sc l).1 = unf (n + m * sc) ∧ (zread f k n sc l).2.1 = 4 * (k : Int) + (zenc f m).length ∧ l = zenc f m ++ l.drop (zenc f m).length
  | 0, k, n, sc, l, _, _, h => by simp [zread] at h
  | f + 1, k, n, sc, l, hn, hsc, h => by
    by_cases h1 : l.length < 4
    · rw [zr_torn (by omega) h1] at h; simp at h
    have hrd := rd4 l
    have hlt : (l.take 4).length = 4 := by rw [List.length_take]; omega
    have htk : bitsN 4 (readR l 4).1 = l.take 4 := by
      have h9 := bitsN_val (l.take 4)
      rw [hlt] at h9
      rw [show (readR l 4).1 = val (l.take 4) from by omega]
      exact h9
    by_cases h2 : (readR l 4).1 = 0 ∧ 0 < k
    · rw [zr_form (by omega) (by omega) h2.1 h2.2] at h; simp at h
    by_cases h3 : n + (readR l 4).1 % 8 * sc > 8000000
    · rw [zr_range (by omega) (by omega) h2 h3] at h; simp at h
    by_cases h4 : (readR l 4).1 < 8
    · have hx : (readR l 4).1 % 8 = (readR l 4).1 := by omega
      have hp : (1 : Int) ≤ 8 ^ f := by have : (0 : Int) < 8 ^ f := Int.pow_pos (by omega); omega
      refine ⟨(readR l 4).1, by omega, by rw [Int.pow_succ]; omega, by omega, by rw [← hx]; omega, ?_, ?_, ?_⟩
      · rw [zr_done (by omega) (by omega) h2 h3 h4, hx]
      · rw [zr_done (by omega) (by omega) h2 h3 h4, zenc_last (by omega) h4, bitsN_len]; rfl
      · rw [zenc_last (by omega) h4, Int.zero_add, hx, htk, hlt, List.take_append_drop]
    · rw [zr_next (by omega) (by omega) h2 h3 h4] at h ⊢
      have hp1 : 0 ≤ (readR l 4).1 % 8 * sc := Int.mul_nonneg (by omega) (by omega)
      simp only [Nat.add_sub_cancel] at h ⊢
      obtain ⟨m, g1, g2, g3, g4, g5, g6, g7⟩ := zread_inv f (k + 1) _ _ _ (by omega) (by omega) h
      have g3' := g3 (by omega)
      have hs := split8 ((readR l 4).1 % 8 + 8 * m) sc
      rw [show ((readR l 4).1 % 8 + 8 * m) % 8 = (readR l 4).1 % 8 from by omega, show ((readR l 4).1 % 8 + 8 * m) / 8 = m from by omega] at hs
      have hz : zenc (f + 1) ((readR l 4).1 % 8 + 8 * m) = l.take 4 ++ zenc f m := by
        rw [zenc_more (by omega) (by omega), ← htk]
        rw [show 8 + ((readR l 4).1 % 8 + 8 * m) % 8 = (readR l 4).1 from by omega, show ((readR l 4).1 % 8 + 8 * m) / 8 = m from by omega]
        rfl
      refine ⟨(readR l 4).1 % 8 + 8 * m, by omega, by rw [Int.pow_succ]; omega, by omega, by omega, ?_, ?_, ?_⟩
      · rw [g5]; congr 1; omega
      · rw [g6, hz, List.length_append, hlt]; push_cast; omega
      · rw [hz, List.length_append, hlt, List.append_assoc, ← List.drop_drop, ← g7, List.take_append_drop]
theorem zenc_mono : ∀ (f : Nat) (m m' : Int), m ≤ m' → (zenc f m).length ≤ (zenc f m').length
  | 0, _, _, _ => by simp [zenc]
  | f + 1, m, m', h => by
    have ih := zenc_mono f (m / 8) (m' / 8) (by omega)
    rw [zenc, zenc, List.length_append, List.length_append, bitsN_len, bitsN_len]
    by_cases h8 : m ≥ 8
    · rw [if_pos h8, if_pos (show m' ≥ 8 by omega)]; omega
    · rw [if_neg h8]; simp
theorem zput_nil {v : Int} (h : -4000000 ≤ v ∧ v ≤ 4000000) (l : List Bool) : zputR l v = (l ++ zenc 8 (foldN v), 0) := by
  unfold zputR
  rw [if_neg (by omega)]
theorem zig_take {v : Int} (h : -4000000 ≤ v ∧ v ≤ 4000000) (r : List Bool) : ztakeR (zenc 8 (foldN v) ++ r) = (v, r, 0) := by
  have h1 := foldN_or v
  have h2 := zread_enc 8 0 0 1 (foldN v) r (by omega) (by omega) (by show _ < (16777216 : Int); omega) (by omega) (by omega) (by omega) (by omega)
  unfold ztakeR zreadR
  rw [h2]
  simp only [Int.zero_add, Int.mul_one, unf_fold, if_true]
  refine Prod.ext rfl (Prod.ext ?_ rfl)
  simp
theorem zig_again {l : List Bool} (h : (ztakeR l).2.2 = 0) : zputR [] (ztakeR l).1 = ((zputR [] (ztakeR l).1).1, 0) ∧ (zputR [] (ztakeR l).1).1 ++ (ztakeR l).2.1 = l := by
  have h' : (zread 8 0 0 1 l).2.2 = 0 := h
  obtain ⟨m, g1, g2, g3, g4, g5, g6, g7⟩ := zread_inv 8 0 0 1 l (by omega) (by omega) h'
  rw [Int.zero_add, Int.mul_one] at g4 g5
  have hu := unf_or g1
  have hv : (ztakeR l).1 = unf m := g5
  have hr : (ztakeR l).2.1 = l.drop (zenc 8 m).length := by
    show (if (zread 8 0 0 1 l).2.2 = 0 then l.drop (zread 8 0 0 1 l).2.1.toNat else []) = _
    rw [if_pos h', g6]
    congr 1
    omega
  rw [hv, hr, zput_nil (by omega), fold_unf g1]
  exact ⟨rfl, by rw [List.nil_append]; exact g7.symm⟩
theorem zig_again' {l : List Bool} (h : (ztakeR l).2.2 = 0) : ∃ Z, zputR [] (ztakeR l).1 = (Z, 0) ∧ Z ++ (ztakeR l).2.1 = l ∧ Z.length + (ztakeR l).2.1.length = l.length := by
  have h1 := zig_again h
  exact ⟨_, h1.1, h1.2, by have := congrArg List.length h1.2; rwa [List.length_append] at this⟩
theorem fold_near {v w : Int} (h : max v (0 - v) < max w (0 - w)) : (zenc 8 (foldN v)).length ≤ (zenc 8 (foldN w)).length := by
  have h1 := foldN_or v
  have h2 := foldN_or w
  exact zenc_mono _ _ _ (by omega)
end Go.Rb
namespace Go.Rb
def PtIn (p : Pt) : Prop := 0 ≤ p.1 ∧ p.1 ≤ 100000 ∧ -1000000 ≤ p.2 ∧ p.2 ≤ 1000000
def chk : Int → List Pt → Int
  | _, [] => 0
  | last, p :: r => if p.1 < 0 ∨ p.1 > 100000 ∨ p.2 < -1000000 ∨ p.2 > 1000000 then 3 else if last ≥ p.1 then 7 else chk p.1 r
def checkL (l : List Pt) : Int := if l.length > 40 then 2 else chk (-1) l
def lastT (l : List Pt) (i : Nat) : Int := if i = 0 then -1 else (l.getD (i - 1) default).1
theorem drop_cons {α : Type} [Inhabited α] {l : List α} {i : Nat} (h : i < l.length) : l.drop i = l.getD i default :: l.drop (i + 1) := by
  rw [List.drop_eq_getElem_cons h]; simp [List.getD, List.getElem?_eq_getElem h]
theorem chk_step {l : List Pt} {i : Nat} (h : i < l.length) : chk (lastT l i) (l.drop i) =
    if (l.getD i default).1 < 0 ∨ (l.getD i default).1 > 100000 ∨ (l.getD i default).2 < -1000000 ∨ (l.getD i default).2 > 1000000 then 3 else if lastT l i ≥ (l.getD i default).1 then 7 else chk (lastT l (i + 1)) (l.drop (i + 1)) := by
  rw [drop_cons h, chk]
  simp [lastT]
theorem chk_all : ∀ {l : List Pt} {last : Int}, chk last l = 0 → ∀ p ∈ l, PtIn p
  | [], _, _, p, hp => by cases hp
  | q :: l, last, h, p, hp => by
    rw [chk] at h
    split at h
    · cases h
    · split at h
      · cases h
      · rcases List.mem_cons.1 hp with rfl | hp
        · unfold PtIn; omega
        · exact chk_all h p hp
theorem checkL_len {l : List Pt} (h : checkL l = 0) : l.length ≤ 40 := by
  unfold checkL at h
  split at h
  · cases h
  · omega
theorem checkL_chk {l : List Pt} (h : checkL l = 0) : chk (-1) l = 0 := by
  unfold checkL at h
  split at h
  · cases h
  · exact h
theorem checkL_all {l : List Pt} (h : checkL l = 0) : ∀ p ∈ l, PtIn p := chk_all (checkL_chk h)
theorem getD_mem {α : Type} [Inhabited α] {l : List α} {i : Nat} (h : i < l.length) : l.getD i default ∈ l := by
  have : l.getD i default = l[i] := by simp [List.getD, List.getElem?_eq_getElem h]
  rw [this]; exact List.getElem_mem h
end Go.Rb
namespace Go.Rb
abbrev badP (p : Pt) : Prop := p.1 < 0 ∨ p.1 > 100000 ∨ p.2 < -1000000 ∨ p.2 > 1000000
def chkP (p : Pt) : Int := if badP p then 3 else 0
theorem chkP_or (p : Pt) : (badP p ∧ chkP p = 3) ∨ (PtIn p ∧ chkP p = 0) := by
  unfold chkP
  by_cases h : badP p
  · left; exact ⟨h, if_pos h⟩
  · right; exact ⟨by unfold badP at h; unfold PtIn; omega, if_neg h⟩
def lastP (l : List Pt) (i : Nat) : Pt := if i = 0 then ⟨0, 0⟩ else l.getD (i - 1) default
def stepP (l : List Pt) (i : Nat) : Int := if i = 0 then 0 else (l.getD (i - 1) default).1 - (lastP l (i - 1)).1
theorem lastP_next (l : List Pt) (i : Nat) : lastP l (i + 1) = l.getD i default := by simp [lastP]
theorem stepP_next (l : List Pt) (i : Nat) : stepP l (i + 1) = (l.getD i default).1 - (lastP l i).1 := by simp [stepP]
def itemB (last : Pt) (step : Int) (p : Pt) : List Bool := zenc 8 (foldN (p.1 - last.1 - step)) ++ zenc 8 (foldN (p.2 - last.2))
def packAt (l : List Pt) (i : Nat) : List Bool := ((List.range i).map fun j => itemB (lastP l j) (stepP l j) (l.getD j default)).flatten
theorem packAt_next (l : List Pt) (i : Nat) : packAt l (i + 1) = packAt l i ++ itemB (lastP l i) (stepP l i) (l.getD i default) := by simp [packAt, List.range_succ]
theorem itemB_len (a : Pt) (s : Int) (p : Pt) : (itemB a s p).length ≤ 64 := by
  have h1 := zenc_len 8 (foldN (p.1 - a.1 - s))
  have h2 := zenc_len 8 (foldN (p.2 - a.2))
  unfold itemB; rw [List.length_append]; omega
theorem packAt_len (l : List Pt) (i : Nat) : (packAt l i).length ≤ 64 * i := by
  induction i with
  | zero => simp [packAt]
  | succ i ih =>
    have := itemB_len (lastP l i) (stepP l i) (l.getD i default)
    rw [packAt_next, List.length_append]; omega
def packP (l : List Pt) : List Bool × Int := if checkL l = 0 then (packAt l l.length, 0) else ([], checkL l)
theorem packP_len (l : List Pt) : (packP l).1.length ≤ 2560 := by
  unfold packP
  split
  · rename_i h
    have h1 := packAt_len l l.length
    have h2 := checkL_len h
    show (packAt l l.length).length ≤ 2560
    omega
  · simp
/-- What is packed is in range. -/
theorem pk_in {l : List Pt} (h : checkL l = 0) {i : Nat} (hi : i < l.length) : PtIn (l.getD i default) ∧ PtIn (lastP l i) ∧ -100000 ≤ stepP l i ∧ stepP l i ≤ 100000 := by
  have hall := checkL_all h
  have hp : ∀ j, j < l.length → PtIn (l.getD j default) := fun j hj => hall _ (getD_mem hj)
  have hl : ∀ j, j ≤ l.length → PtIn (lastP l j) := by
    intro j hj
    unfold lastP
    split
    · unfold PtIn; decide
    · exact hp _ (by omega)
  refine ⟨hp i hi, hl i (by omega), ?_⟩
  unfold stepP
  split
  · omega
  · have h1 := hp (i - 1) (by omega)
    have h2 := hl (i - 1) (by omega)
    unfold PtIn at h1 h2
    omega
/-- The document's differences. -/
theorem second {l : List Pt} {i : Nat} : (i = 0 → (lastP l i).1 = 0 ∧ (lastP l i).2 = 0 ∧ stepP l i = 0) ∧ (0 < i → (lastP l i) = l.getD (i - 1) default) ∧ (i = 1 → stepP l i = (l.getD (i - 1) default).1) ∧
    (1 < i → stepP l i = (l.getD (i - 1) default).1 - (l.getD (i - 2) default).1) := by
  refine ⟨?_, ?_, ?_, ?_⟩
  · rintro rfl; simp [lastP, stepP, ]
  · intro h; unfold lastP; rw [if_neg (by omega)]
  · rintro rfl; simp [lastP, stepP, ]
  · intro h
    unfold stepP lastP
    rw [if_neg (by omega), if_neg (by omega), show i - 1 - 1 = i - 2 from by omega]

/-! ### Unpacking -/
def stepE (k : Nat) (last p : Pt) : Int := if badP p then 3 else if 0 < k ∧ last.1 ≥ p.1 then 7 else 0
def nxt (last : Pt) (step : Int) (b : List Bool) : Pt := ⟨last.1 + step + (zreadR b).1, last.2 + (zreadR (b.drop (zreadR b).2.1.toNat)).1⟩
def bits1 (b : List Bool) : List Bool := b.drop (zreadR b).2.1.toNat
def bits2 (b : List Bool) : List Bool := (bits1 b).drop (zreadR (bits1 b)).2.1.toNat
def unpk : Nat → Nat → Pt → Int → List Pt → List Bool → List Pt × Int
  | 0, _, _, _, acc, b => if b.length > 0 then ([], 8) else (acc, 0)
  | f + 1, k, last, step, acc, b =>
    if ¬ (zreadR b).2.2 = 0 then ([], (zreadR b).2.2) else
    if ¬ (zreadR (bits1 b)).2.2 = 0 then ([], (zreadR (bits1 b)).2.2) else
    if ¬ stepE k last (nxt last step b) = 0 then ([], stepE k last (nxt last step b)) else
    unpk f (k + 1) (nxt last step b) ((nxt last step b).1 - last.1) (acc ++ [nxt last step b]) (bits2 b)
def unpackR (b : List Bool) (n : Int) : List Pt × Int := if n < 0 ∨ n > 40 then ([], 2) else unpk n.toNat 0 ⟨0, 0⟩ 0 [] b
section
variable {f k : Nat} {last : Pt} {step : Int} {acc : List Pt} {b : List Bool}
theorem un_a (hf : 1 ≤ f) (h : ¬ (zreadR b).2.2 = 0) : unpk f k last step acc b = ([], (zreadR b).2.2) := by
  obtain ⟨g, rfl⟩ : ∃ g, f = g + 1 := ⟨f - 1, by omega⟩
  rw [unpk, if_pos h]
theorem un_b (hf : 1 ≤ f) (h : (zreadR b).2.2 = 0) (h1 : ¬ (zreadR (bits1 b)).2.2 = 0) : unpk f k last step acc b = ([], (zreadR (bits1 b)).2.2) := by
  obtain ⟨g, rfl⟩ : ∃ g, f = g + 1 := ⟨f - 1, by omega⟩
  rw [unpk, if_neg (by omega), if_pos h1]
theorem un_c (hf : 1 ≤ f) (h : (zreadR b).2.2 = 0) (h1 : (zreadR (bits1 b)).2.2 = 0) (h2 : ¬ stepE k last (nxt last step b) = 0) : unpk f k last step acc b = ([], stepE k last (nxt last step b)) := by
  obtain ⟨g, rfl⟩ : ∃ g, f = g + 1 := ⟨f - 1, by omega⟩
  rw [unpk, if_neg (by omega), if_neg (by omega), if_pos h2]
theorem un_d (hf : 1 ≤ f) (h : (zreadR b).2.2 = 0) (h1 : (zreadR (bits1 b)).2.2 = 0) (h2 : stepE k last (nxt last step b) = 0) :
    unpk f k last step acc b = unpk (f - 1) (k + 1) (nxt last step b) ((nxt last step b).1 - last.1) (acc ++ [nxt last step b]) (bits2 b) := by
  obtain ⟨g, rfl⟩ : ∃ g, f = g + 1 := ⟨f - 1, by omega⟩
  rw [unpk, if_neg (by omega), if_neg (by omega), if_neg (by omega)]; rfl
theorem un_e (h : b.length > 0) : unpk 0 k last step acc b = ([], 8) := by rw [unpk, if_pos h]
theorem un_f (h : ¬ b.length > 0) : unpk 0 k last step acc b = (acc, 0) := by rw [unpk, if_neg h]
end
theorem stepE_or (k : Nat) (last p : Pt) : (badP p ∧ stepE k last p = 3) ∨ (PtIn p ∧ 0 < k ∧ p.1 ≤ last.1 ∧ stepE k last p = 7) ∨ (PtIn p ∧ (k = 0 ∨ last.1 < p.1) ∧ stepE k last p = 0) := by
  unfold stepE
  by_cases h : badP p
  · left; exact ⟨h, if_pos h⟩
  · have hp : PtIn p := by unfold badP at h; unfold PtIn; omega
    right
    rw [if_neg h]
    by_cases h2 : 0 < k ∧ last.1 ≥ p.1
    · left; rw [if_pos h2]; exact ⟨hp, h2.1, h2.2, rfl⟩
    · right; rw [if_neg h2]; exact ⟨hp, by omega, rfl⟩
/-- The last point, held against a new one. -/
theorem check_two {acc : List Pt} {last p : Pt} {k : Nat} (hk : acc.length = k) (hl : PtIn last) (hlast : 0 < k → acc.getD (k - 1) default = last) : checkL (acc.drop (acc.length - 1) ++ [p]) = stepE k last p := by
  by_cases h0 : k = 0
  · have : acc = [] := List.eq_nil_of_length_eq_zero (by omega)
    subst this
    subst h0
    simp only [List.drop_nil, List.nil_append, checkL, List.length_cons, List.length_nil, chk, stepE, badP]
    unfold PtIn at hl
    rw [if_neg (by omega)]
    by_cases hb : p.1 < 0 ∨ p.1 > 100000 ∨ p.2 < -1000000 ∨ p.2 > 1000000
    · rw [if_pos hb, if_pos hb]
    · rw [if_neg hb, if_neg hb, if_neg (by omega), if_neg (by omega)]
  · have hd : acc.drop (acc.length - 1) = [last] := by
      rw [drop_cons (by omega), List.drop_of_length_le (by omega), hk, hlast (by omega)]
    rw [hd]
    simp only [List.cons_append, List.nil_append, checkL, List.length_cons, List.length_nil, chk, stepE, badP]
    unfold PtIn at hl
    rw [if_neg (by omega), if_neg (by omega), if_neg (by omega)]
    by_cases hb : p.1 < 0 ∨ p.1 > 100000 ∨ p.2 < -1000000 ∨ p.2 > 1000000
    · rw [if_pos hb, if_pos hb]
    · rw [if_neg hb, if_neg hb]
      by_cases hc : last.1 ≥ p.1
      · rw [if_pos hc, if_pos ⟨by omega, hc⟩]
      · rw [if_neg hc, if_neg (by omega)]
theorem zreadR_in (l : List Bool) : -4000001 ≤ (zreadR l).1 ∧ (zreadR l).1 ≤ 4000000 := by
  by_cases h : (zreadR l).2.2 = 0
  · obtain ⟨m, g1, g2, g3, g4, g5, _⟩ := zread_inv 8 0 0 1 l (by omega) (by omega) h
    rw [Int.zero_add, Int.mul_one] at g4 g5
    have hu := unf_or g1
    have hv : (zreadR l).1 = unf m := g5
    omega
  · rw [(zreadR_bad h).1]; omega
theorem ztakeR_eq (b : List Bool) : (ztakeR b).1 = (zreadR b).1 ∧ (ztakeR b).2.2 = (zreadR b).2.2 := ⟨rfl, rfl⟩
theorem ztakeR_rest {b : List Bool} (h : (zreadR b).2.2 = 0) : (ztakeR b).2.1 = bits1 b := by unfold ztakeR bits1; exact if_pos h
theorem bits1_len (b : List Bool) : (bits1 b).length ≤ b.length := by unfold bits1; rw [List.length_drop]; omega
theorem bits2_len (b : List Bool) : (bits2 b).length ≤ b.length := by
  have := bits1_len b
  unfold bits2; rw [List.length_drop]; omega
theorem bits2_eq {b : List Bool} (h : (zreadR b).2.2 = 0) (h1 : (zreadR (bits1 b)).2.2 = 0) : b.drop ((zreadR b).2.1 + (zreadR (bits1 b)).2.1).toNat = bits2 b := by
  have g1 := zreadR_ok h
  have g2 := zreadR_ok h1
  unfold bits2 bits1
  unfold bits1 at g2
  rw [List.drop_drop]
  congr 1
  omega
theorem unpk_len : ∀ (f k : Nat) (last : Pt) (step : Int) (acc : List Pt) (b : List Bool), (unpk f k last step acc b).1.length ≤ acc.length + f
  | 0, k, last, step, acc, b => by
    by_cases h : b.length > 0
    · rw [un_e h]; simp
    · rw [un_f h]; simp
  | f + 1, k, last, step, acc, b => by
    by_cases h1 : (zreadR b).2.2 = 0
    · by_cases h2 : (zreadR (bits1 b)).2.2 = 0
      · by_cases h3 : stepE k last (nxt last step b) = 0
        · rw [un_d (by omega) h1 h2 h3]
          have := unpk_len (f + 1 - 1) (k + 1) (nxt last step b) ((nxt last step b).1 - last.1) (acc ++ [nxt last step b]) (bits2 b)
          rw [List.length_append] at this
          simp only [List.length_cons, List.length_nil] at this
          omega
        · rw [un_c (by omega) h1 h2 h3]; simp
      · rw [un_b (by omega) h1 h2]; simp
    · rw [un_a (by omega) h1]; simp
theorem unpackR_len (b : List Bool) (n : Int) : (unpackR b n).1.length ≤ 40 := by
  unfold unpackR
  split
  · simp
  · have := unpk_len n.toNat 0 ⟨0, 0⟩ 0 [] b
    simp only [List.length_nil] at this
    omega
end Go.Rb
namespace Go.Rb
def packL : Pt → Int → List Pt → List Bool
  | _, _, [] => []
  | last, st, p :: r => itemB last st p ++ packL p (p.1 - last.1) r
theorem packL_at (l : List Pt) : ∀ (d i : Nat), i + d = l.length → packAt l i ++ packL (lastP l i) (stepP l i) (l.drop i) = packAt l l.length
  | 0, i, h => by
    rw [List.drop_of_length_le (by omega), show i = l.length from by omega]
    simp [packL]
  | d + 1, i, h => by
    rw [← packL_at l d (i + 1) (by omega), packAt_next, drop_cons (show i < l.length by omega), packL, lastP_next, stepP_next, List.append_assoc]
theorem packL_all (l : List Pt) : packL ⟨0, 0⟩ 0 l = packAt l l.length := by
  have h := packL_at l l.length 0 (by omega)
  simpa [packAt, lastP, stepP] using h
theorem zenc_ge (m : Int) : 4 ≤ (zenc 8 m).length := by
  rw [zenc, List.length_append, bitsN_len]; omega
theorem itemB_ge (a : Pt) (s : Int) (p : Pt) : 8 ≤ (itemB a s p).length := by
  have h1 := zenc_ge (p.1 - a.1 - s |> foldN)
  have h2 := zenc_ge (foldN (p.2 - a.2))
  unfold itemB; rw [List.length_append]; omega
theorem zreadR_enc {v : Int} (h : -4000000 ≤ v ∧ v ≤ 4000000) (r : List Bool) : (zreadR (zenc 8 (foldN v) ++ r)).1 = v ∧ (zreadR (zenc 8 (foldN v) ++ r)).2.2 = 0 ∧ bits1 (zenc 8 (foldN v) ++ r) = r := by
  have h1 := zig_take h r
  refine ⟨congrArg Prod.fst h1, congrArg (fun x => x.2.2) h1, ?_⟩
  have h2 : (ztakeR (zenc 8 (foldN v) ++ r)).2.1 = r := congrArg (fun x => x.2.1) h1
  rw [← ztakeR_rest (congrArg (fun x => x.2.2) h1), h2]
theorem zreadR_split {b : List Bool} (h : (zreadR b).2.2 = 0) : b = zenc 8 (foldN (zreadR b).1) ++ bits1 b ∧ -4000000 ≤ (zreadR b).1 ∧ (zreadR b).1 ≤ 4000000 := by
  have h1 := zig_again (l := b) h
  have hr : -4000000 ≤ (zreadR b).1 ∧ (zreadR b).1 ≤ 4000000 := by
    apply Classical.byContradiction
    intro hc
    have h2 : (zputR [] (ztakeR b).1).2 = 3 := by
      unfold zputR
      rw [if_pos (by show (zreadR b).1 < _ ∨ (zreadR b).1 > _; omega)]
    rw [h1.1] at h2
    simp at h2
  refine ⟨?_, hr⟩
  have h3 := h1.2
  rw [zput_nil (v := (ztakeR b).1) hr, ztakeR_rest h, List.nil_append] at h3
  exact h3.symm
theorem packP_ok {l : List Pt} (h : (packP l).2 = 0) : checkL l = 0 := by
  unfold packP at h
  split at h
  · assumption
  · exact h
def L0 (k : Nat) (last : Pt) : Int := if k = 0 then -1 else last.1
theorem chk_cons {L : Int} {p : Pt} {r : List Pt} (h : chk L (p :: r) = 0) : PtIn p ∧ L < p.1 ∧ chk p.1 r = 0 := by
  rw [chk] at h
  split at h
  · cases h
  · split at h
    · cases h
    · exact ⟨by unfold PtIn; omega, by omega, h⟩
theorem chk_mk {L : Int} {p : Pt} {r : List Pt} (h1 : PtIn p) (h2 : L < p.1) (h3 : chk p.1 r = 0) : chk L (p :: r) = 0 := by
  unfold PtIn at h1
  rw [chk, if_neg (by omega), if_neg (by omega)]; exact h3
theorem stepE_zero {k : Nat} {last p : Pt} (h1 : PtIn p) (h2 : L0 k last < p.1) : stepE k last p = 0 := by
  have h := stepE_or k last p
  unfold L0 at h2
  unfold badP at h
  unfold PtIn at h h1
  split at h2 <;> omega
theorem item_read {last p : Pt} {st : Int} (hl : PtIn last) (hs : -100000 ≤ st ∧ st ≤ 100000) (hp : PtIn p) (rest : List Bool) :
    (zreadR (itemB last st p ++ rest)).2.2 = 0 ∧ (zreadR (bits1 (itemB last st p ++ rest))).2.2 = 0 ∧ nxt last st (itemB last st p ++ rest) = p ∧ bits2 (itemB last st p ++ rest) = rest := by
  unfold PtIn at hl hp
  have h1 := zreadR_enc (v := p.1 - last.1 - st) (by omega) (zenc 8 (foldN (p.2 - last.2)) ++ rest)
  have h2 := zreadR_enc (v := p.2 - last.2) (by omega) rest
  have e : itemB last st p ++ rest = zenc 8 (foldN (p.1 - last.1 - st)) ++ (zenc 8 (foldN (p.2 - last.2)) ++ rest) := by unfold itemB; rw [List.append_assoc]
  have hb : bits1 (itemB last st p ++ rest) = zenc 8 (foldN (p.2 - last.2)) ++ rest := by rw [e, h1.2.2]
  refine ⟨by rw [e]; exact h1.2.1, by rw [hb]; exact h2.2.1, ?_, ?_⟩
  · show (⟨last.1 + st + (zreadR (itemB last st p ++ rest)).1, last.2 + (zreadR (bits1 (itemB last st p ++ rest))).1⟩ : Pt) = p
    rw [hb, h2.1, e, h1.1]
    cases p
    simp only [Prod.mk.injEq, ]
    omega
  · show bits1 (bits1 (itemB last st p ++ rest)) = rest
    rw [hb, h2.2.2]
theorem unpk_pack : ∀ (r : List Pt) (k : Nat) (last : Pt) (st : Int) (acc : List Pt) (more : List Bool), PtIn last → (-100000 ≤ st ∧ st ≤ 100000) → chk (L0 k last) r = 0 →
    unpk r.length k last st acc (packL last st r ++ more) = if more.length > 0 then ([], 8) else (acc ++ r, 0)
  | [], k, last, st, acc, more, _, _, _ => by simp [packL, unpk]
  | p :: r, k, last, st, acc, more, hl, hs, hc => by
    obtain ⟨h1, h2, h3⟩ := chk_cons hc
    have hi := item_read hl hs h1 (packL p (p.1 - last.1) r ++ more)
    rw [packL, List.append_assoc, List.length_cons, un_d (by omega) hi.1 hi.2.1 (by rw [hi.2.2.1]; exact stepE_zero h1 h2), hi.2.2.1, hi.2.2.2, Nat.add_sub_cancel]
    have hl' := hl
    have h1' := h1
    unfold PtIn at hl' h1'
    rw [unpk_pack r (k + 1) p (p.1 - last.1) (acc ++ [p]) more h1 (by omega) (by unfold L0; rw [if_neg (by omega)]; exact h3), List.append_assoc]
    rfl
theorem packL_append : ∀ (r1 r2 : List Pt) (last : Pt) (st : Int), ∃ last' st', packL last st (r1 ++ r2) = packL last st r1 ++ packL last' st' r2
  | [], r2, last, st => ⟨last, st, rfl⟩
  | p :: r1, r2, last, st => by
    obtain ⟨a, b, h⟩ := packL_append r1 r2 p (p.1 - last.1)
    exact ⟨a, b, by rw [List.cons_append, packL, h, packL, List.append_assoc]⟩
theorem chk_take : ∀ (l : List Pt) (L : Int) (k : Nat), chk L l = 0 → chk L (l.take k) = 0
  | [], _, _, _ => by simp [chk]
  | p :: l, L, 0, _ => rfl
  | p :: l, L, k + 1, h => by
    obtain ⟨h1, h2, h3⟩ := chk_cons h
    rw [List.take_succ_cons]
    exact chk_mk h1 h2 (chk_take l p.1 k h3)
theorem checkL_take {l : List Pt} (h : checkL l = 0) (k : Nat) : checkL (l.take k) = 0 := by
  have h1 := checkL_len h
  unfold checkL
  rw [if_neg (by rw [List.length_take]; omega)]
  exact chk_take l (-1) k (checkL_chk h)
theorem zero_in : PtIn ⟨0, 0⟩ := by unfold PtIn; decide
/-- Unpack of Pack is the points. -/
theorem line_back {l : List Pt} (h : checkL l = 0) : packP l = (packAt l l.length, 0) ∧ unpackR (packAt l l.length) l.length = (l, 0) ∧ (0 < l.length → ¬ (unpackR (packAt l l.length) (l.length - 1)).2 = 0) := by
  have hl := checkL_len h
  refine ⟨by unfold packP; rw [if_pos h], ?_, ?_⟩
  · unfold unpackR
    rw [if_neg (by omega)]
    have h1 := unpk_pack l 0 ⟨0, 0⟩ 0 [] [] zero_in (by omega) (checkL_chk h)
    rw [List.append_nil, packL_all] at h1
    rw [show ((l.length : Int)).toNat = l.length from by omega, h1]
    simp
  · intro h0
    unfold unpackR
    rw [if_neg (by omega), show ((l.length : Int) - 1).toNat = (l.take (l.length - 1)).length from by rw [List.length_take]; omega]
    obtain ⟨a, b, hab⟩ := packL_append (l.take (l.length - 1)) (l.drop (l.length - 1)) ⟨0, 0⟩ 0
    rw [List.take_append_drop] at hab
    rw [← packL_all, hab, unpk_pack _ 0 ⟨0, 0⟩ 0 [] _ zero_in (by omega) (checkL_chk (checkL_take h _))]
    rw [if_pos]
    · decide
    · rw [drop_cons (by omega), packL, List.length_append]
      have := itemB_ge a b (l.getD (l.length - 1) default)
      omega
theorem unpk_inv : ∀ (f k : Nat) (last : Pt) (st : Int) (acc : List Pt) (b : List Bool), PtIn last → (unpk f k last st acc b).2 = 0 →
    ∃ r, r.length = f ∧ (unpk f k last st acc b).1 = acc ++ r ∧ b = packL last st r ∧ chk (L0 k last) r = 0
  | 0, k, last, st, acc, b, _, h => by
    by_cases hb : b.length > 0
    · rw [un_e hb] at h; simp at h
    · rw [un_f hb]
      exact ⟨[], rfl, by simp, by simpa [packL] using hb, rfl⟩
  | f + 1, k, last, st, acc, b, hl, h => by
    by_cases h1 : (zreadR b).2.2 = 0
    · by_cases h2 : (zreadR (bits1 b)).2.2 = 0
      · by_cases h3 : stepE k last (nxt last st b) = 0
        · rw [un_d (by omega) h1 h2 h3, Nat.add_sub_cancel] at h ⊢
          have hse := stepE_or k last (nxt last st b)
          have hp : PtIn (nxt last st b) ∧ (k = 0 ∨ last.1 < (nxt last st b).1) := by
            rcases hse with g | g | g
            · omega
            · omega
            · exact ⟨g.1, g.2.1⟩
          obtain ⟨r, g1, g2, g3, g4⟩ := unpk_inv f (k + 1) _ _ _ _ hp.1 h
          have s1 := zreadR_split h1
          have s2 := zreadR_split h2
          refine ⟨nxt last st b :: r, by simp [g1], by rw [g2, List.append_assoc]; rfl, ?_, ?_⟩
          · rw [packL, ← g3]
            show b = (zenc 8 (foldN (last.1 + st + (zreadR b).1 - last.1 - st)) ++ zenc 8 (foldN (last.2 + (zreadR (bits1 b)).1 - last.2))) ++ bits1 (bits1 b)
            rw [show last.1 + st + (zreadR b).1 - last.1 - st = (zreadR b).1 from by omega, show last.2 + (zreadR (bits1 b)).1 - last.2 = (zreadR (bits1 b)).1 from by omega, List.append_assoc, ← s2.1]
            exact s1.1
          · refine chk_mk hp.1 ?_ ?_
            · have := hp.1
              unfold PtIn at this
              unfold L0
              split <;> omega
            · unfold L0 at g4
              rw [if_neg (by omega)] at g4
              exact g4
        · rw [un_c (by omega) h1 h2 h3] at h; exact absurd h h3
      · rw [un_b (by omega) h1 h2] at h; exact absurd h h2
    · rw [un_a (by omega) h1] at h; exact absurd h h1
/-- What is unpacked is packed as it was. -/
theorem line_again {b : List Bool} {n : Int} (h : (unpackR b n).2 = 0) : packP (unpackR b n).1 = (b, 0) ∧ ((unpackR b n).1.length : Int) = n ∧ checkL (unpackR b n).1 = 0 := by
  unfold unpackR at h ⊢
  by_cases hn : n < 0 ∨ n > 40
  · rw [if_pos hn] at h; simp at h
  · rw [if_neg hn] at h ⊢
    obtain ⟨r, g1, g2, g3, g4⟩ := unpk_inv _ _ _ _ _ _ zero_in h
    rw [g2, List.nil_append]
    have hc : checkL r = 0 := by
      unfold checkL
      rw [if_neg (by omega)]
      exact g4
    refine ⟨?_, by omega, hc⟩
    unfold packP
    rw [if_pos hc, ← packL_all, ← g3]

/-! ### Beginnings -/
theorem take_getD {l : List Pt} {k j : Nat} (h : j < k) : (l.take k).getD j default = l.getD j default := by simp [List.getD, List.getElem?_take, h]
theorem lastP_take {l : List Pt} {k j : Nat} (h : j ≤ k) : lastP (l.take k) j = lastP l j := by
  unfold lastP
  split
  · rfl
  · exact take_getD (by omega)
theorem stepP_take {l : List Pt} {k j : Nat} (h : j ≤ k) : stepP (l.take k) j = stepP l j := by
  unfold stepP
  split
  · rfl
  · rw [take_getD (by omega), lastP_take (by omega)]
theorem packAt_take (l : List Pt) (k : Nat) : ∀ j, j ≤ k → packAt (l.take k) j = packAt l j
  | 0, _ => by simp [packAt]
  | j + 1, h => by rw [packAt_next, packAt_next, packAt_take l k j (by omega), lastP_take (by omega), stepP_take (by omega), take_getD (by omega)]
theorem packAt_pre (l : List Pt) (i : Nat) : ∀ d, (packAt l (i + d)).take (packAt l i).length = packAt l i ∧ (packAt l i).length + 8 * d ≤ (packAt l (i + d)).length ∧ (packAt l (i + d)).length ≤ (packAt l i).length + 64 * d
  | 0 => by simp
  | d + 1 => by
    have h := packAt_pre l i d
    have h1 := itemB_ge (lastP l (i + d)) (stepP l (i + d)) (l.getD (i + d) default)
    have h2 := itemB_len (lastP l (i + d)) (stepP l (i + d)) (l.getD (i + d) default)
    rw [show i + (d + 1) = (i + d) + 1 from rfl, packAt_next, List.take_append_of_le_length (by omega), h.1, List.length_append]
    exact ⟨rfl, by omega, by omega⟩
theorem line_begins {l : List Pt} (h : checkL l = 0) {k : Nat} (hk : k ≤ l.length) : packP (l.take k) = (packAt l k, 0) ∧ (packAt l l.length).take (packAt l k).length = packAt l k ∧
    (packAt l k).length + 8 * (l.length - k) ≤ (packAt l l.length).length ∧ (packAt l l.length).length ≤ (packAt l k).length + 64 * (l.length - k) := by
  have h1 := packAt_pre l k (l.length - k)
  rw [show k + (l.length - k) = l.length from by omega] at h1
  refine ⟨?_, h1⟩
  unfold packP
  rw [if_pos (checkL_take h k), List.length_take, Nat.min_eq_left hk, packAt_take l k k (Nat.le_refl _)]

/-! ### Steady points -/
theorem chk_append : ∀ (l : List Pt) (L : Int) (p : Pt), chk L l = 0 → PtIn p → (∀ q ∈ l, q.1 < p.1) → L < p.1 → chk L (l ++ [p]) = 0
  | [], L, p, _, hp, _, hL => chk_mk hp hL rfl
  | q :: l, L, p, h, hp, hq, hL => by
    obtain ⟨h1, h2, h3⟩ := chk_cons h
    exact chk_mk h1 h2 (chk_append l q.1 p h3 hp (fun x hx => hq x (List.mem_cons_of_mem _ hx)) (hq q List.mem_cons_self))
end Go.Rb
namespace Go.Rb
def zeroBk : Bk := ⟨0, 0, 0, []⟩
def mkB (l : List Pt) : Bk := ⟨l.length, (l.getD 0 default).1, (l.getD (l.length - 1) default).1, packAt l l.length⟩
def makeR (l : List Pt) : Bk × Int := if ¬ (packP l).2 = 0 then (zeroBk, (packP l).2) else if l.length = 0 then (zeroBk, 4) else (⟨l.length, (l.getD 0 default).1, (l.getD (l.length - 1) default).1, (packP l).1⟩, 0)
def ptsR (x : Bk) : List Pt × Int :=
  if ¬ (unpackR x.2.2.2 x.1).2 = 0 then ([], (unpackR x.2.2.2 x.1).2) else
  if (unpackR x.2.2.2 x.1).1.length = 0 ∨ ¬ ((unpackR x.2.2.2 x.1).1.getD 0 default).1 = x.2.1 ∨ ¬ ((unpackR x.2.2.2 x.1).1.getD ((unpackR x.2.2.2 x.1).1.length - 1) default).1 = x.2.2.1 then ([], 4) else ((unpackR x.2.2.2 x.1).1, 0)
def mergeR (x y : Bk) : Bk × Int := if ¬ (ptsR x).2 = 0 then (zeroBk, (ptsR x).2) else if ¬ (ptsR y).2 = 0 then (zeroBk, (ptsR y).2) else makeR ((ptsR x).1 ++ (ptsR y).1)
theorem ptsR_len (x : Bk) : (ptsR x).1.length ≤ 40 := by
  have := unpackR_len x.2.2.2 x.1
  unfold ptsR
  split
  · simp
  · split
    · simp
    · exact this
theorem makeR_bits (l : List Pt) : (makeR l).1.2.2.2.length ≤ 2560 := by
  have := packP_len l
  unfold makeR
  split
  · simp [zeroBk]
  · split
    · simp [zeroBk]
    · exact this
theorem mergeR_bits (x y : Bk) : (mergeR x y).1.2.2.2.length ≤ 2560 := by
  unfold mergeR
  split
  · simp [zeroBk]
  · split
    · simp [zeroBk]
    · exact makeR_bits _
theorem mkB_bits {l : List Pt} (h : l.length ≤ 40) : (mkB l).2.2.2.length ≤ 2560 := by
  have := packAt_len l l.length
  show (packAt l l.length).length ≤ 2560
  omega
theorem makeR_ok {l : List Pt} (h : checkL l = 0) (h0 : 0 < l.length) : makeR l = (mkB l, 0) ∧ ptsR (mkB l) = (l, 0) := by
  have hb := line_back h
  refine ⟨?_, ?_⟩
  · unfold makeR
    rw [hb.1, if_neg (by simp), if_neg (by omega)]; rfl
  · have hu : unpackR (mkB l).2.2.2 (mkB l).1 = (l, 0) := hb.2.1
    unfold ptsR
    rw [hu, if_neg (by simp), if_neg (not_or.2 ⟨by show ¬ l.length = 0; omega, not_or.2 ⟨fun h => h rfl, fun h => h rfl⟩⟩)]
theorem mergeR_ok {a b : List Pt} (ha : checkL a = 0) (hb : checkL b = 0) (ha0 : 0 < a.length) (hb0 : 0 < b.length) (h : checkL (a ++ b) = 0) : mergeR (mkB a) (mkB b) = (mkB (a ++ b), 0) := by
  unfold mergeR
  rw [(makeR_ok ha ha0).2, (makeR_ok hb hb0).2, if_neg (by simp), if_neg (by simp)]
  exact (makeR_ok h (by rw [List.length_append]; omega)).1
theorem chk_low : ∀ (l : List Pt) (L L' : Int), L' ≤ L → chk L l = 0 → chk L' l = 0
  | [], _, _, _, _ => rfl
  | p :: l, L, L', hL, h => by
    obtain ⟨h1, h2, h3⟩ := chk_cons h
    exact chk_mk h1 (by omega) h3
theorem chk_drop : ∀ (l : List Pt) (L : Int) (k : Nat), -1 ≤ L → chk L l = 0 → chk (-1) (l.drop k) = 0
  | l, L, 0, hL, h => chk_low l L (-1) hL h
  | [], _, _ + 1, _, _ => by simp [chk]
  | p :: l, L, k + 1, hL, h => by
    obtain ⟨h1, h2, h3⟩ := chk_cons h
    unfold PtIn at h1
    rw [List.drop_succ_cons]
    exact chk_drop l p.1 k (by omega) h3
theorem checkL_drop {l : List Pt} (h : checkL l = 0) (k : Nat) : checkL (l.drop k) = 0 := by
  have h1 := checkL_len h
  unfold checkL
  rw [if_neg (by rw [List.length_drop]; omega)]
  exact chk_drop l (-1) k (by omega) (checkL_chk h)
/-- Of three parts. -/
theorem block_parts {l : List Pt} (h : checkL l = 0) {j k : Nat} (h1 : 0 < j) (h2 : j < k) (h3 : k < l.length) :
    makeR (l.take j) = (mkB (l.take j), 0) ∧ makeR ((l.take k).drop j) = (mkB ((l.take k).drop j), 0) ∧ makeR (l.drop k) = (mkB (l.drop k), 0) ∧ makeR l = (mkB l, 0) ∧ ptsR (mkB l) = (l, 0) ∧
      mergeR (mkB (l.take j)) (mkB ((l.take k).drop j)) = (mkB (l.take k), 0) ∧ mergeR (mkB (l.take k)) (mkB (l.drop k)) = (mkB l, 0) ∧ mergeR (mkB ((l.take k).drop j)) (mkB (l.drop k)) = (mkB (l.drop j), 0) ∧
      mergeR (mkB (l.take j)) (mkB (l.drop j)) = (mkB l, 0) := by
  have c1 := checkL_take h j
  have c2 := checkL_drop (checkL_take h k) j
  have c3 := checkL_drop h k
  have c4 := checkL_take h k
  have c5 := checkL_drop h j
  have l1 : 0 < (l.take j).length := by rw [List.length_take]; omega
  have l2 : 0 < ((l.take k).drop j).length := by rw [List.length_drop, List.length_take]; omega
  have l3 : 0 < (l.drop k).length := by rw [List.length_drop]; omega
  have l4 : 0 < (l.take k).length := by rw [List.length_take]; omega
  have l5 : 0 < (l.drop j).length := by rw [List.length_drop]; omega
  have e1 : l.take j ++ (l.take k).drop j = l.take k := by
    conv => rhs; rw [← List.take_append_drop j (l.take k)]
    rw [List.take_take, Nat.min_eq_left (by omega)]
  have e2 : (l.take k).drop j ++ l.drop k = l.drop j := by
    conv => rhs; rw [← List.take_append_drop k l]
    rw [List.drop_append_of_le_length (by rw [List.length_take]; omega)]
  have hw := makeR_ok h (by omega)
  refine ⟨(makeR_ok c1 l1).1, (makeR_ok c2 l2).1, (makeR_ok c3 l3).1, hw.1, hw.2, ?_, ?_, ?_, ?_⟩
  · rw [mergeR_ok c1 c2 l1 l2 (by rw [e1]; exact c4), e1]
  · rw [mergeR_ok c4 c3 l4 l3 (by rw [List.take_append_drop]; exact h), List.take_append_drop]
  · rw [mergeR_ok c2 c3 l2 l3 (by rw [e2]; exact c5), e2]
  · rw [mergeR_ok c1 c5 l1 l5 (by rw [List.take_append_drop]; exact h), List.take_append_drop]
end Go.Rb
namespace Go.Kx
open Go.Rb

/-! ### Tests -/
theorem ifB_t {α : Type} (x y : α) : ifB true x y = x := rfl
theorem ifB_f {α : Type} (x y : α) : ifB false x y = y := rfl
theorem ifB_same {α : Type} (b : Bool) (x : α) : ifB b x x = x := by cases b <;> rfl
theorem ifB_if {α : Type} (b : Bool) (x y : α) : ifB b x y = if b = true then x else y := by cases b <;> rfl
theorem ifB_dec {α : Type} (p : Prop) [Decidable p] (x y : α) : ifB (decide p) x y = if p then x else y := by by_cases h : p <;> simp [ifB, h]
theorem ifB_ltI {α : Type} (a b : Int) (x y : α) : ifB (ltI a b) x y = if a < b then x else y := ifB_dec _ _ _
theorem ifB_leI {α : Type} (a b : Int) (x y : α) : ifB (leI a b) x y = if a ≤ b then x else y := ifB_dec _ _ _
theorem ifB_gtI {α : Type} (a b : Int) (x y : α) : ifB (gtI a b) x y = if b < a then x else y := ifB_dec _ _ _
theorem ifB_geI {α : Type} (a b : Int) (x y : α) : ifB (geI a b) x y = if b ≤ a then x else y := ifB_dec _ _ _
theorem ifB_eqI {α : Type} (a b : Int) (x y : α) : ifB (eqI a b) x y = if a = b then x else y := by
  rw [ifB_if]; simp only [eqI, beq_iff_eq]
theorem ifB_neI {α : Type} (a b : Int) (x y : α) : ifB (neI a b) x y = if a = b then y else x := by
  rw [ifB_if]; simp only [neI, bne_iff_ne, ne_eq, ite_not]
theorem ifB_not {α : Type} (b : Bool) (x y : α) : ifB (notB b) x y = ifB b y x := by cases b <;> rfl
theorem ifB_and {α : Type} (a b : Bool) (x y : α) : ifB (ifB a b false) x y = ifB a (ifB b x y) y := by cases a <;> rfl
theorem ifB_eqB {α : Type} (a b : Bool) (x y : α) : ifB (eqB a b) x y = if a = b then x else y := by
  rw [ifB_if]; simp only [eqB, beq_iff_eq]
theorem ifB_isE {α β : Type} (l : List β) (x y : α) : ifB (isE l) x y = if l = [] then x else y := by cases l <;> rfl
theorem ifB_in1 {α β : Type} (l : List β) (a : Int) (x y : α) : ifB (in1 l a) x y = if 0 ≤ a ∧ a ≤ l.length then x else y := by rw [in1, ← Bool.decide_and]; exact ifB_dec _ _ _
theorem ifB_in2 {α β : Type} (l : List β) (a b : Int) (x y : α) : ifB (in2 l a b) x y = if 0 ≤ a ∧ a ≤ b ∧ b ≤ l.length then x else y := by rw [in2, ← Bool.decide_and, ← Bool.decide_and]; exact ifB_dec _ _ _
theorem ifB_in1N {α : Type} (c : Nat) (a : Int) (x y : α) : ifB (in1N c a) x y = if 0 ≤ a ∧ a ≤ c then x else y := by rw [in1N, ← Bool.decide_and]; exact ifB_dec _ _ _
theorem ifB_in2N {α : Type} (c : Nat) (a b : Int) (x y : α) : ifB (in2N c a b) x y = if 0 ≤ a ∧ a ≤ b ∧ b ≤ c then x else y := by rw [in2N, ← Bool.decide_and, ← Bool.decide_and]; exact ifB_dec _ _ _
theorem ifB_in1C {α : Type} (n c : Nat) (a : Int) (x y : α) : ifB (in1C n c a) x y = if 0 ≤ a ∧ a ≤ (max n c : Nat) then x else y := by rw [in1C, ← Bool.decide_and]; exact ifB_dec _ _ _
theorem ifB_in2C {α : Type} (n c : Nat) (a b : Int) (x y : α) : ifB (in2C n c a b) x y = if 0 ≤ a ∧ a ≤ b ∧ b ≤ (max n c : Nat) then x else y := by rw [in2C, ← Bool.decide_and, ← Bool.decide_and]; exact ifB_dec _ _ _
theorem ifB_inN {α β : Type} (l : List β) (o n : Nat) (x y : α) : ifB (inN l o n) x y = if o + n ≤ l.length then x else y := ifB_dec _ _ _
theorem ifB_ltL {α β : Type} (n : Int) (l : List β) (x y : α) : ifB (ltL n l) x y = if 0 ≤ n ∧ n < l.length then x else y := by rw [ltL, ← Bool.decide_and]; exact ifB_dec _ _ _
theorem ifB_ltN {α : Type} (n : Int) (c : Nat) (x y : α) : ifB (ltN n c) x y = if 0 ≤ n ∧ n < c then x else y := by rw [ltN, ← Bool.decide_and]; exact ifB_dec _ _ _
theorem ifB_roomA {α β : Type} (n : Nat) (a b : List β) (x y : α) : ifB (roomA n a b) x y = if (a.length + b.length + (a.length + b.length) / 4 + 192) * n ≤ 281474976710656 ∧ a.length + b.length ≤ 9223372036854775807 then x else y := by rw [roomA, ← Bool.decide_and]; exact ifB_dec _ _ _
theorem ifB_roomI {α : Type} (b : Nat) (n : Int) (x y : α) : ifB (roomI b n) x y = if 0 ≤ n ∧ n * b ≤ 140737488355328 ∧ n ≤ 9223372036854775807 then x else y := by rw [roomI, ← Bool.decide_and, ← Bool.decide_and]; exact ifB_dec _ _ _
theorem ifB_roomZ {α : Type} (b : Nat) (n : Int) (x y : α) : ifB (roomZ b n) x y = if 1 ≤ n ∧ n * b ≤ 140737488355328 ∧ n ≤ 9223372036854775807 then x else y := by rw [roomZ, ← Bool.decide_and, ← Bool.decide_and]; exact ifB_dec _ _ _
theorem ifB_roomS {α : Type} (a b : List UInt8) (x y : α) : ifB (roomS a b) x y = if (a.length : Int) + b.length ≤ 9223372036854775807 then x else y := ifB_dec _ _ _
theorem ifB_eqS {α : Type} (a b : List UInt8) (x y : α) : ifB (eqS a b) x y = if a = b then x else y := by
  rw [ifB_if]; simp only [eqS, beq_iff_eq]
theorem ifB_eqL {α : Type} (a b : List Int) (x y : α) : ifB (eqL a b) x y = if a = b then x else y := ifB_dec _ _ _
theorem ifB_fits {α β : Type} (n : Nat) (l : List β) (c : Nat) (x y : α) : ifB (fits n l c) x y = if l = [] ∨ n + l.length ≤ c then x else y := by
  cases l with
  | nil => simp [ifB, fits]
  | cons a l => rw [fits]; simp only [List.isEmpty_cons, Bool.false_or, ifB_dec, reduceCtorEq, false_or]

theorem bindO_some {α β : Type} (a : α) (f : α → Option β) : bindO (some a) f = f a := rfl
theorem bindO_none {α β : Type} (f : α → Option β) : bindO none f = none := rfl
theorem mapO_some {α β : Type} (a : α) (f : α → β) : mapO f (some a) = some (f a) := rfl
theorem mapO_none {α β : Type} (f : α → β) : mapO f none = none := rfl
theorem bindO_if {α β : Type} (p : Prop) [Decidable p] (x y : Option α) (f : α → Option β) : bindO (if p then x else y) f = if p then bindO x f else bindO y f := by split <;> rfl
theorem ambO_same {α : Type} (a : Option α) : ambO a a = a := by simp [ambO]
theorem lenI_eq {α : Type} (l : List α) : lenI l = (l.length : Int) := rfl
theorem lenN_eq {α : Type} (l : List α) : lenN l = l.length := rfl
theorem cat_eq {α : Type} (a b : List α) : cat a b = a ++ b := rfl
theorem takeI_eq {α : Type} (a : List α) (b : Int) : takeI a b = a.take b.toNat := rfl
theorem dropI_eq {α : Type} (a : List α) (b : Int) : dropI a b = a.drop b.toNat := rfl
theorem sliI_eq {α : Type} (l : List α) (a b : Int) : sliI l a b = (l.take b.toNat).drop a.toNat := rfl
theorem setN_eq {α : Type} (l : List α) (n : Nat) (a : α) : setN l n a = l.set n a := rfl
theorem natI_eq (a : Int) : natI a = a.toNat := rfl
theorem intN_eq (a : Nat) : intN a = (a : Int) := rfl
theorem atI_nat {α : Type} [Inhabited α] {l : List α} {j : Nat} (h : j < l.length) : atI l (j : Int) = some (l.getD j default) := by
  rw [atI, if_pos (by omega), Int.toNat_natCast, List.getElem?_eq_getElem h]; simp [List.getD, List.getElem?_eq_getElem h]
theorem atI_int {α : Type} [Inhabited α] {l : List α} {j : Int} (h0 : 0 ≤ j) (h : j < l.length) : atI l j = some (l.getD j.toNat default) := by
  obtain ⟨k, rfl⟩ : ∃ k : Nat, j = k := ⟨j.toNat, by omega⟩
  exact atI_nat (by omega)
theorem atI_none {α : Type} {l : List α} {j : Int} (h : ¬ (0 ≤ j ∧ j < l.length)) : atI l j = none := by
  unfold atI; split
  · exact List.getElem?_eq_none (by omega)
  · rfl
theorem atN_nat {α : Type} [Inhabited α] {l : List α} {j : Nat} (h : j < l.length) : atN l j = some (l.getD j default) := by
  rw [atN, List.getElem?_eq_getElem h]; simp [List.getD, List.getElem?_eq_getElem h]
theorem wadd_in {a b : Int} (h : -9223372036854775808 ≤ a + b ∧ a + b ≤ 9223372036854775807) : wadd .i64 a b = a + b := wr_id h.1 h.2
theorem wsub_in {a b : Int} (h : -9223372036854775808 ≤ a - b ∧ a - b ≤ 9223372036854775807) : wsub .i64 a b = a - b := wr_id h.1 h.2
theorem wmul_in {a b : Int} (h : -9223372036854775808 ≤ a * b ∧ a * b ≤ 9223372036854775807) : wmul .i64 a b = a * b := wr_id h.1 h.2
theorem wneg_in {a : Int} (h : -9223372036854775808 ≤ 0 - a ∧ 0 - a ≤ 9223372036854775807) : wneg .i64 a = 0 - a := wr_id h.1 h.2
theorem wadd_nat {j : Nat} (h : (j : Int) < 4611686018427387904) : wadd .i64 (j : Int) 1 = ((j + 1 : Nat) : Int) := by rw [wadd_in ⟨by omega, by omega⟩]; rfl

/-! ### Loops -/
/-- A round's end, and what comes behind. -/
def stepK {α β : Type} (o : Option (Sum β α)) (k : β → Option α) : Option α :=
  match o with
  | none => none
  | some (.inl y) => k y
  | some (.inr a) => some a

theorem stepK_none {α β : Type} (k : β → Option α) : stepK none k = none := rfl
theorem stepK_inl {α β : Type} (y : β) (k : β → Option α) : stepK (some (.inl y)) k = k y := rfl
theorem stepK_inr {α β : Type} (a : α) (k : β → Option α) : stepK (some (.inr a)) k = some a := rfl
theorem stepK_map {α β : Type} (o : Option α) (k : β → Option α) : stepK (mapO Sum.inr o) k = o := by cases o <;> rfl
theorem stepK_if {α β : Type} (p : Prop) [Decidable p] (x y : Option (Sum β α)) (k : β → Option α) : stepK (if p then x else y) k = if p then stepK x k else stepK y k := by split <;> rfl
theorem stepK_ifB {α β : Type} (b : Bool) (x y : Option (Sum β α)) (k : β → Option α) : stepK (ifB b x y) k = ifB b (stepK x k) (stepK y k) := by cases b <;> rfl
theorem stepK_bind {α β γ : Type} (o : Option γ) (f : γ → Option (Sum β α)) (k : β → Option α) : stepK (bindO o f) k = bindO o fun y => stepK (f y) k := by cases o <;> rfl

theorem loop_ind {α β : Type} {f : β → Option (Sum β α)} (G : β → Option α) (P : β → Prop) (μ : β → Nat)
    (h : ∀ x, P x → ∀ k : β → Option α, (∀ y, P y → μ y < μ x → k y = G y) → stepK (f x) k = G x) : ∀ (n : Nat) (x : β), P x → μ x < n → loopN n f x = G x
  | 0, x, _, hm => absurd hm (Nat.not_lt_zero _)
  | n + 1, x, hp, hm => by
    rw [loopN_succ, ← h x hp (loopN n f) (fun y hy hl => loop_ind G P μ h n y hy (by omega))]
    cases f x with
    | none => rfl
    | some s => cases s <;> rfl

/-- A loop over the elements of a list. -/
theorem loop_range {α β γ σ : Type} [Inhabited γ] (l : List γ) (enc : Nat → σ → β) {f : β → Option (Sum β α)} (G : List γ → σ → Option α) (P : Nat → σ → Prop)
    (hs : ∀ (j : Nat) (s : σ), j < l.length → P j s → ∀ k : β → Option α, (∀ s', P (j + 1) s' → k (enc (j + 1) s') = G (l.drop (j + 1)) s') → stepK (f (enc j s)) k = G (l.getD j default :: l.drop (j + 1)) s)
    (he : ∀ s, P l.length s → ∀ k : β → Option α, stepK (f (enc l.length s)) k = G [] s) {s0 : σ} (h0 : P 0 s0) (hl : l.length < 9223372036854775808) : loopN maxR f (enc 0 s0) = G l s0 := by
  have key : ∀ (d j : Nat) (s : σ) (n : Nat), j + d = l.length → P j s → d < n → loopN n f (enc j s) = G (l.drop j) s := by
    intro d
    induction d with
    | zero =>
      intro j s n hj hp hn
      obtain ⟨n, rfl⟩ : ∃ m, n = m + 1 := ⟨n - 1, by omega⟩
      have hj' : j = l.length := by omega
      subst hj'
      rw [List.drop_length, ← he s hp (loopN n f), loopN_succ]
      cases f (enc l.length s) with
      | none => rfl
      | some q => cases q <;> rfl
    | succ d ih =>
      intro j s n hj hp hn
      obtain ⟨n, rfl⟩ : ∃ m, n = m + 1 := ⟨n - 1, by omega⟩
      have hlt : j < l.length := by omega
      have hd : l.drop j = l.getD j default :: l.drop (j + 1) := by rw [List.drop_eq_getElem_cons hlt]; simp [List.getD, List.getElem?_eq_getElem hlt]
      rw [hd, ← hs j s hlt hp (loopN n f) (fun s' hp' => ih (j + 1) s' n (by omega) hp' (by omega)), loopN_succ]
      cases f (enc j s) with
      | none => rfl
      | some q => cases q <;> rfl
  have := key l.length 0 s0 maxR (by omega) h0 (by unfold maxR; omega)
  simpa using this

end Go.Kx
namespace Go.Kx
/-- Rounds that are known one by one. -/
theorem loop_steps {α β : Type} {f : β → Option (Sum β α)} (seq : Nat → β) : ∀ (n m : Nat), (∀ j, j < n → f (seq j) = some (.inl (seq (j + 1)))) → loopN (n + 1 + m) f (seq 0) = stepK (f (seq n)) (loopN m f)
  | 0, m, _ => by
    rw [Nat.zero_add, Nat.add_comm 1 m, loopN_succ]
    cases f (seq 0) with
    | none => rfl
    | some q => cases q <;> rfl
  | n + 1, m, h => by
    have h0 := h 0 (by omega)
    have h1 := loop_steps (fun j => seq (j + 1)) n m (fun j hj => h (j + 1) (by omega))
    rw [show n + 1 + 1 + m = (n + 1 + m) + 1 by omega, loopN_succ, h0]
    exact h1
theorem loop_seq {α β : Type} {f : β → Option (Sum β α)} (seq : Nat → β) (n : Nat) (hn : n < 9223372036854775807) (h : ∀ j, j < n → f (seq j) = some (.inl (seq (j + 1)))) : ∃ k, loopN maxR f (seq 0) = stepK (f (seq n)) k := by
  refine ⟨loopN (maxR - n - 1) f, ?_⟩
  have := loop_steps seq n (maxR - n - 1) h
  rw [show n + 1 + (maxR - n - 1) = maxR by unfold maxR; omega] at this
  exact this
end Go.Kx
namespace Go.Kx
theorem loop_at {α β : Type} {f : β → Option (Sum β α)} (seq : Nat → β) (n : Nat) {x0 : β} (h0 : x0 = seq 0) (hn : n < 9223372036854775807) (h : ∀ j, j < n → f (seq j) = some (.inl (seq (j + 1)))) : loopN maxR f x0 = stepK (f (seq n)) (loopN (maxR - n - 1) f) := by
  have := loop_steps seq n (maxR - n - 1) h
  rw [show n + 1 + (maxR - n - 1) = maxR by unfold maxR; omega] at this
  rw [h0]
  exact this
end Go.Kx
namespace Go.Kx
open Go.Rb

theorem clone_gen {α : Type} (b : Nat) (a : List α) (h : (a.length + a.length / 4 + 192) * b ≤ 281474976710656) (h2 : a.length ≤ 9223372036854775807) :
    ifB (isE a) (ambO (some []) (ifB (roomA b [] a) (some (cat [] a)) none)) (ifB (roomA b [] a) (some (cat [] a)) none) = some a := by
  simp only [stepK_none, stepK_inl, stepK_inr, stepK_map, stepK_if, stepK_bind, ifB_t, ifB_f, ifB_same, ifB_ltI, ifB_leI, ifB_gtI, ifB_geI, ifB_eqI, ifB_neI, ifB_not, ifB_and, ifB_eqB, ifB_isE, ifB_in1, ifB_in2, ifB_in1N, ifB_in2N, ifB_in1C, ifB_in2C, ifB_inN, ifB_ltL, ifB_ltN, ifB_roomA, ifB_roomI, ifB_roomZ, ifB_roomS, ifB_eqS, ifB_eqL, ifB_fits, bindO_some, bindO_none, mapO_some, mapO_none, lenI_eq, lenN_eq, cat_eq, takeI_eq, dropI_eq, sliI_eq, setN_eq, natI_eq, intN_eq, List.length_nil, Nat.zero_add, List.nil_append]
  rw [if_pos (⟨h, h2⟩ : (a.length + a.length / 4 + 192) * b ≤ 281474976710656 ∧ a.length ≤ 9223372036854775807)]
  split
  · rename_i h0; subst h0; exact ambO_same _
  · rfl

theorem getD_ext {α : Type} [Inhabited α] {a b : List α} (h : a.length = b.length) (hg : ∀ j, j < a.length → a.getD j default = b.getD j default) : a = b := by
  apply List.ext_getElem h
  intro i h1 h2
  have := hg i h1
  simpa [List.getD, List.getElem?_eq_getElem h1, List.getElem?_eq_getElem h2] using this

theorem equal_gen {α : Type} [Inhabited α] [DecidableEq α] (eqv : α → α → Bool) (he : ∀ x y, eqv x y = decide (x = y)) (a b : List α) (hl : a.length < 4611686018427387904) :
    ifB (neI (lenI a) (lenI b)) (some false) (loopN maxR (fun (x : Int) => ifB (ltI x (lenI a)) (bindO (atI a x) fun (y : α) => bindO (atI b x) fun (y_1 : α) => ifB (notB (eqv y y_1)) (mapO Sum.inr (some false)) (some (Sum.inl (wadd IntKind.i64 x 1)))) (mapO Sum.inr (some true))) 0) = some (decide (a = b)) := by
  rw [ifB_neI]
  by_cases hab : (a.length : Int) = b.length
  · rw [lenI_eq, lenI_eq, if_pos hab]
    have hn : a.length = b.length := by omega
    refine loop_ind (G := fun _ => some (decide (a = b))) (P := fun (i : Int) => 0 ≤ i ∧ i ≤ a.length ∧ ∀ j : Nat, (j : Int) < i → a.getD j default = b.getD j default) (μ := fun (i : Int) => a.length - i.toNat) ?_ maxR 0 ⟨by omega, by omega, fun j hj => by omega⟩ (by unfold maxR; omega)
    rintro i ⟨h0, h1, h2⟩ k hk
    obtain ⟨j, rfl⟩ : ∃ j : Nat, i = j := ⟨i.toNat, by omega⟩
    simp only [stepK_none, stepK_inl, stepK_inr, stepK_map, stepK_if, stepK_bind, ifB_t, ifB_f, ifB_same, ifB_ltI, ifB_leI, ifB_gtI, ifB_geI, ifB_eqI, ifB_neI, ifB_not, ifB_and, ifB_eqB, ifB_isE, ifB_in1, ifB_in2, ifB_in1N, ifB_in2N, ifB_in1C, ifB_in2C, ifB_inN, ifB_ltL, ifB_ltN, ifB_roomA, ifB_roomI, ifB_roomZ, ifB_roomS, ifB_eqS, ifB_eqL, ifB_fits, bindO_some, bindO_none, mapO_some, mapO_none, lenI_eq, lenN_eq, cat_eq, takeI_eq, dropI_eq, sliI_eq, setN_eq, natI_eq, intN_eq]
    by_cases hj : j < a.length
    · rw [if_pos (by omega), atI_nat hj, atI_nat (by omega : j < b.length), bindO_some, bindO_some, he, wadd_nat (by omega), stepK_ifB, stepK_inl, stepK_inr]
      by_cases hq : a.getD j default = b.getD j default
      · rw [hk _ ⟨by omega, by omega, fun j' hj' => ?_⟩ (by omega)]
        · rw [ifB_dec, if_pos hq]
        · by_cases h : j' = j
          · subst h; exact hq
          · exact h2 j' (by omega)
      · have hne : a ≠ b := by rintro rfl; exact hq rfl
        rw [ifB_dec, if_neg hq]
        simp [hne]
    · rw [if_neg (by omega)]
      have : a = b := getD_ext hn fun j' hj' => h2 j' (by omega)
      simp [this]
  · rw [lenI_eq, lenI_eq, if_neg hab]
    have : a ≠ b := by rintro rfl; exact hab rfl
    simp [this]

theorem flatten_take {α : Type} (a : List (List α)) {j : Nat} (h : j < a.length) : (a.take (j + 1)).flatten.length = (a.take j).flatten.length + (a.getD j default).length := by
  rw [take_next h]; simp
theorem flatten_take_le {α : Type} (a : List (List α)) (j : Nat) : (a.take j).flatten.length ≤ a.flatten.length := by
  have h : a.flatten = (a.take j).flatten ++ (a.drop j).flatten := by rw [← List.flatten_append, List.take_append_drop]
  rw [h, List.length_append]; omega
theorem flatten_take_app {α : Type} (a : List (List α)) {j : Nat} (h : j < a.length) : (a.take (j + 1)).flatten = (a.take j).flatten ++ a.getD j default := by
  rw [take_next h]; simp

theorem concat_gen {α : Type} (bytes : Nat) (z : α) (a : List (List α)) (ha : a.length < 4611686018427387904) (hb : 1 ≤ bytes) (h : a.flatten.length * bytes ≤ 140737488355328) (hbb : bytes ≤ 1048576) :
    loopN maxR (fun (x : Int × Int) => ifB (ltI (Prod.snd x) (lenI a)) (bindO (atI a (Prod.snd x)) fun (y : List α) => ifB (ltI (wadd IntKind.i64 (Prod.fst x) (lenI y)) 0) none (some (Sum.inl (wadd IntKind.i64 (Prod.fst x) (lenI y), wadd IntKind.i64 (Prod.snd x) 1))))
      (mapO Sum.inr (ifB (ltI (Prod.fst x) 0) none (ifB (gtI (wsub IntKind.i64 (Prod.fst x) (wsub IntKind.i64 0 0)) 0)
        (ifB (roomZ bytes (wsub IntKind.i64 (Prod.fst x) (wsub IntKind.i64 0 0))) (ifB (in1 (repI (wsub IntKind.i64 (Prod.fst x) (wsub IntKind.i64 0 0)) z) 0) (ifB (inN (repI (wsub IntKind.i64 (Prod.fst x) (wsub IntKind.i64 0 0)) z) 0 (natI 0))
          (loopN maxR (fun (x : Int × List α) => ifB (ltI (Prod.fst x) (lenI a)) (bindO (atI a (Prod.fst x)) fun (y : List α) => ifB (roomA bytes (Prod.snd x) y) (some (Sum.inl (wadd IntKind.i64 (Prod.fst x) 1, cat (Prod.snd x) y))) none) (mapO Sum.inr (some (Prod.snd x)))) (0, subN (repI (wsub IntKind.i64 (Prod.fst x) (wsub IntKind.i64 0 0)) z) 0 (natI 0)))
          none) none) none)
        (loopN maxR (fun (x : Int × List α) => ifB (ltI (Prod.fst x) (lenI a)) (bindO (atI a (Prod.fst x)) fun (y : List α) => ifB (roomA bytes (Prod.snd x) y) (some (Sum.inl (wadd IntKind.i64 (Prod.fst x) 1, cat (Prod.snd x) y))) none) (mapO Sum.inr (some (Prod.snd x)))) (0, [])))))) (0, 0) = some a.flatten := by
  have hfl : a.flatten.length ≤ 140737488355328 := by
    have : a.flatten.length * 1 ≤ a.flatten.length * bytes := Nat.mul_le_mul_left _ hb
    omega
  have second : loopN maxR (fun (x : Int × List α) => ifB (ltI (Prod.fst x) (lenI a)) (bindO (atI a (Prod.fst x)) fun (y : List α) => ifB (roomA bytes (Prod.snd x) y) (some (Sum.inl (wadd IntKind.i64 (Prod.fst x) 1, cat (Prod.snd x) y))) none) (mapO Sum.inr (some (Prod.snd x)))) (0, []) = some a.flatten := by
    refine loop_range a (fun j s => ((j : Int), s)) (G := fun _ _ => some a.flatten) (P := fun j s => s = (a.take j).flatten) ?_ ?_ (by simp) (by omega)
    · rintro j s hj rfl k hk
      have h1 := flatten_take a hj
      have h2 := flatten_take_le a (j + 1)
      simp only [stepK_none, stepK_inl, stepK_inr, stepK_map, stepK_if, stepK_bind, ifB_t, ifB_f, ifB_same, ifB_ltI, ifB_leI, ifB_gtI, ifB_geI, ifB_eqI, ifB_neI, ifB_not, ifB_and, ifB_eqB, ifB_isE, ifB_in1, ifB_in2, ifB_in1N, ifB_in2N, ifB_in1C, ifB_in2C, ifB_inN, ifB_ltL, ifB_ltN, ifB_roomA, ifB_roomI, ifB_roomZ, ifB_roomS, ifB_eqS, ifB_eqL, ifB_fits, bindO_some, bindO_none, mapO_some, mapO_none, lenI_eq, lenN_eq, cat_eq, takeI_eq, dropI_eq, sliI_eq, setN_eq, natI_eq, intN_eq]
      rw [if_pos (by omega), atI_nat hj, bindO_some, wadd_nat (by omega), ← flatten_take_app a hj, hk _ rfl, if_pos]
      refine ⟨?_, by omega⟩
      have h3 : ((a.take j).flatten.length + (a.getD j default).length) * bytes ≤ 140737488355328 := Nat.le_trans (Nat.mul_le_mul_right _ (by omega)) h
      generalize (a.take j).flatten.length + (a.getD j default).length = m at *
      have h4 : m / 4 * bytes ≤ m * bytes := Nat.mul_le_mul_right _ (by omega)
      have h5 : m / 4 * bytes * 4 ≤ m * bytes := by rw [Nat.mul_right_comm]; exact Nat.mul_le_mul_right _ (by omega)
      rw [Nat.add_mul, Nat.add_mul]
      omega
    · rintro s rfl k
      simp only [stepK_none, stepK_inl, stepK_inr, stepK_map, stepK_if, stepK_bind, ifB_t, ifB_f, ifB_same, ifB_ltI, ifB_leI, ifB_gtI, ifB_geI, ifB_eqI, ifB_neI, ifB_not, ifB_and, ifB_eqB, ifB_isE, ifB_in1, ifB_in2, ifB_in1N, ifB_in2N, ifB_in1C, ifB_in2C, ifB_inN, ifB_ltL, ifB_ltN, ifB_roomA, ifB_roomI, ifB_roomZ, ifB_roomS, ifB_eqS, ifB_eqL, ifB_fits, bindO_some, bindO_none, mapO_some, mapO_none, lenI_eq, lenN_eq, cat_eq, takeI_eq, dropI_eq, sliI_eq, setN_eq, natI_eq, intN_eq]
      rw [if_neg (by omega), List.take_length]
  refine loop_range a (fun j s => (s, (j : Int))) (G := fun _ _ => some a.flatten) (P := fun j s => s = ((a.take j).flatten.length : Int)) ?_ ?_ (by simp) (by omega)
  · rintro j s hj rfl k hk
    have h1 := flatten_take a hj
    have h2 := flatten_take_le a (j + 1)
    simp only [stepK_none, stepK_inl, stepK_inr, stepK_map, stepK_if, stepK_bind, ifB_t, ifB_f, ifB_same, ifB_ltI, ifB_leI, ifB_gtI, ifB_geI, ifB_eqI, ifB_neI, ifB_not, ifB_and, ifB_eqB, ifB_isE, ifB_in1, ifB_in2, ifB_in1N, ifB_in2N, ifB_in1C, ifB_in2C, ifB_inN, ifB_ltL, ifB_ltN, ifB_roomA, ifB_roomI, ifB_roomZ, ifB_roomS, ifB_eqS, ifB_eqL, ifB_fits, bindO_some, bindO_none, mapO_some, mapO_none, lenI_eq, lenN_eq, cat_eq, takeI_eq, dropI_eq, sliI_eq, setN_eq, natI_eq, intN_eq]
    rw [if_pos (by omega), atI_nat hj, bindO_some, wadd_nat (by omega), wadd_in ⟨by omega, by omega⟩, if_neg (by omega)]
    exact hk _ (by omega)
  · rintro s rfl k
    rw [List.take_length]
    have hw : wsub .i64 (a.flatten.length : Int) (wsub .i64 0 0) = (a.flatten.length : Int) := by
      rw [wsub_in (a := 0) (b := 0) ⟨by omega, by omega⟩, wsub_in ⟨by omega, by omega⟩]; omega
    have hz : subN (repI (a.flatten.length : Int) z) 0 (natI 0) = [] := by simp [subN, natI]
    show stepK (ifB (ltI ((a.length : Nat) : Int) (lenI a)) _ (mapO Sum.inr (ifB (ltI (a.flatten.length : Int) 0) none (ifB (gtI (wsub .i64 (a.flatten.length : Int) (wsub .i64 0 0)) 0) _ _)))) k = _
    rw [stepK_ifB, stepK_map, ifB_ltI, if_neg (show ¬ ((a.length : Nat) : Int) < lenI a by rw [lenI_eq]; omega), ifB_ltI, if_neg (by omega)]
    show ifB (gtI (wsub .i64 (a.flatten.length : Int) (wsub .i64 0 0)) 0) (ifB (roomZ bytes (wsub .i64 (a.flatten.length : Int) (wsub .i64 0 0))) (ifB (in1 (repI (wsub .i64 (a.flatten.length : Int) (wsub .i64 0 0)) z) 0) (ifB (inN (repI (wsub .i64 (a.flatten.length : Int) (wsub .i64 0 0)) z) 0 (natI 0))
      (loopN maxR _ (0, subN (repI (wsub .i64 (a.flatten.length : Int) (wsub .i64 0 0)) z) 0 (natI 0))) none) none) none) (loopN maxR _ (0, [])) = _
    rw [hw, hz, second, ifB_gtI]
    split
    · rw [ifB_roomZ, if_pos, ifB_in1, if_pos ⟨by omega, by simp [repI]⟩, ifB_inN, if_pos (by simp [repI, natI])]
      refine ⟨by omega, ?_, by omega⟩
      rw [← Int.natCast_mul]; omega
    · rfl

theorem flatten2 {α : Type} (a b : List α) : [a, b].flatten = a ++ b := by simp
theorem flatten3 {α : Type} (a b c : List α) : [a, b, c].flatten = a ++ (b ++ c) := by simp
end Go.Kx
namespace Go.Proofs.Y
open Go.Rb Go.Kx
theorem okT3 : OkTD Try.prog 3 ⟨.int .i64, 1, 8, some (.one (.int .i64))⟩ := ⟨⟨by kernel_rfl, by kernel_rfl, by kernel_rfl⟩, Try.underlying3, ⟨by kernel_rfl, by kernel_rfl⟩, trivial⟩
theorem okT4 : OkTD Try.prog 4 ⟨.bool, 1, 1, some (.one .bool)⟩ := ⟨⟨by kernel_rfl, by kernel_rfl, by kernel_rfl⟩, Try.underlying4, ⟨by kernel_rfl, by kernel_rfl⟩, trivial⟩
theorem okT5 : OkTD Try.prog 5 ⟨.int .u8, 1, 1, some (.one (.int .u8))⟩ := ⟨⟨by kernel_rfl, by kernel_rfl, by kernel_rfl⟩, Try.underlying5, ⟨by kernel_rfl, by kernel_rfl⟩, trivial⟩
theorem okT9 : OkTD Try.prog 9 ⟨.str, 1, 16, some (.one .str)⟩ := ⟨⟨by kernel_rfl, by kernel_rfl, by kernel_rfl⟩, Try.underlying9, ⟨by kernel_rfl, by kernel_rfl⟩, trivial⟩
theorem okT22 : OkTD Try.prog 22 ⟨.sl 34, 1, 24, some (.one (.sl 34 (.cons (.int .i64) (.one (.int .i64)))))⟩ := ⟨⟨by kernel_rfl, by kernel_rfl, by kernel_rfl⟩, ⟨Try.underlying22, by kernel_rfl⟩, ⟨by kernel_rfl, by kernel_rfl⟩, trivial⟩
theorem okT24 : OkTD Try.prog 24 ⟨.st [(0, 1), (1, 1), (2, 1), (3, 1)], 4, 32, some (.cons (.int .i64) (.cons (.int .i64) (.cons (.int .i64) (.one (.int .i64)))))⟩ := ⟨⟨by kernel_rfl, by kernel_rfl, by kernel_rfl⟩, ⟨_, Try.underlying24, by kernel_rfl, by kernel_rfl⟩, ⟨by kernel_rfl, by kernel_rfl⟩, fun _ => eqInts_flat (Try.underlying24) (by kernel_rfl) (by kernel_rfl) (by kernel_rfl) (by kernel_rfl)⟩
theorem okT31 : OkTD Try.prog 31 ⟨.int .i64, 1, 8, some (.one (.int .i64))⟩ := ⟨⟨by kernel_rfl, by kernel_rfl, by kernel_rfl⟩, Try.underlying31, ⟨by kernel_rfl, by kernel_rfl⟩, trivial⟩
theorem okT34 : OkTD Try.prog 34 ⟨.st [(0, 1), (1, 1)], 2, 16, some (.cons (.int .i64) (.one (.int .i64)))⟩ := ⟨⟨by kernel_rfl, by kernel_rfl, by kernel_rfl⟩, ⟨_, Try.underlying34, by kernel_rfl, by kernel_rfl⟩, ⟨by kernel_rfl, by kernel_rfl⟩, fun _ => eqInts_flat (Try.underlying34) (by kernel_rfl) (by kernel_rfl) (by kernel_rfl) (by kernel_rfl)⟩
theorem okT36 : OkTD Try.prog 36 ⟨.sl 4, 1, 24, some (.one (.sl 4 (.one .bool)))⟩ := ⟨⟨by kernel_rfl, by kernel_rfl, by kernel_rfl⟩, ⟨Try.underlying36, by kernel_rfl⟩, ⟨by kernel_rfl, by kernel_rfl⟩, trivial⟩
theorem okT43 : OkTD Try.prog 43 ⟨.sl 3, 1, 24, some (.one (.sl 3 (.one (.int .i64))))⟩ := ⟨⟨by kernel_rfl, by kernel_rfl, by kernel_rfl⟩, ⟨Try.underlying43, by kernel_rfl⟩, ⟨by kernel_rfl, by kernel_rfl⟩, trivial⟩
theorem okT58 : OkTD Try.prog 58 ⟨.st [(0, 1), (1, 1), (2, 1), (3, 1)], 4, 48, some (.cons (.int .i64) (.cons (.int .i64) (.cons (.int .i64) (.one (.sl 4 (.one .bool))))))⟩ := ⟨⟨by kernel_rfl, by kernel_rfl, by kernel_rfl⟩, ⟨_, Try.underlying58, by kernel_rfl, by kernel_rfl⟩, ⟨by kernel_rfl, by kernel_rfl⟩, fun h => absurd (by rfl) h⟩
theorem okT65 : OkTD Try.prog 65 ⟨.sl 78, 1, 24, some (.one (.sl 78 (.cons (.sl 58 (.cons (.int .i64) (.cons (.int .i64) (.cons (.int .i64) (.one (.sl 4 (.one .bool))))))) (.one (.sl 34 (.cons (.int .i64) (.one (.int .i64))))))))⟩ := ⟨⟨by kernel_rfl, by kernel_rfl, by kernel_rfl⟩, ⟨Try.underlying65, by kernel_rfl⟩, ⟨by kernel_rfl, by kernel_rfl⟩, trivial⟩
theorem okT67 : OkTD Try.prog 67 ⟨.st [(0, 1)], 1, 24, some (.one (.sl 78 (.cons (.sl 58 (.cons (.int .i64) (.cons (.int .i64) (.cons (.int .i64) (.one (.sl 4 (.one .bool))))))) (.one (.sl 34 (.cons (.int .i64) (.one (.int .i64))))))))⟩ := ⟨⟨by kernel_rfl, by kernel_rfl, by kernel_rfl⟩, ⟨_, Try.underlying67, by kernel_rfl, by kernel_rfl⟩, ⟨by kernel_rfl, by kernel_rfl⟩, fun h => absurd (by rfl) h⟩
theorem okT69 : OkTD Try.prog 69 ⟨.sl 83, 1, 24, some (.one (.sl 83 (.cons (.int .i64) (.cons (.int .i64) (.cons (.int .i64) (.cons (.int .i64) (.one (.int .i64))))))))⟩ := ⟨⟨by kernel_rfl, by kernel_rfl, by kernel_rfl⟩, ⟨Try.underlying69, by kernel_rfl⟩, ⟨by kernel_rfl, by kernel_rfl⟩, trivial⟩
theorem okT76 : OkTD Try.prog 76 ⟨.sl 58, 1, 24, some (.one (.sl 58 (.cons (.int .i64) (.cons (.int .i64) (.cons (.int .i64) (.one (.sl 4 (.one .bool))))))))⟩ := ⟨⟨by kernel_rfl, by kernel_rfl, by kernel_rfl⟩, ⟨Try.underlying76, by kernel_rfl⟩, ⟨by kernel_rfl, by kernel_rfl⟩, trivial⟩
theorem okT78 : OkTD Try.prog 78 ⟨.st [(0, 1), (1, 1)], 2, 48, some (.cons (.sl 58 (.cons (.int .i64) (.cons (.int .i64) (.cons (.int .i64) (.one (.sl 4 (.one .bool))))))) (.one (.sl 34 (.cons (.int .i64) (.one (.int .i64))))))⟩ := ⟨⟨by kernel_rfl, by kernel_rfl, by kernel_rfl⟩, ⟨_, Try.underlying78, by kernel_rfl, by kernel_rfl⟩, ⟨by kernel_rfl, by kernel_rfl⟩, fun h => absurd (by rfl) h⟩
theorem okT83 : OkTD Try.prog 83 ⟨.st [(0, 1), (1, 4)], 5, 40, some (.cons (.int .i64) (.cons (.int .i64) (.cons (.int .i64) (.cons (.int .i64) (.one (.int .i64))))))⟩ := ⟨⟨by kernel_rfl, by kernel_rfl, by kernel_rfl⟩, ⟨_, Try.underlying83, by kernel_rfl, by kernel_rfl⟩, ⟨by kernel_rfl, by kernel_rfl⟩, fun _ => eqInts_nest (Try.underlying83) (by kernel_rfl) (by kernel_rfl) (by kernel_rfl) (by kernel_rfl) (by kernel_rfl)⟩
theorem okT86 : OkTD Try.prog 86 ⟨.sl 97, 1, 24, some (.one (.sl 97 (.cons (.int .i64) (.cons (.int .i64) (.one (.int .i64))))))⟩ := ⟨⟨by kernel_rfl, by kernel_rfl, by kernel_rfl⟩, ⟨Try.underlying86, by kernel_rfl⟩, ⟨by kernel_rfl, by kernel_rfl⟩, trivial⟩
theorem okT97 : OkTD Try.prog 97 ⟨.st [(0, 1), (1, 1), (2, 1)], 3, 24, some (.cons (.int .i64) (.cons (.int .i64) (.one (.int .i64))))⟩ := ⟨⟨by kernel_rfl, by kernel_rfl, by kernel_rfl⟩, ⟨_, Try.underlying97, by kernel_rfl, by kernel_rfl⟩, ⟨by kernel_rfl, by kernel_rfl⟩, fun _ => eqInts_flat (Try.underlying97) (by kernel_rfl) (by kernel_rfl) (by kernel_rfl) (by kernel_rfl)⟩
theorem okT101 : OkTD Try.prog 101 ⟨.sl 104, 1, 24, some (.one (.sl 104 (.cons (.int .i64) (.cons (.int .i64) (.cons (.int .i64) (.one (.sl 97 (.cons (.int .i64) (.cons (.int .i64) (.one (.int .i64)))))))))))⟩ := ⟨⟨by kernel_rfl, by kernel_rfl, by kernel_rfl⟩, ⟨Try.underlying101, by kernel_rfl⟩, ⟨by kernel_rfl, by kernel_rfl⟩, trivial⟩
theorem okT104 : OkTD Try.prog 104 ⟨.st [(0, 1), (1, 1), (2, 1), (3, 1)], 4, 48, some (.cons (.int .i64) (.cons (.int .i64) (.cons (.int .i64) (.one (.sl 97 (.cons (.int .i64) (.cons (.int .i64) (.one (.int .i64)))))))))⟩ := ⟨⟨by kernel_rfl, by kernel_rfl, by kernel_rfl⟩, ⟨_, Try.underlying104, by kernel_rfl, by kernel_rfl⟩, ⟨by kernel_rfl, by kernel_rfl⟩, fun h => absurd (by rfl) h⟩
theorem okT116 : OkTD Try.prog 116 ⟨.sl 36, 1, 24, some (.one (.sl 36 (.one (.sl 4 (.one .bool)))))⟩ := ⟨⟨by kernel_rfl, by kernel_rfl, by kernel_rfl⟩, ⟨Try.underlying116, by kernel_rfl⟩, ⟨by kernel_rfl, by kernel_rfl⟩, trivial⟩
theorem okT136 : OkTD Try.prog 136 ⟨.sl 86, 1, 24, some (.one (.sl 86 (.one (.sl 97 (.cons (.int .i64) (.cons (.int .i64) (.one (.int .i64))))))))⟩ := ⟨⟨by kernel_rfl, by kernel_rfl, by kernel_rfl⟩, ⟨Try.underlying136, by kernel_rfl⟩, ⟨by kernel_rfl, by kernel_rfl⟩, trivial⟩
theorem okT142 : OkTD Try.prog 142 ⟨.int .u64, 1, 8, some (.one (.int .u64))⟩ := ⟨⟨by kernel_rfl, by kernel_rfl, by kernel_rfl⟩, Try.underlying142, ⟨by kernel_rfl, by kernel_rfl⟩, trivial⟩
theorem okT143 : OkTD Try.prog 143 ⟨.sl 22, 1, 24, some (.one (.sl 22 (.one (.sl 34 (.cons (.int .i64) (.one (.int .i64)))))))⟩ := ⟨⟨by kernel_rfl, by kernel_rfl, by kernel_rfl⟩, ⟨Try.underlying143, by kernel_rfl⟩, ⟨by kernel_rfl, by kernel_rfl⟩, trivial⟩
theorem okT148 : OkTD Try.prog 148 ⟨.sl 76, 1, 24, some (.one (.sl 76 (.one (.sl 58 (.cons (.int .i64) (.cons (.int .i64) (.cons (.int .i64) (.one (.sl 4 (.one .bool))))))))))⟩ := ⟨⟨by kernel_rfl, by kernel_rfl, by kernel_rfl⟩, ⟨Try.underlying148, by kernel_rfl⟩, ⟨by kernel_rfl, by kernel_rfl⟩, trivial⟩
theorem okT151 : OkTD Try.prog 151 ⟨.int .i64, 1, 8, some (.one (.int .i64))⟩ := ⟨⟨by kernel_rfl, by kernel_rfl, by kernel_rfl⟩, Try.underlying151, ⟨by kernel_rfl, by kernel_rfl⟩, trivial⟩
theorem okT160 : OkTD Try.prog 160 ⟨.int .u32, 1, 4, some (.one (.int .u32))⟩ := ⟨⟨by kernel_rfl, by kernel_rfl, by kernel_rfl⟩, Try.underlying160, ⟨by kernel_rfl, by kernel_rfl⟩, trivial⟩
theorem okT162 : OkTD Try.prog 162 ⟨.int .u64, 1, 8, some (.one (.int .u64))⟩ := ⟨⟨by kernel_rfl, by kernel_rfl, by kernel_rfl⟩, Try.underlying162, ⟨by kernel_rfl, by kernel_rfl⟩, trivial⟩
def tL : List (Nat × TD) := [(3, ⟨.int .i64, 1, 8, some (.one (.int .i64))⟩),
  (4, ⟨.bool, 1, 1, some (.one .bool)⟩),
  (5, ⟨.int .u8, 1, 1, some (.one (.int .u8))⟩),
  (9, ⟨.str, 1, 16, some (.one .str)⟩),
  (22, ⟨.sl 34, 1, 24, some (.one (.sl 34 (.cons (.int .i64) (.one (.int .i64)))))⟩),
  (24, ⟨.st [(0, 1), (1, 1), (2, 1), (3, 1)], 4, 32, some (.cons (.int .i64) (.cons (.int .i64) (.cons (.int .i64) (.one (.int .i64)))))⟩),
  (31, ⟨.int .i64, 1, 8, some (.one (.int .i64))⟩),
  (34, ⟨.st [(0, 1), (1, 1)], 2, 16, some (.cons (.int .i64) (.one (.int .i64)))⟩),
  (36, ⟨.sl 4, 1, 24, some (.one (.sl 4 (.one .bool)))⟩),
  (43, ⟨.sl 3, 1, 24, some (.one (.sl 3 (.one (.int .i64))))⟩),
  (58, ⟨.st [(0, 1), (1, 1), (2, 1), (3, 1)], 4, 48, some (.cons (.int .i64) (.cons (.int .i64) (.cons (.int .i64) (.one (.sl 4 (.one .bool))))))⟩),
  (65, ⟨.sl 78, 1, 24, some (.one (.sl 78 (.cons (.sl 58 (.cons (.int .i64) (.cons (.int .i64) (.cons (.int .i64) (.one (.sl 4 (.one .bool))))))) (.one (.sl 34 (.cons (.int .i64) (.one (.int .i64))))))))⟩),
  (67, ⟨.st [(0, 1)], 1, 24, some (.one (.sl 78 (.cons (.sl 58 (.cons (.int .i64) (.cons (.int .i64) (.cons (.int .i64) (.one (.sl 4 (.one .bool))))))) (.one (.sl 34 (.cons (.int .i64) (.one (.int .i64))))))))⟩),
  (69, ⟨.sl 83, 1, 24, some (.one (.sl 83 (.cons (.int .i64) (.cons (.int .i64) (.cons (.int .i64) (.cons (.int .i64) (.one (.int .i64))))))))⟩),
  (76, ⟨.sl 58, 1, 24, some (.one (.sl 58 (.cons (.int .i64) (.cons (.int .i64) (.cons (.int .i64) (.one (.sl 4 (.one .bool))))))))⟩),
  (78, ⟨.st [(0, 1), (1, 1)], 2, 48, some (.cons (.sl 58 (.cons (.int .i64) (.cons (.int .i64) (.cons (.int .i64) (.one (.sl 4 (.one .bool))))))) (.one (.sl 34 (.cons (.int .i64) (.one (.int .i64))))))⟩),
  (83, ⟨.st [(0, 1), (1, 4)], 5, 40, some (.cons (.int .i64) (.cons (.int .i64) (.cons (.int .i64) (.cons (.int .i64) (.one (.int .i64))))))⟩),
  (86, ⟨.sl 97, 1, 24, some (.one (.sl 97 (.cons (.int .i64) (.cons (.int .i64) (.one (.int .i64))))))⟩),
  (97, ⟨.st [(0, 1), (1, 1), (2, 1)], 3, 24, some (.cons (.int .i64) (.cons (.int .i64) (.one (.int .i64))))⟩),
  (101, ⟨.sl 104, 1, 24, some (.one (.sl 104 (.cons (.int .i64) (.cons (.int .i64) (.cons (.int .i64) (.one (.sl 97 (.cons (.int .i64) (.cons (.int .i64) (.one (.int .i64)))))))))))⟩),
  (104, ⟨.st [(0, 1), (1, 1), (2, 1), (3, 1)], 4, 48, some (.cons (.int .i64) (.cons (.int .i64) (.cons (.int .i64) (.one (.sl 97 (.cons (.int .i64) (.cons (.int .i64) (.one (.int .i64)))))))))⟩),
  (116, ⟨.sl 36, 1, 24, some (.one (.sl 36 (.one (.sl 4 (.one .bool)))))⟩),
  (136, ⟨.sl 86, 1, 24, some (.one (.sl 86 (.one (.sl 97 (.cons (.int .i64) (.cons (.int .i64) (.one (.int .i64))))))))⟩),
  (142, ⟨.int .u64, 1, 8, some (.one (.int .u64))⟩),
  (143, ⟨.sl 22, 1, 24, some (.one (.sl 22 (.one (.sl 34 (.cons (.int .i64) (.one (.int .i64)))))))⟩),
  (148, ⟨.sl 76, 1, 24, some (.one (.sl 76 (.one (.sl 58 (.cons (.int .i64) (.cons (.int .i64) (.cons (.int .i64) (.one (.sl 4 (.one .bool))))))))))⟩),
  (151, ⟨.int .i64, 1, 8, some (.one (.int .i64))⟩),
  (160, ⟨.int .u32, 1, 4, some (.one (.int .u32))⟩),
  (162, ⟨.int .u64, 1, 8, some (.one (.int .u64))⟩)]
def T : TT := tabT tL
theorem tok : TOK Try.prog T := tok_of (L := tL) (List.forall_mem_cons.2 ⟨okT3, List.forall_mem_cons.2 ⟨okT4, List.forall_mem_cons.2 ⟨okT5, List.forall_mem_cons.2 ⟨okT9, List.forall_mem_cons.2 ⟨okT22, List.forall_mem_cons.2 ⟨okT24, List.forall_mem_cons.2 ⟨okT31, List.forall_mem_cons.2 ⟨okT34, List.forall_mem_cons.2 ⟨okT36, List.forall_mem_cons.2 ⟨okT43, List.forall_mem_cons.2 ⟨okT58, List.forall_mem_cons.2 ⟨okT65, List.forall_mem_cons.2 ⟨okT67, List.forall_mem_cons.2 ⟨okT69, List.forall_mem_cons.2 ⟨okT76, List.forall_mem_cons.2 ⟨okT78, List.forall_mem_cons.2 ⟨okT83, List.forall_mem_cons.2 ⟨okT86, List.forall_mem_cons.2 ⟨okT97, List.forall_mem_cons.2 ⟨okT101, List.forall_mem_cons.2 ⟨okT104, List.forall_mem_cons.2 ⟨okT116, List.forall_mem_cons.2 ⟨okT136, List.forall_mem_cons.2 ⟨okT142, List.forall_mem_cons.2 ⟨okT143, List.forall_mem_cons.2 ⟨okT148, List.forall_mem_cons.2 ⟨okT151, List.forall_mem_cons.2 ⟨okT160, List.forall_mem_cons.2 ⟨okT162, (by intro q h; cases h)⟩⟩⟩⟩⟩⟩⟩⟩⟩⟩⟩⟩⟩⟩⟩⟩⟩⟩⟩⟩⟩⟩⟩⟩⟩⟩⟩⟩⟩)
theorem fmo : Try.prog.follows .mixedOrders = true := by kernel_rfl
end Go.Proofs.Y
namespace Go.Proofs.Y
open Go.Rb Go.Kx
noncomputable def C_bits_Read : Code := bodyOf Try.f94
noncomputable def G_bits_Read : FuncId → Option GS := tabG []
theorem g_bits_Read : ΓOK Try.prog G_bits_Read := ΓOK_nil
def H_bits_Read : HT := ⟨tabL [(7, .it [] (dyn [.t 6 (.int .i64), .t 23 (.int .i64)]))], tabH []⟩
abbrev is_bits_Read : List IT := [.v (.one (.sl 4 (.one .bool))) false, .v (.one (.int .i64)) false]
abbrev os_bits_Read : List OT := [⟨.one (.int .i64), false, []⟩, ⟨.one (.int .i64), false, []⟩]
set_option maxRecDepth 100000
noncomputable def F_bits_Read : List Bool → Int → Option (Int × Int) := fun (a : List Bool) (b : Int) => ifB (ltI b 0) (some (0, 3)) (ifB (gtI b 40) (some (0, 3)) (ifB (ltI (lenI a) b) (some (0, 8)) (ifB (in1 a b) (loopN maxR (fun (x : Int × Int) => ifB (ltI x.2 (lenI (takeI a b))) (bindO (atI (takeI a b) x.2) fun (y : Bool) => ifB y (some (Sum.inl (wadd .i64 (wmul .i64 x.1 2) 1, wadd .i64 x.2 1))) (some (Sum.inl (wmul .i64 x.1 2, wadd .i64 x.2 1)))) (mapO Sum.inr (some (x.1, 0)))) (0, 0)) none)))
theorem F_bits_Read_eq (x : PI is_bits_Read) : F_bits_Read (x.1) (x.2) = fnE T G_bits_Read H_bits_Read C_bits_Read (resOf Try.f94) is_bits_Read os_bits_Read x := by kernel_rfl
noncomputable abbrev R_bits_Read : GS := mkSpec false is_bits_Read os_bits_Read fun x => F_bits_Read (x.1) (x.2)
theorem R_bits_Read_ok : GSOK Try.prog 94 R_bits_Read := spec_ok tok g_bits_Read fmo (Ht := H_bits_Read) (fn := Try.f94) (Try.func94) (c := C_bits_Read) (by kernel_rfl) (by kernel_rfl) (by kernel_rfl) (by decide +kernel) (by decide) F_bits_Read_eq
end Go.Proofs.Y
namespace Go.Proofs.Y
open Go.Rb Go.Kx
noncomputable def C_cloneB : Code := bodyOf Try.f93
noncomputable def G_cloneB : FuncId → Option GS := tabG []
theorem g_cloneB : ΓOK Try.prog G_cloneB := ΓOK_nil
def H_cloneB : HT := ⟨tabL [], tabH []⟩
abbrev is_cloneB : List IT := [.v (.one (.sl 4 (.one .bool))) false]
abbrev os_cloneB : List OT := [⟨.one (.sl 4 (.one .bool)), false, [true]⟩]
set_option maxRecDepth 100000
noncomputable def F_cloneB : List Bool → Option (List Bool) := fun (a : List Bool) => ifB (isE a) (ambO (some []) (ifB (roomA 1 [] a) (some (cat [] a)) none)) (ifB (roomA 1 [] a) (some (cat [] a)) none)
theorem F_cloneB_eq (x : PI is_cloneB) : F_cloneB x = fnE T G_cloneB H_cloneB C_cloneB (resOf Try.f93) is_cloneB os_cloneB x := by kernel_rfl
noncomputable abbrev R_cloneB : GS := mkSpec false is_cloneB os_cloneB fun x => F_cloneB x
theorem R_cloneB_ok : GSOK Try.prog 93 R_cloneB := spec_ok tok g_cloneB fmo (Ht := H_cloneB) (fn := Try.f93) (Try.func93) (c := C_cloneB) (by kernel_rfl) (by kernel_rfl) (by kernel_rfl) (by decide +kernel) (by decide) F_cloneB_eq
end Go.Proofs.Y
namespace Go.Proofs.Y
open Go.Rb Go.Kx
noncomputable def C_bits_Take : Code := bodyOf Try.f33
noncomputable def G_bits_Take : FuncId → Option GS := tabG [(94, R_bits_Read), (93, R_cloneB)]
theorem g_bits_Take : ΓOK Try.prog G_bits_Take := ΓOK_cons (R_bits_Read_ok) (ΓOK_cons (R_cloneB_ok) (ΓOK_nil))
def H_bits_Take : HT := ⟨tabL [], tabH []⟩
abbrev is_bits_Take : List IT := [.v (.one (.sl 4 (.one .bool))) false, .v (.one (.int .i64)) false]
abbrev os_bits_Take : List OT := [⟨.one (.int .i64), false, []⟩, ⟨.one (.sl 4 (.one .bool)), false, []⟩, ⟨.one (.int .i64), false, []⟩]
set_option maxRecDepth 100000
noncomputable def F_bits_Take : List Bool → Int → Option (Int × List Bool × Int) := fun (a : List Bool) (b : Int) => bindO (F_bits_Read a b) fun (y : Int × Int) => ifB (neI y.2 0) (some (0, [], y.2)) (ifB (in1 a b) (bindO (F_cloneB (dropI a b)) fun (y_1 : List Bool) => some (y.1, y_1, 0)) none)
theorem F_bits_Take_eq (x : PI is_bits_Take) : F_bits_Take (x.1) (x.2) = fnE T G_bits_Take H_bits_Take C_bits_Take (resOf Try.f33) is_bits_Take os_bits_Take x := by kernel_rfl
noncomputable abbrev R_bits_Take : GS := mkSpec false is_bits_Take os_bits_Take fun x => F_bits_Take (x.1) (x.2)
theorem R_bits_Take_ok : GSOK Try.prog 33 R_bits_Take := spec_ok tok g_bits_Take fmo (Ht := H_bits_Take) (fn := Try.f33) (Try.func33) (c := C_bits_Take) (by kernel_rfl) (by kernel_rfl) (by kernel_rfl) (by decide +kernel) (by decide) F_bits_Take_eq
end Go.Proofs.Y
namespace Go.Proofs.Y
open Go.Rb Go.Kx
noncomputable def C_bits_Put : Code := bodyOf Try.f32
noncomputable def G_bits_Put : FuncId → Option GS := tabG [(93, R_cloneB)]
theorem g_bits_Put : ΓOK Try.prog G_bits_Put := ΓOK_cons (R_cloneB_ok) (ΓOK_nil)
def H_bits_Put : HT := ⟨tabL [(5, .it [] (dyn [.a 0 4 (.one .bool), .t 8 (.int .i64)]))], tabH []⟩
abbrev is_bits_Put : List IT := [.v (.one (.sl 4 (.one .bool))) false, .v (.one (.int .i64)) false, .v (.one (.int .i64)) false]
abbrev os_bits_Put : List OT := [⟨.one (.sl 4 (.one .bool)), false, []⟩, ⟨.one (.int .i64), false, []⟩]
set_option maxRecDepth 100000
noncomputable def F_bits_Put : List Bool → Int → Int → Option (List Bool × Int) := fun (a : List Bool) (b c : Int) => ifB (ltI c 0) (some ([], 3)) (ifB (gtI c 40) (some ([], 3)) (ifB (ltI b 0) (some ([], 3)) (ifB (ltI c 0) none (ifB (neI (wshr .i64 b c) 0) (some ([], 3)) (bindO (F_cloneB a) fun (y : List Bool) => loopN maxR (fun (x : Int × List Bool) => ifB (geI x.1 0) (ifB (ltI x.1 0) none (ifB (roomA 1 x.2 [eqI (wand .i64 (wshr .i64 b x.1) 1) 1]) (some (Sum.inl (wsub .i64 x.1 1, cat x.2 [eqI (wand .i64 (wshr .i64 b x.1) 1) 1]))) none)) (mapO Sum.inr (some (x.2, 0)))) (wsub .i64 c 1, y))))))
theorem F_bits_Put_eq (x : PI is_bits_Put) : F_bits_Put (x.1) (x.2.1) (x.2.2) = fnE T G_bits_Put H_bits_Put C_bits_Put (resOf Try.f32) is_bits_Put os_bits_Put x := by kernel_rfl
noncomputable abbrev R_bits_Put : GS := mkSpec false is_bits_Put os_bits_Put fun x => F_bits_Put (x.1) (x.2.1) (x.2.2)
theorem R_bits_Put_ok : GSOK Try.prog 32 R_bits_Put := spec_ok tok g_bits_Put fmo (Ht := H_bits_Put) (fn := Try.f32) (Try.func32) (c := C_bits_Put) (by kernel_rfl) (by kernel_rfl) (by kernel_rfl) (by decide +kernel) (by decide) F_bits_Put_eq
end Go.Proofs.Y
namespace Go.Proofs.Y
open Go.Rb Go.Kx
noncomputable def C_equalB : Code := bodyOf Try.f37
noncomputable def G_equalB : FuncId → Option GS := tabG []
theorem g_equalB : ΓOK Try.prog G_equalB := ΓOK_nil
def H_equalB : HT := ⟨tabL [(4, .it [] (dyn [.t 13 (.int .i64)]))], tabH []⟩
abbrev is_equalB : List IT := [.v (.one (.sl 4 (.one .bool))) false, .v (.one (.sl 4 (.one .bool))) false]
abbrev os_equalB : List OT := [⟨.one .bool, false, []⟩]
set_option maxRecDepth 100000
noncomputable def F_equalB : List Bool → List Bool → Option Bool := fun (a b : List Bool) => ifB (neI (lenI a) (lenI b)) (some false) (loopN maxR (fun (x : Int) => ifB (ltI x (lenI a)) (bindO (atI a x) fun (y : Bool) => bindO (atI b x) fun (y_1 : Bool) => ifB (notB (eqB y y_1)) (mapO Sum.inr (some false)) (some (Sum.inl (wadd .i64 x 1)))) (mapO Sum.inr (some true))) 0)
theorem F_equalB_eq (x : PI is_equalB) : F_equalB (x.1) (x.2) = fnE T G_equalB H_equalB C_equalB (resOf Try.f37) is_equalB os_equalB x := by kernel_rfl
noncomputable abbrev R_equalB : GS := mkSpec false is_equalB os_equalB fun x => F_equalB (x.1) (x.2)
theorem R_equalB_ok : GSOK Try.prog 37 R_equalB := spec_ok tok g_equalB fmo (Ht := H_equalB) (fn := Try.f37) (Try.func37) (c := C_equalB) (by kernel_rfl) (by kernel_rfl) (by kernel_rfl) (by decide +kernel) (by decide) F_equalB_eq
end Go.Proofs.Y
namespace Go.Proofs.Y
open Go.Rb Go.Kx
theorem cloneB_eq {a : List Bool} (h : a.length ≤ 140737488355328) : F_cloneB a = some a := clone_gen 1 a (by omega) (by omega)
theorem equalB_eq {a b : List Bool} (h : a.length < 4611686018427387904) : F_equalB a b = some (decide (a = b)) := equal_gen eqB (fun x y => by cases x <;> cases y <;> rfl) a b h

theorem wshr_eq {n k : Int} (h0 : 0 ≤ n) (hk : 0 ≤ k ∧ k ≤ 40) : wshr .i64 n k = n / 2 ^ k.toNat := by
  unfold wshr
  rw [show min k.toNat IntKind.i64.bits = k.toNat from by show min k.toNat 64 = _; omega, fdiv_pow h0]
theorem bit_eq {n k : Int} (h0 : 0 ≤ n) (h1 : n ≤ 9223372036854775807) (hk : 0 ≤ k ∧ k ≤ 40) : eqI (wand .i64 (wshr .i64 n k) 1) 1 = bitAt n k.toNat := by
  have h2 := div_pow_le h0 k.toNat
  rw [wshr_eq h0 hk]
  unfold wand eqI bitAt
  rw [and_one h2.1 (by omega)]

theorem put_eq (l : List Bool) (n w : Int) (hl : l.length ≤ 140737488355200) (hn : n ≤ 9223372036854775807) : F_bits_Put l n w = some (putR l n w) := by
  unfold F_bits_Put putR
  rw [ifB_ltI, ifB_gtI, ifB_ltI, ifB_ltI, ifB_neI, cloneB_eq (by omega), bindO_some]
  by_cases hw0 : w < 0
  · rw [if_pos hw0, if_neg (by unfold putOk; omega)]
  rw [if_neg hw0]
  by_cases hw1 : 40 < w
  · rw [if_pos hw1, if_neg (by unfold putOk; omega)]
  rw [if_neg hw1]
  by_cases hn0 : n < 0
  · rw [if_pos hn0, if_neg (by unfold putOk; omega)]
  rw [if_neg hn0, if_neg hw0, wshr_eq (by omega) ⟨by omega, by omega⟩]
  by_cases hs : n / 2 ^ w.toNat = 0
  · rw [if_pos hs, if_pos ⟨by omega, by omega, by omega, (shr_zero (by omega)).1 hs⟩]
    have hws : wsub .i64 w 1 = w - 1 := wsub_in ⟨by omega, by omega⟩
    rw [hws]
    have key := loop_ind (f := fun (x : Int × List Bool) => ifB (geI (Prod.fst x) 0) (ifB (ltI (Prod.fst x) 0) none (ifB (roomA 1 (Prod.snd x) [eqI (wand IntKind.i64 (wshr IntKind.i64 n (Prod.fst x)) 1) 1])
        (some (Sum.inl (wsub IntKind.i64 (Prod.fst x) 1, cat (Prod.snd x) [eqI (wand IntKind.i64 (wshr IntKind.i64 n (Prod.fst x)) 1) 1]))) none)) (mapO Sum.inr (some (Prod.snd x, (0 : Int)))))
      (G := fun x => some (x.2 ++ (bitsN w.toNat n).drop (w - 1 - x.1).toNat, 0)) (P := fun x => -1 ≤ x.1 ∧ x.1 ≤ w - 1 ∧ (x.2.length : Int) ≤ l.length + (w - 1 - x.1)) (μ := fun x => (x.1 + 1).toNat) ?_ maxR (w - 1, l) ⟨by show -1 ≤ w - 1; omega, by show w - 1 ≤ w - 1; omega, by show (l.length : Int) ≤ l.length + (w - 1 - (w - 1)); omega⟩ (by show (w - 1 + 1).toNat < maxR; unfold maxR; omega)
    · rw [key]
      simp
    · rintro ⟨k, acc⟩ ⟨h0, h1, h2⟩ K hk
      simp only at h0 h1 h2
      simp only [stepK_none, stepK_inl, stepK_inr, stepK_map, stepK_if, stepK_bind, ifB_t, ifB_f, ifB_same, ifB_ltI, ifB_leI, ifB_gtI, ifB_geI, ifB_eqI, ifB_neI, ifB_not, ifB_and, ifB_eqB, ifB_isE, ifB_in1, ifB_in2, ifB_in1N, ifB_in2N, ifB_in1C, ifB_in2C, ifB_inN, ifB_ltL, ifB_ltN, ifB_roomA, ifB_roomI, ifB_roomZ, ifB_roomS, ifB_eqS, ifB_eqL, ifB_fits, bindO_some, bindO_none, mapO_some, mapO_none, lenI_eq, lenN_eq, cat_eq, takeI_eq, dropI_eq, sliI_eq, setN_eq, natI_eq, intN_eq, List.length_cons, List.length_nil]
      by_cases hk0 : 0 ≤ k
      · rw [if_pos hk0, if_neg (by omega), if_pos ⟨by omega, by omega⟩, bit_eq (by omega) hn ⟨hk0, by omega⟩, wsub_in ⟨by omega, by omega⟩]
        rw [hk _ ⟨by show -1 ≤ k - 1; omega, by show k - 1 ≤ w - 1; omega, by show (((acc ++ [bitAt n k.toNat]).length : Nat) : Int) ≤ l.length + (w - 1 - (k - 1)); rw [List.length_append, List.length_cons, List.length_nil]; omega⟩ (by show (k - 1 + 1).toNat < (k + 1).toNat; omega)]
        have hlt : (w - 1 - k).toNat < (bitsN w.toNat n).length := by rw [bitsN_len]; omega
        show some (acc ++ [bitAt n k.toNat] ++ (bitsN w.toNat n).drop (w - 1 - (k - 1)).toNat, (0 : Int)) = some (acc ++ (bitsN w.toNat n).drop (w - 1 - k).toNat, 0)
        rw [drop_cons hlt, bitsN_get (by omega), show (w - 1 - (k - 1)).toNat = (w - 1 - k).toNat + 1 by omega, show w.toNat - 1 - (w - 1 - k).toNat = k.toNat by omega]
        simp
      · rw [if_neg hk0, List.drop_of_length_le (by rw [bitsN_len]; omega), List.append_nil]
  · rw [if_neg hs, if_neg (by intro hc; exact hs ((shr_zero (by omega)).2 hc.2.2.2))]

theorem read_eq (l : List Bool) (w : Int) (hl : l.length ≤ 140737488355328) : F_bits_Read l w = some (readR l w) := by
  unfold F_bits_Read readR
  rw [ifB_ltI, ifB_gtI, ifB_ltI, ifB_in1, lenI_eq]
  by_cases hw0 : w < 0
  · rw [if_pos hw0, if_pos (by omega)]
  rw [if_neg hw0]
  by_cases hw1 : 40 < w
  · rw [if_pos hw1, if_pos (by omega)]
  rw [if_neg hw1, if_neg (show ¬ (w < 0 ∨ w > 40) by omega)]
  by_cases hw2 : (l.length : Int) < w
  · rw [if_pos hw2, if_pos hw2]
  rw [if_neg hw2, if_neg hw2, if_pos ⟨by omega, by omega⟩, takeI_eq]
  have hlen : (l.take w.toNat).length = w.toNat := by rw [List.length_take]; omega
  generalize l.take w.toNat = a at hlen
  show _ = some (a.foldl (fun n b => 2 * n + (if b then 1 else 0)) (0 : Int), (0 : Int))
  refine loop_range a (fun j (s : Int) => (s, (j : Int))) (G := fun rest (s : Int) => some (rest.foldl (fun (n : Int) b => 2 * n + (if b then 1 else 0)) s, (0 : Int))) (P := fun j s => 0 ≤ s ∧ s < 2 ^ j) ?_ ?_ (s0 := 0) ⟨by omega, by decide⟩ (by omega)
  · rintro j s hj ⟨h0, h1⟩ k hk
    have h2 := (pow40 (k := j) (by omega)).2
    have h3 : (2 : Int) ^ (j + 1) = 2 ^ j * 2 := Int.pow_succ _ _
    simp only [stepK_none, stepK_inl, stepK_inr, stepK_map, stepK_if, stepK_bind, ifB_t, ifB_f, ifB_same, ifB_ltI, ifB_leI, ifB_gtI, ifB_geI, ifB_eqI, ifB_neI, ifB_not, ifB_and, ifB_eqB, ifB_isE, ifB_in1, ifB_in2, ifB_in1N, ifB_in2N, ifB_in1C, ifB_in2C, ifB_inN, ifB_ltL, ifB_ltN, ifB_roomA, ifB_roomI, ifB_roomZ, ifB_roomS, ifB_eqS, ifB_eqL, ifB_fits, bindO_some, bindO_none, mapO_some, mapO_none, lenI_eq, lenN_eq, cat_eq, takeI_eq, dropI_eq, sliI_eq, setN_eq, natI_eq, intN_eq, stepK_ifB]
    rw [if_pos (by omega), atI_nat hj, bindO_some, wadd_nat (by omega), wmul_in ⟨by omega, by omega⟩]
    rw [wadd_in ⟨by omega, by omega⟩, hk _ ⟨by omega, by omega⟩, hk _ ⟨by omega, by omega⟩, List.foldl_cons, ifB_if]
    cases a.getD j default <;> simp [Int.mul_comm]
  · rintro s ⟨h0, h1⟩ k
    simp only [stepK_none, stepK_inl, stepK_inr, stepK_map, stepK_if, stepK_bind, ifB_t, ifB_f, ifB_same, ifB_ltI, ifB_leI, ifB_gtI, ifB_geI, ifB_eqI, ifB_neI, ifB_not, ifB_and, ifB_eqB, ifB_isE, ifB_in1, ifB_in2, ifB_in1N, ifB_in2N, ifB_in1C, ifB_in2C, ifB_inN, ifB_ltL, ifB_ltN, ifB_roomA, ifB_roomI, ifB_roomZ, ifB_roomS, ifB_eqS, ifB_eqL, ifB_fits, bindO_some, bindO_none, mapO_some, mapO_none, lenI_eq, lenN_eq, cat_eq, takeI_eq, dropI_eq, sliI_eq, setN_eq, natI_eq, intN_eq]
    rw [if_neg (by omega)]
    rfl
theorem take_eq (l : List Bool) (w : Int) (hl : l.length ≤ 140737488355328) : F_bits_Take l w = some (takeR l w) := by
  unfold F_bits_Take
  rw [read_eq l w hl, bindO_some, ifB_neI, takeR_eq]
  by_cases h : (readR l w).2 = 0
  · obtain ⟨h0, h1, h2, h3⟩ := readR_ok h
    rw [if_pos h, if_pos h, ifB_in1, if_pos ⟨h0, h2⟩, dropI_eq, cloneB_eq (by rw [List.length_drop]; omega), bindO_some, h]
  · rw [if_neg h, if_neg h, readR_bad h]
end Go.Proofs.Y
namespace Go.Proofs.Y
open Go.Rb Go.Kx
noncomputable def C_zig_Read : Code := bodyOf Try.f98
noncomputable def G_zig_Read : FuncId → Option GS := tabG [(94, R_bits_Read)]
theorem g_zig_Read : ΓOK Try.prog G_zig_Read := ΓOK_cons (R_bits_Read_ok) (ΓOK_nil)
def H_zig_Read : HT := ⟨tabL [(3, .it [] (dyn [.t 5 (.int .i64), .t 6 (.int .i64), .t 10 (.int .i64)]))], tabH []⟩
abbrev is_zig_Read : List IT := [.v (.one (.sl 4 (.one .bool))) false]
abbrev os_zig_Read : List OT := [⟨.one (.int .i64), false, []⟩, ⟨.one (.int .i64), false, []⟩, ⟨.one (.int .i64), false, []⟩]
set_option maxRecDepth 100000
noncomputable def F_zig_Read : List Bool → Option (Int × Int × Int) := fun (a : List Bool) => loopN maxR (fun (x : Int × Int × Int) => ifB (ltI x.2.2 8) (ifB (in1 a (minI (lenI a) (wmul .i64 4 x.2.2))) (bindO (F_bits_Read (dropI a (minI (lenI a) (wmul .i64 4 x.2.2))) 4) fun (y : Int × Int) => ifB (neI y.2 0) (mapO Sum.inr (some (0, 0, y.2))) (ifB (eqI y.1 0) (ifB (gtI x.2.2 0) (mapO Sum.inr (some (0, 0, 4))) (ifB (gtI (wadd .i64 x.1 (wmul .i64 (wrem y.1 8) x.2.1)) 8000000) (mapO Sum.inr (some (0, 0, 3))) (ifB (ltI y.1 8) (ifB (eqI (wrem (wadd .i64 x.1 (wmul .i64 (wrem y.1 8) x.2.1)) 2) 1) (mapO Sum.inr (some (wquo .i64 (wneg .i64 (wadd .i64 (wadd .i64 x.1 (wmul .i64 (wrem y.1 8) x.2.1)) 1)) 2, wadd .i64 (wmul .i64 4 x.2.2) 4, 0))) (mapO Sum.inr (some (wquo .i64 (wadd .i64 x.1 (wmul .i64 (wrem y.1 8) x.2.1)) 2, wadd .i64 (wmul .i64 4 x.2.2) 4, 0)))) (some (Sum.inl (wadd .i64 x.1 (wmul .i64 (wrem y.1 8) x.2.1), wmul .i64 x.2.1 8, wadd .i64 x.2.2 1)))))) (ifB (gtI (wadd .i64 x.1 (wmul .i64 (wrem y.1 8) x.2.1)) 8000000) (mapO Sum.inr (some (0, 0, 3))) (ifB (ltI y.1 8) (ifB (eqI (wrem (wadd .i64 x.1 (wmul .i64 (wrem y.1 8) x.2.1)) 2) 1) (mapO Sum.inr (some (wquo .i64 (wneg .i64 (wadd .i64 (wadd .i64 x.1 (wmul .i64 (wrem y.1 8) x.2.1)) 1)) 2, wadd .i64 (wmul .i64 4 x.2.2) 4, 0))) (mapO Sum.inr (some (wquo .i64 (wadd .i64 x.1 (wmul .i64 (wrem y.1 8) x.2.1)) 2, wadd .i64 (wmul .i64 4 x.2.2) 4, 0)))) (some (Sum.inl (wadd .i64 x.1 (wmul .i64 (wrem y.1 8) x.2.1), wmul .i64 x.2.1 8, wadd .i64 x.2.2 1))))))) none) (mapO Sum.inr (some (0, 0, 3)))) (0, 1, 0)
theorem F_zig_Read_eq (x : PI is_zig_Read) : F_zig_Read x = fnE T G_zig_Read H_zig_Read C_zig_Read (resOf Try.f98) is_zig_Read os_zig_Read x := by kernel_rfl
noncomputable abbrev R_zig_Read : GS := mkSpec false is_zig_Read os_zig_Read fun x => F_zig_Read x
theorem R_zig_Read_ok : GSOK Try.prog 98 R_zig_Read := spec_ok tok g_zig_Read fmo (Ht := H_zig_Read) (fn := Try.f98) (Try.func98) (c := C_zig_Read) (by kernel_rfl) (by kernel_rfl) (by kernel_rfl) (by decide +kernel) (by decide) F_zig_Read_eq
end Go.Proofs.Y
namespace Go.Proofs.Y
open Go.Rb Go.Kx
noncomputable def C_zig_Take : Code := bodyOf Try.f40
noncomputable def G_zig_Take : FuncId → Option GS := tabG [(98, R_zig_Read), (93, R_cloneB)]
theorem g_zig_Take : ΓOK Try.prog G_zig_Take := ΓOK_cons (R_zig_Read_ok) (ΓOK_cons (R_cloneB_ok) (ΓOK_nil))
def H_zig_Take : HT := ⟨tabL [], tabH []⟩
abbrev is_zig_Take : List IT := [.v (.one (.sl 4 (.one .bool))) false]
abbrev os_zig_Take : List OT := [⟨.one (.int .i64), false, []⟩, ⟨.one (.sl 4 (.one .bool)), false, []⟩, ⟨.one (.int .i64), false, []⟩]
set_option maxRecDepth 100000
noncomputable def F_zig_Take : List Bool → Option (Int × List Bool × Int) := fun (a : List Bool) => bindO (F_zig_Read a) fun (y : Int × Int × Int) => ifB (neI y.2.2 0) (some (0, [], y.2.2)) (ifB (in1 a y.2.1) (bindO (F_cloneB (dropI a y.2.1)) fun (y_1 : List Bool) => some (y.1, y_1, 0)) none)
theorem F_zig_Take_eq (x : PI is_zig_Take) : F_zig_Take x = fnE T G_zig_Take H_zig_Take C_zig_Take (resOf Try.f40) is_zig_Take os_zig_Take x := by kernel_rfl
noncomputable abbrev R_zig_Take : GS := mkSpec false is_zig_Take os_zig_Take fun x => F_zig_Take x
theorem R_zig_Take_ok : GSOK Try.prog 40 R_zig_Take := spec_ok tok g_zig_Take fmo (Ht := H_zig_Take) (fn := Try.f40) (Try.func40) (c := C_zig_Take) (by kernel_rfl) (by kernel_rfl) (by kernel_rfl) (by decide +kernel) (by decide) F_zig_Take_eq
end Go.Proofs.Y
namespace Go.Proofs.Y
open Go.Rb Go.Kx
noncomputable def C_zig_fold : Code := bodyOf Try.f97
noncomputable def G_zig_fold : FuncId → Option GS := tabG []
theorem g_zig_fold : ΓOK Try.prog G_zig_fold := ΓOK_nil
def H_zig_fold : HT := ⟨tabL [], tabH []⟩
abbrev is_zig_fold : List IT := [.v (.one (.int .i64)) false]
abbrev os_zig_fold : List OT := [⟨.one (.int .i64), false, []⟩]
set_option maxRecDepth 100000
noncomputable def F_zig_fold : Int → Option Int := fun (a : Int) => ifB (ltI a 0) (some (wsub .i64 (wmul .i64 (-2) a) 1)) (some (wmul .i64 2 a))
theorem F_zig_fold_eq (x : PI is_zig_fold) : F_zig_fold x = fnE T G_zig_fold H_zig_fold C_zig_fold (resOf Try.f97) is_zig_fold os_zig_fold x := by kernel_rfl
noncomputable abbrev R_zig_fold : GS := mkSpec false is_zig_fold os_zig_fold fun x => F_zig_fold x
theorem R_zig_fold_ok : GSOK Try.prog 97 R_zig_fold := spec_ok tok g_zig_fold fmo (Ht := H_zig_fold) (fn := Try.f97) (Try.func97) (c := C_zig_fold) (by kernel_rfl) (by kernel_rfl) (by kernel_rfl) (by decide +kernel) (by decide) F_zig_fold_eq
end Go.Proofs.Y
namespace Go.Proofs.Y
open Go.Rb Go.Kx
noncomputable def C_zig_Put : Code := bodyOf Try.f39
noncomputable def G_zig_Put : FuncId → Option GS := tabG [(97, R_zig_fold), (32, R_bits_Put)]
theorem g_zig_Put : ΓOK Try.prog G_zig_Put := ΓOK_cons (R_zig_fold_ok) (ΓOK_cons (R_bits_Put_ok) (ΓOK_nil))
def H_zig_Put : HT := ⟨tabL [(4, .it [] (dyn [.t 0 (.sl 4 (.one .bool)), .t 6 (.int .i64)]))], tabH []⟩
abbrev is_zig_Put : List IT := [.v (.one (.sl 4 (.one .bool))) false, .v (.one (.int .i64)) false]
abbrev os_zig_Put : List OT := [⟨.one (.sl 4 (.one .bool)), false, []⟩, ⟨.one (.int .i64), false, []⟩]
set_option maxRecDepth 100000
noncomputable def F_zig_Put : List Bool → Int → Option (List Bool × Int) := fun (a : List Bool) (b : Int) => ifB (ltI b (-4000000)) (some ([], 3)) (ifB (gtI b 4000000) (some ([], 3)) (bindO (F_zig_fold b) fun (y : Int) => loopN maxR (fun (x : List Bool × Int) => ifB (geI x.2 8) (bindO (F_bits_Put x.1 (wadd .i64 8 (wrem x.2 8)) 4) fun (y : List Bool × Int) => some (Sum.inl (y.1, wquo .i64 x.2 8))) (bindO (F_bits_Put x.1 (wadd .i64 0 (wrem x.2 8)) 4) fun (y : List Bool × Int) => mapO Sum.inr (some (y.1, 0)))) (a, y)))
theorem F_zig_Put_eq (x : PI is_zig_Put) : F_zig_Put (x.1) (x.2) = fnE T G_zig_Put H_zig_Put C_zig_Put (resOf Try.f39) is_zig_Put os_zig_Put x := by kernel_rfl
noncomputable abbrev R_zig_Put : GS := mkSpec false is_zig_Put os_zig_Put fun x => F_zig_Put (x.1) (x.2)
theorem R_zig_Put_ok : GSOK Try.prog 39 R_zig_Put := spec_ok tok g_zig_Put fmo (Ht := H_zig_Put) (fn := Try.f39) (Try.func39) (c := C_zig_Put) (by kernel_rfl) (by kernel_rfl) (by kernel_rfl) (by decide +kernel) (by decide) F_zig_Put_eq
end Go.Proofs.Y
namespace Go.Proofs.Y
open Go.Rb Go.Kx
theorem wrem8 {n : Int} (h : 0 ≤ n) : wrem n 8 = n % 8 := by unfold wrem; exact Int.tmod_eq_emod_of_nonneg h
theorem wrem2 {n : Int} (h : 0 ≤ n) : wrem n 2 = n % 2 := by unfold wrem; exact Int.tmod_eq_emod_of_nonneg h
theorem wquo8 {n : Int} (h : 0 ≤ n) (h1 : n ≤ 9223372036854775807) : wquo .i64 n 8 = n / 8 := by
  unfold wquo; rw [Int.tdiv_eq_ediv_of_nonneg h]; exact wr_id (by omega) (by omega)
theorem fold_eq {v : Int} (h : -4000000 ≤ v ∧ v ≤ 4000000) : F_zig_fold v = some (foldN v) := by
  unfold F_zig_fold foldN
  rw [ifB_ltI]
  split
  · rw [wmul_in ⟨by omega, by omega⟩, wsub_in ⟨by omega, by omega⟩]
  · rw [wmul_in ⟨by omega, by omega⟩]
theorem zenc_up : ∀ (f : Nat) (m : Int), 1 ≤ f → 0 ≤ m → m < 8 ^ f → zenc (f + 1) m = zenc f m
  | 0, m, h, _, _ => absurd h (by omega)
  | f + 1, m, _, h0, h1 => by
    by_cases h8 : m < 8
    · rw [zenc_last (by omega) h8, zenc_last (by omega) h8]
    · have h2 := div8_lt (f := f + 1) h1 (by omega)
      rw [zenc_more (f := f + 2) (by omega) (by omega), zenc_more (f := f + 1) (by omega) (by omega)]
      exact congrArg _ (zenc_up f (m / 8) (by omega) (by omega) h2.2)
theorem zput_eq (l : List Bool) (v : Int) (hl : l.length ≤ 140737488355100) : F_zig_Put l v = some (zputR l v) := by
  unfold F_zig_Put zputR
  rw [ifB_ltI, ifB_gtI]
  by_cases h0 : v < -4000000
  · rw [if_pos h0, if_pos (.inl h0)]
  rw [if_neg h0]
  by_cases h1 : 4000000 < v
  · rw [if_pos h1, if_pos (.inr h1)]
  rw [if_neg h1, if_neg (show ¬ (v < -4000000 ∨ v > 4000000) by omega), fold_eq ⟨by omega, by omega⟩, bindO_some]
  have hf := foldN_or v
  refine loop_ind (G := fun x => some (x.1 ++ zenc 8 x.2, (0 : Int))) (P := fun (x : List Bool × Int) => 0 ≤ x.2 ∧ ∃ f, 1 ≤ f ∧ f ≤ 8 ∧ x.2 < 8 ^ f ∧ x.1.length ≤ l.length + 4 * (8 - f)) (μ := fun x => x.2.toNat) ?_ maxR (l, foldN v) ⟨by show 0 ≤ foldN v; omega, 8, by omega, by omega, by show foldN v < 8 ^ 8; omega, by show l.length ≤ _; omega⟩ (by show (foldN v).toNat < maxR; unfold maxR; omega)
  rintro ⟨acc, n⟩ ⟨g0, f, g1, g2, g3, g4⟩ k hk
  simp only at g0 g3 g4
  have h8 := (pow8 g2).2
  simp only [stepK_none, stepK_inl, stepK_inr, stepK_map, stepK_if, stepK_bind, ifB_t, ifB_f, ifB_same, ifB_ltI, ifB_leI, ifB_gtI, ifB_geI, ifB_eqI, ifB_neI, ifB_not, ifB_and, ifB_eqB, ifB_isE, ifB_in1, ifB_in2, ifB_in1N, ifB_in2N, ifB_in1C, ifB_in2C, ifB_inN, ifB_ltL, ifB_ltN, ifB_roomA, ifB_roomI, ifB_roomZ, ifB_roomS, ifB_eqS, ifB_eqL, ifB_fits, bindO_some, bindO_none, mapO_some, mapO_none, lenI_eq, lenN_eq, cat_eq, takeI_eq, dropI_eq, sliI_eq, setN_eq, natI_eq, intN_eq]
  rw [wrem8 g0, wadd_in ⟨by omega, by omega⟩, wadd_in ⟨by omega, by omega⟩, put_eq _ _ _ (by omega) (by omega), put_eq _ _ _ (by omega) (by omega), bindO_some, bindO_some, (putm g0).1, (putm g0).2, wquo8 g0 (by omega)]
  split
  · rename_i hge
    have hd := div8_lt g3 hge
    rw [hk _ ⟨by show 0 ≤ n / 8; omega, f - 1, by omega, by omega, hd.2, by show (acc ++ bitsN 4 (8 + n % 8)).length ≤ _; rw [List.length_append, bitsN_len]; omega⟩ (by show (n / 8).toNat < n.toNat; omega)]
    show some (acc ++ bitsN 4 (8 + n % 8) ++ zenc 8 (n / 8), (0 : Int)) = _
    rw [zenc_more (f := 8) (m := n) (by omega) hge, List.append_assoc]
    congr 4
    refine (zenc_up 7 (n / 8) (by omega) (by omega) ?_).trans rfl
    have : n < 8 ^ 8 := by have : (8 : Int) ^ 8 = 16777216 := by decide
                           omega
    show n / 8 < 8 ^ 7
    omega
  · rename_i hlt
    show some (acc ++ bitsN 4 (0 + n % 8), (0 : Int)) = _
    rw [zenc_last (f := 8) (m := n) (by omega) (by omega)]

theorem zread_eq (l : List Bool) (hl : l.length ≤ 140737488355328) : F_zig_Read l = some (zreadR l) := by
  unfold F_zig_Read zreadR
  refine loop_ind (G := fun (x : Int × Int × Int) => some (zread (8 - x.2.2.toNat) x.2.2.toNat x.1 x.2.1 (l.drop (4 * x.2.2.toNat)))) (P := fun (x : Int × Int × Int) => 0 ≤ x.2.2 ∧ x.2.2 ≤ 8 ∧ 0 ≤ x.1 ∧ x.1 ≤ 8000000 ∧ x.2.1 = 8 ^ x.2.2.toNat) (μ := fun x => 8 - x.2.2.toNat) ?_ maxR (0, 1, 0) ⟨by decide, by decide, by decide, by decide, by decide⟩ (by decide)
  rintro ⟨n, sc, kk⟩ ⟨g0, g1, g2, g3, g4⟩ K hk
  simp only at g0 g1 g2 g3 g4
  obtain ⟨k, rfl⟩ : ∃ k : Nat, kk = k := ⟨kk.toNat, by omega⟩
  rw [Int.toNat_natCast] at g4
  have hp := pow8 (k := k) (by omega)
  have hmin : minI (lenI l) (wmul .i64 4 (k : Int)) = min (l.length : Int) (4 * k) := by
    rw [wmul_in ⟨by omega, by omega⟩]; rfl
  have hdrop : dropI l (minI (lenI l) (wmul .i64 4 (k : Int))) = l.drop (4 * k) := by
    rw [hmin, dropI_eq]
    by_cases h : (l.length : Int) ≤ 4 * k
    · rw [List.drop_of_length_le (by omega), List.drop_of_length_le (by omega)]
    · congr 1; omega
  have hin : in1 l (minI (lenI l) (wmul .i64 4 (k : Int))) = true := by
    rw [hmin, in1, ← Bool.decide_and]; exact decide_eq_true ⟨by omega, by omega⟩
  have hrd := read_eq (l.drop (4 * k)) 4 (by rw [List.length_drop]; omega)
  have h4 : wadd .i64 (wmul .i64 4 (k : Int)) 4 = 4 * (k : Int) + 4 := by rw [wmul_in ⟨by omega, by omega⟩, wadd_in ⟨by omega, by omega⟩]
  simp only [hin, hdrop, hrd, h4, ifB_t, bindO_some, Int.toNat_natCast]
  simp only [stepK_ifB, stepK_map, stepK_inl, stepK_bind]
  rw [ifB_ltI]
  by_cases h8 : (k : Int) < 8
  · rw [if_pos h8]
    rcases rd4 (l.drop (4 * k)) with ⟨r1, r2, r3⟩ | ⟨r1, r2, r3, r4, r5⟩
    · rw [ifB_neI, r3, if_neg (by decide), zr_torn (by omega) r1]
    · rw [ifB_neI, r3, if_pos rfl]
      generalize hx : (readR (List.drop (4 * k) l) 4).fst = x at *
      have hm := mul_bd (a := x % 8) (b := sc) (c := 16777216) (by omega) (by omega) (by omega) (by omega)
      have hsc : sc ≤ 2097152 := by
        rw [g4]
        exact (by decide : ∀ k : Fin 8, (8 : Int) ^ k.val ≤ 2097152) ⟨k, by omega⟩
      rw [wrem8 r4, wmul_in ⟨by omega, by omega⟩, wadd_in ⟨by omega, by omega⟩, wmul_in (a := sc) (b := 8) ⟨by omega, by omega⟩, wadd_nat (by omega)]
      have hmm := mul_bd (a := x % 8) (b := sc) (c := 2097152) (by omega) (by omega) (by omega) hsc
      generalize hN : n + x % 8 * sc = N at *
      have hwa : wadd .i64 N 1 = N + 1 := wadd_in ⟨by omega, by omega⟩
      have hwn : wneg .i64 (N + 1) = 0 - (N + 1) := wneg_in ⟨by omega, by omega⟩
      rw [hwa, hwn, wrem2 (by omega)]
      -- what is read
      have tail : ¬ (x = 0 ∧ 0 < k) → ifB (gtI N 8000000) (some (0, 0, 3)) (ifB (ltI x 8) (ifB (eqI (N % 2) 1) (some (wquo IntKind.i64 (0 - (N + 1)) 2, 4 * (k : Int) + 4, 0)) (some (wquo IntKind.i64 N 2, 4 * (k : Int) + 4, 0))) (K (N, sc * 8, ((k + 1 : Nat) : Int)))) =
          some (zread (8 - k) k n sc (List.drop (4 * k) l)) := by
        intro hnf
        rw [ifB_gtI]
        by_cases hr : 8000000 < N
        · rw [if_pos hr, zr_range (by omega) r1 (by rw [hx]; exact hnf) (by rw [hx, hN]; exact hr)]
        rw [if_neg hr, ifB_ltI]
        by_cases hd : x < 8
        · rw [if_pos hd, zr_done (by omega) r1 (by rw [hx]; exact hnf) (by rw [hx, hN]; omega) (by rw [hx]; exact hd), hx, hN, ifB_eqI]
          rcases unf_or (n := N) (by omega) with ⟨u1, u2, u3⟩ | ⟨u1, u2, u3⟩
          · rw [if_pos u1]
            unfold wquo
            rw [u3, wr_id (by omega) (by omega)]
          · rw [if_neg (by omega)]
            unfold wquo
            rw [u3, wr_id (by omega) (by omega)]
        · rw [if_neg hd, zr_next (by omega) r1 (by rw [hx]; exact hnf) (by rw [hx, hN]; omega) (by rw [hx]; exact hd), hx, hN]
          rw [hk _ ⟨by show (0 : Int) ≤ ((k + 1 : Nat) : Int); omega, by show ((k + 1 : Nat) : Int) ≤ 8; omega, by show 0 ≤ N; omega, by show N ≤ 8000000; omega, by show sc * 8 = 8 ^ (((k + 1 : Nat) : Int)).toNat; rw [Int.toNat_natCast, g4, Int.pow_succ]⟩ (by show 8 - (((k + 1 : Nat) : Int)).toNat < 8 - ((k : Int)).toNat; omega)]
          simp only [Int.toNat_natCast, List.drop_drop]
          rfl
      rw [ifB_eqI]
      by_cases h0 : x = 0
      · rw [if_pos h0, ifB_gtI]
        by_cases hk0 : (0 : Int) < k
        · rw [if_pos hk0, zr_form (by omega) r1 (by rw [hx]; exact h0) (by omega)]
        · rw [if_neg hk0]; exact tail (by omega)
      · rw [if_neg h0]; exact tail (by omega)
  · rw [if_neg h8]
    have : k = 8 := by omega
    subst this
    rfl
end Go.Proofs.Y
namespace Go.Proofs.Y
open Go.Rb Go.Kx
noncomputable def C_rainbookref_in : Code := bodyOf Try.f95
noncomputable def G_rainbookref_in : FuncId → Option GS := tabG []
theorem g_rainbookref_in : ΓOK Try.prog G_rainbookref_in := ΓOK_nil
def H_rainbookref_in : HT := ⟨tabL [], tabH []⟩
abbrev is_rainbookref_in : List IT := [.v (.one (.int .i64)) false, .v (.one (.int .i64)) false, .v (.one (.int .i64)) false]
abbrev os_rainbookref_in : List OT := [⟨.one .bool, false, []⟩]
set_option maxRecDepth 100000
noncomputable def F_rainbookref_in : Int → Int → Int → Option Bool := fun (a b c : Int) => ifB (leI b a) (some (leI a c)) (some false)
theorem F_rainbookref_in_eq (x : PI is_rainbookref_in) : F_rainbookref_in (x.1) (x.2.1) (x.2.2) = fnE T G_rainbookref_in H_rainbookref_in C_rainbookref_in (resOf Try.f95) is_rainbookref_in os_rainbookref_in x := by kernel_rfl
noncomputable abbrev R_rainbookref_in : GS := mkSpec false is_rainbookref_in os_rainbookref_in fun x => F_rainbookref_in (x.1) (x.2.1) (x.2.2)
theorem R_rainbookref_in_ok : GSOK Try.prog 95 R_rainbookref_in := spec_ok tok g_rainbookref_in fmo (Ht := H_rainbookref_in) (fn := Try.f95) (Try.func95) (c := C_rainbookref_in) (by kernel_rfl) (by kernel_rfl) (by kernel_rfl) (by decide +kernel) (by decide) F_rainbookref_in_eq
end Go.Proofs.Y
namespace Go.Proofs.Y
open Go.Rb Go.Kx
noncomputable def C_rainbookref_Coded : Code := bodyOf Try.f41
noncomputable def G_rainbookref_Coded : FuncId → Option GS := tabG [(95, R_rainbookref_in), (93, R_cloneB)]
theorem g_rainbookref_Coded : ΓOK Try.prog G_rainbookref_Coded := ΓOK_cons (R_rainbookref_in_ok) (ΓOK_cons (R_cloneB_ok) (ΓOK_nil))
def H_rainbookref_Coded : HT := ⟨tabL [(8, .it [] (dyn [.t 6 (.int .i64), .a 7 3 (.one (.int .i64)), .t 8 (.bool)])), (14, .it [] (dyn [.a 9 4 (.one .bool), .t 39 (.int .i64)]))], tabH []⟩
abbrev is_rainbookref_Coded : List IT := [.v (.one (.sl 4 (.one .bool))) false, .v (.one (.int .i64)) false]
abbrev os_rainbookref_Coded : List OT := [⟨.one (.sl 4 (.one .bool)), false, []⟩, ⟨.one (.int .i64), false, []⟩]
set_option maxRecDepth 100000
noncomputable def F_rainbookref_Coded : List Bool → Int → Option (List Bool × Int) := fun (a : List Bool) (b : Int) => bindO (F_rainbookref_in b (-4000000) 4000000) fun (y : Bool) => ifB (notB y) (some ([], 3)) (ifB (ltI b 0) (loopN maxR (fun (x : Int × Bool × List Int) => ifB x.2.1 (ifB (roomA 8 x.2.2 [wrem x.1 8]) (some (Sum.inl (wquo .i64 x.1 8, false, cat x.2.2 [wrem x.1 8]))) none) (ifB (gtI x.1 0) (ifB (roomA 8 x.2.2 [wrem x.1 8]) (some (Sum.inl (wquo .i64 x.1 8, false, cat x.2.2 [wrem x.1 8]))) none) (mapO Sum.inr (bindO (F_cloneB a) fun (y : List Bool) => loopN maxR (fun (x_1 : Int × List Bool) => ifB (ltI x_1.1 (lenI x.2.2)) (ifB (ltL x_1.1 x.2.2) (bindO (atN x.2.2 (natI x_1.1)) fun (y : Int) => ifB (roomA 1 x_1.2 [ltI x_1.1 (wsub .i64 (lenI x.2.2) 1), geI y 4, geI (wrem y 4) 2, eqI (wrem y 2) 1]) (some (Sum.inl (wadd .i64 x_1.1 1, cat x_1.2 [ltI x_1.1 (wsub .i64 (lenI x.2.2) 1), geI y 4, geI (wrem y 4) 2, eqI (wrem y 2) 1]))) none) none) (mapO Sum.inr (some (x_1.2, 0)))) (0, y))))) (wsub .i64 (wmul .i64 2 (wneg .i64 b)) 1, true, [])) (loopN maxR (fun (x : Int × Bool × List Int) => ifB x.2.1 (ifB (roomA 8 x.2.2 [wrem x.1 8]) (some (Sum.inl (wquo .i64 x.1 8, false, cat x.2.2 [wrem x.1 8]))) none) (ifB (gtI x.1 0) (ifB (roomA 8 x.2.2 [wrem x.1 8]) (some (Sum.inl (wquo .i64 x.1 8, false, cat x.2.2 [wrem x.1 8]))) none) (mapO Sum.inr (bindO (F_cloneB a) fun (y : List Bool) => loopN maxR (fun (x_1 : Int × List Bool) => ifB (ltI x_1.1 (lenI x.2.2)) (ifB (ltL x_1.1 x.2.2) (bindO (atN x.2.2 (natI x_1.1)) fun (y : Int) => ifB (roomA 1 x_1.2 [ltI x_1.1 (wsub .i64 (lenI x.2.2) 1), geI y 4, geI (wrem y 4) 2, eqI (wrem y 2) 1]) (some (Sum.inl (wadd .i64 x_1.1 1, cat x_1.2 [ltI x_1.1 (wsub .i64 (lenI x.2.2) 1), geI y 4, geI (wrem y 4) 2, eqI (wrem y 2) 1]))) none) none) (mapO Sum.inr (some (x_1.2, 0)))) (0, y))))) (wmul .i64 2 b, true, [])))
theorem F_rainbookref_Coded_eq (x : PI is_rainbookref_Coded) : F_rainbookref_Coded (x.1) (x.2) = fnE T G_rainbookref_Coded H_rainbookref_Coded C_rainbookref_Coded (resOf Try.f41) is_rainbookref_Coded os_rainbookref_Coded x := by kernel_rfl
noncomputable abbrev R_rainbookref_Coded : GS := mkSpec false is_rainbookref_Coded os_rainbookref_Coded fun x => F_rainbookref_Coded (x.1) (x.2)
theorem R_rainbookref_Coded_ok : GSOK Try.prog 41 R_rainbookref_Coded := spec_ok tok g_rainbookref_Coded fmo (Ht := H_rainbookref_Coded) (fn := Try.f41) (Try.func41) (c := C_rainbookref_Coded) (by kernel_rfl) (by kernel_rfl) (by kernel_rfl) (by decide +kernel) (by decide) F_rainbookref_Coded_eq
end Go.Proofs.Y
namespace Go.Proofs.Y
open Go.Rb Go.Kx
noncomputable def C_rainbookref_Decoded : Code := bodyOf Try.f42
noncomputable def G_rainbookref_Decoded : FuncId → Option GS := tabG []
theorem g_rainbookref_Decoded : ΓOK Try.prog G_rainbookref_Decoded := ΓOK_nil
def H_rainbookref_Decoded : HT := ⟨tabL [(4, .it [] (dyn [.t 0 (.sl 4 (.one .bool)), .t 5 (.int .i64), .t 6 (.int .i64), .t 7 (.int .i64)])), (10, .it [] (dyn [.t 8 (.int .i64), .t 22 (.int .i64)]))], tabH []⟩
abbrev is_rainbookref_Decoded : List IT := [.v (.one (.sl 4 (.one .bool))) false]
abbrev os_rainbookref_Decoded : List OT := [⟨.one (.int .i64), false, []⟩, ⟨.one (.sl 4 (.one .bool)), false, []⟩, ⟨.one (.int .i64), false, []⟩]
set_option maxRecDepth 100000
noncomputable def F_rainbookref_Decoded : List Bool → Option (Int × List Bool × Int) := fun (a : List Bool) => loopN maxR (fun (x : List Bool × Int × Int × Int) => ifB (eqI x.2.2.2 8) (mapO Sum.inr (some (0, [], 3))) (ifB (ltI (lenI x.1) 4) (mapO Sum.inr (some (0, [], 8))) (ifB (in2 x.1 1 4) (loopN maxR (fun (x_1 : Int × Int) => ifB (ltI x_1.2 (lenI (sliI x.1 1 4))) (bindO (atI (sliI x.1 1 4) x_1.2) fun (y : Bool) => ifB y (ifB (ltI x_1.2 0) none (some (Sum.inl (wadd .i64 x_1.1 (wshr .i64 4 x_1.2), wadd .i64 x_1.2 1)))) (some (Sum.inl (x_1.1, wadd .i64 x_1.2 1)))) (mapO Sum.inr (ifB (gtI x.2.2.2 0) (ifB (eqI x_1.1 0) (bindO (atI x.1 0) fun (y : Bool) => ifB (notB y) (mapO Sum.inr (some (0, [], 4))) (ifB (gtI (wadd .i64 x.2.1 (wmul .i64 x_1.1 x.2.2.1)) 8000000) (mapO Sum.inr (some (0, [], 3))) (bindO (atI x.1 0) fun (y : Bool) => ifB (in1 x.1 4) (ifB (notB y) (mapO Sum.inr (ifB (eqI (wrem (wadd .i64 x.2.1 (wmul .i64 x_1.1 x.2.2.1)) 2) 0) (some (wquo .i64 (wadd .i64 x.2.1 (wmul .i64 x_1.1 x.2.2.1)) 2, dropI x.1 4, 0)) (some (wneg .i64 (wadd .i64 (wquo .i64 (wadd .i64 x.2.1 (wmul .i64 x_1.1 x.2.2.1)) 2) 1), dropI x.1 4, 0)))) (some (Sum.inl (dropI x.1 4, wadd .i64 x.2.1 (wmul .i64 x_1.1 x.2.2.1), wmul .i64 x.2.2.1 8, wadd .i64 x.2.2.2 1)))) none))) (ifB (gtI (wadd .i64 x.2.1 (wmul .i64 x_1.1 x.2.2.1)) 8000000) (mapO Sum.inr (some (0, [], 3))) (bindO (atI x.1 0) fun (y : Bool) => ifB (in1 x.1 4) (ifB (notB y) (mapO Sum.inr (ifB (eqI (wrem (wadd .i64 x.2.1 (wmul .i64 x_1.1 x.2.2.1)) 2) 0) (some (wquo .i64 (wadd .i64 x.2.1 (wmul .i64 x_1.1 x.2.2.1)) 2, dropI x.1 4, 0)) (some (wneg .i64 (wadd .i64 (wquo .i64 (wadd .i64 x.2.1 (wmul .i64 x_1.1 x.2.2.1)) 2) 1), dropI x.1 4, 0)))) (some (Sum.inl (dropI x.1 4, wadd .i64 x.2.1 (wmul .i64 x_1.1 x.2.2.1), wmul .i64 x.2.2.1 8, wadd .i64 x.2.2.2 1)))) none))) (ifB (gtI (wadd .i64 x.2.1 (wmul .i64 x_1.1 x.2.2.1)) 8000000) (mapO Sum.inr (some (0, [], 3))) (bindO (atI x.1 0) fun (y : Bool) => ifB (in1 x.1 4) (ifB (notB y) (mapO Sum.inr (ifB (eqI (wrem (wadd .i64 x.2.1 (wmul .i64 x_1.1 x.2.2.1)) 2) 0) (some (wquo .i64 (wadd .i64 x.2.1 (wmul .i64 x_1.1 x.2.2.1)) 2, dropI x.1 4, 0)) (some (wneg .i64 (wadd .i64 (wquo .i64 (wadd .i64 x.2.1 (wmul .i64 x_1.1 x.2.2.1)) 2) 1), dropI x.1 4, 0)))) (some (Sum.inl (dropI x.1 4, wadd .i64 x.2.1 (wmul .i64 x_1.1 x.2.2.1), wmul .i64 x.2.2.1 8, wadd .i64 x.2.2.2 1)))) none))))) (0, 0)) none))) (a, 0, 1, 0)
theorem F_rainbookref_Decoded_eq (x : PI is_rainbookref_Decoded) : F_rainbookref_Decoded x = fnE T G_rainbookref_Decoded H_rainbookref_Decoded C_rainbookref_Decoded (resOf Try.f42) is_rainbookref_Decoded os_rainbookref_Decoded x := by kernel_rfl
noncomputable abbrev R_rainbookref_Decoded : GS := mkSpec false is_rainbookref_Decoded os_rainbookref_Decoded fun x => F_rainbookref_Decoded x
theorem R_rainbookref_Decoded_ok : GSOK Try.prog 42 R_rainbookref_Decoded := spec_ok tok g_rainbookref_Decoded fmo (Ht := H_rainbookref_Decoded) (fn := Try.f42) (Try.func42) (c := C_rainbookref_Decoded) (by kernel_rfl) (by kernel_rfl) (by kernel_rfl) (by decide +kernel) (by decide) F_rainbookref_Decoded_eq
end Go.Proofs.Y
namespace Go.Proofs.Y
open Go.Rb Go.Kx
theorem in_eq (a b c : Int) : F_rainbookref_in a b c = some (decide (b ≤ a ∧ a ≤ c)) := by
  unfold F_rainbookref_in
  rw [ifB_leI]
  split
  · simp [leI, *]
  · simp [*]
theorem dig_len : ∀ (f : Nat) (m : Int), (dig f m).length ≤ f
  | 0, _ => by simp [dig]
  | f + 1, m => by
    rw [dig, List.length_cons]
    split
    · have := dig_len f (m / 8); omega
    · simp
theorem coded_loop (l : List Bool) (D : List Int) (hl : l.length ≤ 140737488355100) (hD : D.length ≤ 8) : loopN maxR (fun (x_1 : Int × List Bool) => ifB (ltI (Prod.fst x_1) (lenI D)) (ifB (ltL (Prod.fst x_1) D)
      (bindO (atN D (natI (Prod.fst x_1))) fun (y : Int) => ifB (roomA 1 (Prod.snd x_1) [ltI (Prod.fst x_1) (wsub IntKind.i64 (lenI D) 1), geI y 4, geI (wrem y 4) 2, eqI (wrem y 2) 1])
        (some (Sum.inl (wadd IntKind.i64 (Prod.fst x_1) 1, cat (Prod.snd x_1) [ltI (Prod.fst x_1) (wsub IntKind.i64 (lenI D) 1), geI y 4, geI (wrem y 4) 2, eqI (wrem y 2) 1]))) none) none)
      (mapO Sum.inr (some (Prod.snd x_1, (0 : Int))))) (0, l) = some (l ++ codeAt D D.length, 0) := by
  refine loop_range D (fun j (s : List Bool) => ((j : Int), s)) (G := fun _ _ => some (l ++ codeAt D D.length, (0 : Int))) (P := fun j s => s = l ++ codeAt D j) ?_ ?_ (s0 := l) (by simp [codeAt]) (by omega)
  · rintro j s hj rfl k hk
    have hc := codeAt_len D j
    simp only [stepK_none, stepK_inl, stepK_inr, stepK_map, stepK_if, stepK_bind, ifB_t, ifB_f, ifB_same, ifB_ltI, ifB_leI, ifB_gtI, ifB_geI, ifB_eqI, ifB_neI, ifB_not, ifB_and, ifB_eqB, ifB_isE, ifB_in1, ifB_in2, ifB_in1N, ifB_in2N, ifB_in1C, ifB_in2C, ifB_inN, ifB_ltL, ifB_ltN, ifB_roomA, ifB_roomI, ifB_roomZ, ifB_roomS, ifB_eqS, ifB_eqL, ifB_fits, bindO_some, bindO_none, mapO_some, mapO_none, lenI_eq, lenN_eq, cat_eq, takeI_eq, dropI_eq, sliI_eq, setN_eq, natI_eq, intN_eq]
    rw [if_pos (by omega), if_pos ⟨by omega, by omega⟩, Int.toNat_natCast, atN_nat hj, bindO_some, wadd_nat (by omega), if_pos (by simp only [List.length_append, List.length_cons, List.length_nil, hc]; omega)]
    rw [hk _ ?_]
    rw [codeAt_next, List.append_assoc]
    congr 2
    unfold grp wsub wrem ltI geI eqI
    rw [wr_id (by omega) (by omega)]
  · rintro s rfl k
    simp only [stepK_none, stepK_inl, stepK_inr, stepK_map, stepK_if, stepK_bind, ifB_t, ifB_f, ifB_same, ifB_ltI, ifB_leI, ifB_gtI, ifB_geI, ifB_eqI, ifB_neI, ifB_not, ifB_and, ifB_eqB, ifB_isE, ifB_in1, ifB_in2, ifB_in1N, ifB_in2N, ifB_in1C, ifB_in2C, ifB_inN, ifB_ltL, ifB_ltN, ifB_roomA, ifB_roomI, ifB_roomZ, ifB_roomS, ifB_eqS, ifB_eqL, ifB_fits, bindO_some, bindO_none, mapO_some, mapO_none, lenI_eq, lenN_eq, cat_eq, takeI_eq, dropI_eq, sliI_eq, setN_eq, natI_eq, intN_eq]
    rw [if_neg (by omega)]
theorem coded_eq (l : List Bool) (v : Int) (hl : l.length ≤ 140737488355100) : F_rainbookref_Coded l v = some (zputR l v) := by
  unfold F_rainbookref_Coded zputR
  rw [in_eq, bindO_some, ifB_not, ifB_dec, cloneB_eq (by omega)]
  by_cases hv : -4000000 ≤ v ∧ v ≤ 4000000
  · rw [if_pos hv, if_neg (by omega), ← code_fold hv]
    have hf := foldN_or v
    have key : ∀ N0 : Int, 0 ≤ N0 → N0 < 16777216 → loopN maxR (fun (x : Int × Bool × List Int) => ifB (Prod.fst (Prod.snd x)) (ifB (roomA 8 (Prod.snd (Prod.snd x)) [wrem (Prod.fst x) 8])
          (some (Sum.inl (wquo IntKind.i64 (Prod.fst x) 8, false, cat (Prod.snd (Prod.snd x)) [wrem (Prod.fst x) 8]))) none)
        (ifB (gtI (Prod.fst x) 0) (ifB (roomA 8 (Prod.snd (Prod.snd x)) [wrem (Prod.fst x) 8])
            (some (Sum.inl (wquo IntKind.i64 (Prod.fst x) 8, false, cat (Prod.snd (Prod.snd x)) [wrem (Prod.fst x) 8]))) none)
          (mapO Sum.inr (bindO (some l) fun (y : List Bool) => loopN maxR (fun (x_1 : Int × List Bool) => ifB (ltI (Prod.fst x_1) (lenI (Prod.snd (Prod.snd x)))) (ifB (ltL (Prod.fst x_1) (Prod.snd (Prod.snd x)))
            (bindO (atN (Prod.snd (Prod.snd x)) (natI (Prod.fst x_1))) fun (y : Int) => ifB (roomA 1 (Prod.snd x_1) [ltI (Prod.fst x_1) (wsub IntKind.i64 (lenI (Prod.snd (Prod.snd x))) 1), geI y 4, geI (wrem y 4) 2, eqI (wrem y 2) 1])
              (some (Sum.inl (wadd IntKind.i64 (Prod.fst x_1) 1, cat (Prod.snd x_1) [ltI (Prod.fst x_1) (wsub IntKind.i64 (lenI (Prod.snd (Prod.snd x))) 1), geI y 4, geI (wrem y 4) 2, eqI (wrem y 2) 1]))) none) none)
            (mapO Sum.inr (some (Prod.snd x_1, (0 : Int))))) (0, y))))) (N0, true, []) = some (l ++ codeAt (dig 8 N0) (dig 8 N0).length, 0) := by
      intro N0 hN0 hN1
      refine loop_ind (G := fun _ => some (l ++ codeAt (dig 8 N0) (dig 8 N0).length, (0 : Int))) (P := fun (x : Int × Bool × List Int) => 0 ≤ x.1 ∧ x.1 < 16777216 ∧ ∃ f, 1 ≤ f ∧ f ≤ 8 ∧ x.1 < 8 ^ f ∧ x.2.2 ++ (if x.2.1 = true ∨ x.1 > 0 then dig f x.1 else []) = dig 8 N0) (μ := fun x => 2 * x.1.toNat + (if x.2.1 = true then 1 else 0)) ?_ maxR (N0, true, []) ⟨hN0, hN1, 8, by omega, by omega, hN1, by simp⟩ (by show 2 * N0.toNat + 1 < maxR; unfold maxR; omega)
      rintro ⟨n, fst, D⟩ ⟨g0, g1, f, g2, g3, g4, g5⟩ k hk
      simp only at g0 g1 g4 g5
      have hDl : D.length ≤ 8 := by
        have h1 := dig_len 8 N0
        rw [← g5, List.length_append] at h1
        omega
      simp only [stepK_ifB, stepK_map, stepK_inl, stepK_none, cat_eq, bindO_some, ifB_roomA]
      rw [wrem8 g0, wquo8 g0 (by omega), if_pos (by simp; omega)]
      have next : (fst = true ∨ n > 0) → k (n / 8, false, D ++ [n % 8]) = some (l ++ codeAt (dig 8 N0) (dig 8 N0).length, 0) := by
        intro hc
        rw [if_pos hc, dig_step g2 g0] at g5
        refine hk _ ⟨by show 0 ≤ n / 8; omega, by show n / 8 < _; omega, ?_⟩ ?_
        · by_cases h8 : 8 ≤ n
          · have hd := div8_lt g4 h8
            refine ⟨f - 1, by omega, by omega, hd.2, ?_⟩
            show D ++ [n % 8] ++ (if false = true ∨ n / 8 > 0 then dig (f - 1) (n / 8) else []) = _
            rw [if_pos (by omega)] at g5
            rw [if_pos (.inr (by omega)), ← g5]; simp
          · refine ⟨f, by omega, by omega, by show n / 8 < _; omega, ?_⟩
            show D ++ [n % 8] ++ (if false = true ∨ n / 8 > 0 then dig f (n / 8) else []) = _
            rw [if_neg (by omega)] at g5
            rw [if_neg (by simp; omega), ← g5]; simp
        · show 2 * (n / 8).toNat + (if false = true then 1 else 0) < 2 * n.toNat + (if fst = true then 1 else 0)
          rcases hc with hc | hc
          · rw [if_pos hc]; simp; omega
          · simp; omega
      cases fst with
      | true => exact next (.inl rfl)
      | false =>
        rw [ifB_f, ifB_gtI]
        by_cases hn : 0 < n
        · rw [if_pos hn]; exact next (.inr hn)
        · rw [if_neg hn]
          rw [if_neg (by simp; omega), List.append_nil] at g5
          show loopN maxR _ (0, l) = _
          rw [← g5]
          have hc := coded_loop l D hl hDl
          simp only [cat_eq, ifB_roomA] at hc
          exact hc
    rw [ifB_ltI]
    split
    · have e1 : wsub .i64 (wmul .i64 2 (wneg .i64 v)) 1 = foldN v := by
        rw [wneg_in ⟨by omega, by omega⟩, wmul_in ⟨by omega, by omega⟩, wsub_in ⟨by omega, by omega⟩]; omega
      rw [e1]; exact key (foldN v) (by omega) (by omega)
    · have e1 : wmul .i64 2 v = foldN v := by rw [wmul_in ⟨by omega, by omega⟩]; omega
      rw [e1]; exact key (foldN v) (by omega) (by omega)
  · rw [if_neg hv, if_pos (by omega)]

theorem decoded_eq (l : List Bool) (hl : l.length ≤ 140737488355328) : F_rainbookref_Decoded l = some (ztakeR l) := by
  unfold F_rainbookref_Decoded ztakeR zreadR
  refine (loop_ind (G := fun (x : List Bool × Int × Int × Int) => some ((zread (8 - x.2.2.2.toNat) x.2.2.2.toNat x.2.1 x.2.2.1 x.1).1, (if (zread (8 - x.2.2.2.toNat) x.2.2.2.toNat x.2.1 x.2.2.1 x.1).2.2 = 0 then x.1.drop ((zread (8 - x.2.2.2.toNat) x.2.2.2.toNat x.2.1 x.2.2.1 x.1).2.1 - 4 * x.2.2.2).toNat else []), (zread (8 - x.2.2.2.toNat) x.2.2.2.toNat x.2.1 x.2.2.1 x.1).2.2))
    (P := fun (x : List Bool × Int × Int × Int) => 0 ≤ x.2.2.2 ∧ x.2.2.2 ≤ 8 ∧ 0 ≤ x.2.1 ∧ x.2.1 ≤ 8000000 ∧ x.2.2.1 = 8 ^ x.2.2.2.toNat ∧ x.1.length ≤ 140737488355328) (μ := fun x => 8 - x.2.2.2.toNat) ?_ maxR (l, 0, 1, 0) ⟨Int.le_refl 0, (by decide : (0 : Int) ≤ 8), Int.le_refl 0, (by decide : (0 : Int) ≤ 8000000), rfl, hl⟩ (by show 8 - Int.toNat 0 < maxR; unfold maxR; omega)).trans (by simp)
  rintro ⟨r, n, sc, kk⟩ ⟨g0, g1, g2, g3, g4, g5⟩ K hk
  simp only at g0 g1 g2 g3 g4 g5
  obtain ⟨k, rfl⟩ : ∃ k : Nat, kk = k := ⟨kk.toNat, by omega⟩
  rw [Int.toNat_natCast] at g4
  simp only [Int.toNat_natCast]
  rw [stepK_ifB, stepK_map, ifB_eqI]
  by_cases hk8 : (k : Int) = 8
  · rw [if_pos hk8]
    have : k = 8 := by omega
    subst this
    rfl
  rw [if_neg hk8, stepK_ifB, stepK_map, ifB_ltI, lenI_eq]
  have hp := pow8 (k := k) (by omega)
  by_cases h4 : (r.length : Int) < 4
  · rw [if_pos h4, zr_torn (by omega) (by omega)]; rfl
  rw [if_neg h4, stepK_ifB, stepK_none, ifB_in2, if_pos ⟨by omega, by omega, by omega⟩]
  have hsl : sliI r 1 4 = (r.take 4).drop 1 := rfl
  rw [hsl]
  have hbl : ((r.take 4).drop 1).length = 3 := by rw [List.length_drop, List.length_take]; omega
  have hgm := group_mod (l := r) (by omega)
  have hgt := group_t (l := r) (by omega)
  have hgf := group_f (l := r) (by omega)
  have hd := dAt_in ((r.take 4).drop 1) 3
  have hsc : sc ≤ 2097152 := by
    rw [g4]
    exact (by decide : ∀ k : Fin 8, (8 : Int) ^ k.val ≤ 2097152) ⟨k, by omega⟩
  have hmm := mul_bd (a := dAt ((r.take 4).drop 1) 3) (b := sc) (c := 2097152) hd.1 hd.2 (by omega) hsc
  generalize hb : (r.take 4).drop 1 = b at *
  rw [loop_at (fun j => (dAt b j, (j : Int))) 3 (x0 := (0, 0)) (by simp [dAt]) (by omega)]
  rotate_left
  · intro j hj
    have hdj := dAt_in b j
    have hdj1 := dAt_in b (j + 1)
    have hnx := dAt_next (b := b) (i := j) hj
    have h3 : j = 0 ∨ j = 1 ∨ j = 2 := by omega
    have hshr : wshr .i64 4 (j : Int) = (4 : Int) / 2 ^ j := by rw [wshr_eq (by omega) ⟨by omega, by omega⟩, Int.toNat_natCast]
    have hq : 0 ≤ (4 : Int) / 2 ^ j ∧ (4 : Int) / 2 ^ j ≤ 4 := by rcases h3 with rfl | rfl | rfl <;> decide
    rw [ifB_ltI, lenI_eq, if_pos (by omega), atI_nat (by omega), bindO_some, ifB_ltI, if_neg (by omega), wadd_nat (by omega), hshr, wadd_in ⟨by omega, by omega⟩, ifB_if]
    split
    · rename_i hb1; rw [hnx, if_pos hb1]
    · rename_i hb1; rw [hnx, if_neg hb1, Int.add_zero]
  show stepK (stepK (ifB (ltI ((3 : Nat) : Int) (lenI b)) _ (mapO Sum.inr _)) _) K = _
  rw [stepK_ifB, stepK_map, ifB_ltI, lenI_eq, if_neg (by omega)]
  simp only []
  generalize hdd : dAt b 3 = d at *
  have e1 : wmul .i64 d sc = d * sc := wmul_in ⟨by omega, by omega⟩
  have e2 : wadd .i64 n (d * sc) = n + d * sc := wadd_in ⟨by omega, by omega⟩
  have e3 : wadd .i64 (k : Int) 1 = ((k + 1 : Nat) : Int) := wadd_nat (by omega)
  have e4 : wmul .i64 sc 8 = sc * 8 := wmul_in ⟨by omega, by omega⟩
  have hat : atI r 0 = some (r.getD 0 default) := atI_nat (l := r) (j := 0) (by omega)
  have hin : in1 r 4 = true := by rw [in1, ← Bool.decide_and]; exact decide_eq_true ⟨by omega, by omega⟩
  simp only [e1, e2, e3, e4, hat, hin, bindO_some, ifB_t, dropI_eq]
  generalize hN : n + d * sc = N at *
  have tail : ¬ ((readR r 4).1 = 0 ∧ 0 < k) → stepK (ifB (gtI N 8000000) (mapO Sum.inr (some ((0 : Int), ([] : List Bool), (3 : Int)))) (ifB (notB (r.getD 0 default))
      (mapO Sum.inr (ifB (eqI (wrem N 2) 0) (some (wquo IntKind.i64 N 2, r.drop (Int.toNat 4), 0)) (some (wneg IntKind.i64 (wadd IntKind.i64 (wquo IntKind.i64 N 2) 1), r.drop (Int.toNat 4), 0))))
      (some (Sum.inl (r.drop (Int.toNat 4), N, sc * 8, ((k + 1 : Nat) : Int)))))) K =
      some ((zread (8 - k) k n sc r).1, (if (zread (8 - k) k n sc r).2.2 = 0 then r.drop ((zread (8 - k) k n sc r).2.1 - 4 * (k : Int)).toNat else []), (zread (8 - k) k n sc r).2.2) := by
    intro hnf
    rw [stepK_ifB, stepK_map, ifB_gtI]
    by_cases hr : 8000000 < N
    · rw [if_pos hr, zr_range (by omega) (by omega) hnf (by rw [hgm, hN]; exact hr)]; rfl
    rw [if_neg hr, stepK_ifB, stepK_map, stepK_inl, ifB_not]
    cases hr0 : r.getD 0 default with
    | false =>
      have hx := hgf hr0
      rw [ifB_f, zr_done (by omega) (by omega) hnf (by rw [hgm, hN]; omega) (by rw [hx]; omega), hgm, hN, wrem2 (by omega), ifB_eqI]
      have hdr : (4 * (k : Int) + 4 - 4 * (k : Int)).toNat = Int.toNat 4 := by omega
      simp only [if_true, hdr]
      rcases unf_or (n := N) (by omega) with ⟨u1, u2, u3⟩ | ⟨u1, u2, u3⟩
      · rw [if_neg (by omega), u2]
        have hq : wquo .i64 N 2 = N / 2 := by unfold wquo; rw [Int.tdiv_eq_ediv_of_nonneg (by omega)]; exact wr_id (by omega) (by omega)
        rw [hq, wadd_in ⟨by omega, by omega⟩, wneg_in ⟨by omega, by omega⟩]
        congr 2; omega
      · rw [if_pos u1]
        have hq : wquo .i64 N 2 = N / 2 := by unfold wquo; rw [Int.tdiv_eq_ediv_of_nonneg (by omega)]; exact wr_id (by omega) (by omega)
        rw [hq, u2]
    | true =>
      have hx := hgt hr0
      rw [ifB_t, zr_next (by omega) (by omega) hnf (by rw [hgm, hN]; omega) (by rw [hx]; omega), hgm, hN]
      have hlen : (r.drop (Int.toNat 4)).length ≤ 140737488355328 := by rw [List.length_drop]; omega
      rw [hk _ ⟨by show (0 : Int) ≤ ((k + 1 : Nat) : Int); omega, by show ((k + 1 : Nat) : Int) ≤ 8; omega, by show 0 ≤ N; omega, by show N ≤ 8000000; omega, by show sc * 8 = 8 ^ (((k + 1 : Nat) : Int)).toNat; rw [Int.toNat_natCast, g4, Int.pow_succ], hlen⟩ (by show 8 - (((k + 1 : Nat) : Int)).toNat < 8 - ((k : Int)).toNat; omega)]
      simp only [Int.toNat_natCast]
      rw [show 8 - (k + 1) = 8 - k - 1 by omega]
      have hz := zread_ok (8 - k - 1) (k + 1) N (sc * 8) (r.drop 4)
      have h44 : Int.toNat 4 = 4 := rfl
      rw [h44]
      generalize zread (8 - k - 1) (k + 1) N (sc * 8) (r.drop 4) = z at *
      congr 3
      by_cases hz0 : z.2.2 = 0
      · rw [if_pos hz0, if_pos hz0, List.drop_drop]
        congr 1
        have := hz hz0
        omega
      · rw [if_neg hz0, if_neg hz0]
  rw [stepK_ifB, ifB_gtI]
  by_cases hk0 : (0 : Int) < k
  · rw [if_pos hk0, stepK_ifB, ifB_eqI]
    by_cases hd0 : d = 0
    · rw [if_pos hd0, stepK_ifB, stepK_map, ifB_not]
      cases hr0 : r.getD 0 default with
      | false =>
        have hx := hgf hr0
        rw [ifB_f, zr_form (by omega) (by omega) (by omega) (by omega)]; rfl
      | true =>
        have hx := hgt hr0
        rw [ifB_t, ← hr0]
        exact tail (by omega)
    · rw [if_neg hd0]
      refine tail ?_
      cases hr0 : r.getD 0 default with
      | false => have hx := hgf hr0; omega
      | true => have hx := hgt hr0; omega
  · rw [if_neg hk0]
    exact tail (by omega)
end Go.Proofs.Y
namespace Go.Proofs.Y
open Go.Rb Go.Kx
noncomputable def C_line_Check : Code := bodyOf Try.f31
noncomputable def G_line_Check : FuncId → Option GS := tabG []
theorem g_line_Check : ΓOK Try.prog G_line_Check := ΓOK_nil
def H_line_Check : HT := ⟨tabL [(4, .it [] (dyn [.t 10 (.int .i64)]))], tabH []⟩
abbrev is_line_Check : List IT := [.v (.one (.sl 34 (.cons (.int .i64) (.one (.int .i64))))) false]
abbrev os_line_Check : List OT := [⟨.one (.int .i64), false, []⟩]
set_option maxRecDepth 100000
noncomputable def F_line_Check : List (Int × Int) → Option Int := fun (a : List (Int × Int)) => ifB (gtI (lenI a) 40) (some 2) (loopN maxR (fun (x : Int) => ifB (ltI x (lenI a)) (bindO (atI a x) fun (y : Int × Int) => ifB (ltI y.1 0) (mapO Sum.inr (some 3)) (ifB (gtI y.1 100000) (mapO Sum.inr (some 3)) (ifB (ltI y.2 (-1000000)) (mapO Sum.inr (some 3)) (ifB (gtI y.2 1000000) (mapO Sum.inr (some 3)) (ifB (gtI x 0) (bindO (atI a (wsub .i64 x 1)) fun (y_1 : Int × Int) => ifB (geI y_1.1 y.1) (mapO Sum.inr (some 7)) (some (Sum.inl (wadd .i64 x 1)))) (some (Sum.inl (wadd .i64 x 1)))))))) (mapO Sum.inr (some 0))) 0)
theorem F_line_Check_eq (x : PI is_line_Check) : F_line_Check x = fnE T G_line_Check H_line_Check C_line_Check (resOf Try.f31) is_line_Check os_line_Check x := by kernel_rfl
noncomputable abbrev R_line_Check : GS := mkSpec false is_line_Check os_line_Check fun x => F_line_Check x
theorem R_line_Check_ok : GSOK Try.prog 31 R_line_Check := spec_ok tok g_line_Check fmo (Ht := H_line_Check) (fn := Try.f31) (Try.func31) (c := C_line_Check) (by kernel_rfl) (by kernel_rfl) (by kernel_rfl) (by decide +kernel) (by decide) F_line_Check_eq
noncomputable abbrev B_line_Check : GS := mkSpec true is_line_Check os_line_Check fun x => F_line_Check x
theorem B_line_Check_ok : GSOK Try.prog 31 B_line_Check := spec_ok tok g_line_Check fmo (Ht := H_line_Check) (fn := Try.f31) (Try.func31) (c := C_line_Check) (by kernel_rfl) (by kernel_rfl) (by kernel_rfl) (by decide +kernel) (by decide) F_line_Check_eq
end Go.Proofs.Y
namespace Go.Proofs.Y
open Go.Rb Go.Kx
noncomputable def C_line_Pack : Code := bodyOf Try.f44
noncomputable def G_line_Pack : FuncId → Option GS := tabG [(31, R_line_Check), (39, R_zig_Put)]
theorem g_line_Pack : ΓOK Try.prog G_line_Pack := ΓOK_cons (R_line_Check_ok) (ΓOK_cons (R_zig_Put_ok) (ΓOK_nil))
def H_line_Pack : HT := ⟨tabL [(8, .it [] (dyn [.t 5 (.sl 4 (.one .bool)), .t 7 (.int .i64), .t 17 (.int .i64), .c 6 0 (.int .i64), .c 6 1 (.int .i64)]))], tabH []⟩
abbrev is_line_Pack : List IT := [.v (.one (.sl 34 (.cons (.int .i64) (.one (.int .i64))))) false]
abbrev os_line_Pack : List OT := [⟨.one (.sl 4 (.one .bool)), false, []⟩, ⟨.one (.int .i64), false, []⟩]
set_option maxRecDepth 100000
noncomputable def F_line_Pack : List (Int × Int) → Option (List Bool × Int) := fun (a : List (Int × Int)) => bindO (F_line_Check a) fun (y : Int) => ifB (neI y 0) (some ([], y)) (loopN maxR (fun (x : List Bool × Int × Int × Int × Int) => ifB (ltI x.2.2.1 (lenI a)) (bindO (atI a x.2.2.1) fun (y : Int × Int) => bindO (F_zig_Put x.1 (wsub .i64 (wsub .i64 y.1 x.2.2.2.1) x.2.1)) fun (y_1 : List Bool × Int) => bindO (F_zig_Put y_1.1 (wsub .i64 y.2 x.2.2.2.2)) fun (y_2 : List Bool × Int) => some (Sum.inl (y_2.1, wsub .i64 y.1 x.2.2.2.1, wadd .i64 x.2.2.1 1, y.1, y.2))) (mapO Sum.inr (some (x.1, 0)))) ([], 0, 0, 0, 0))
theorem F_line_Pack_eq (x : PI is_line_Pack) : F_line_Pack x = fnE T G_line_Pack H_line_Pack C_line_Pack (resOf Try.f44) is_line_Pack os_line_Pack x := by kernel_rfl
noncomputable abbrev R_line_Pack : GS := mkSpec false is_line_Pack os_line_Pack fun x => F_line_Pack x
theorem R_line_Pack_ok : GSOK Try.prog 44 R_line_Pack := spec_ok tok g_line_Pack fmo (Ht := H_line_Pack) (fn := Try.f44) (Try.func44) (c := C_line_Pack) (by kernel_rfl) (by kernel_rfl) (by kernel_rfl) (by decide +kernel) (by decide) F_line_Pack_eq
end Go.Proofs.Y
namespace Go.Proofs.Y
open Go.Rb Go.Kx
noncomputable def C_line_Unpack : Code := bodyOf Try.f45
noncomputable def G_line_Unpack : FuncId → Option GS := tabG [(98, R_zig_Read), (31, R_line_Check)]
theorem g_line_Unpack : ΓOK Try.prog G_line_Unpack := ΓOK_cons (R_zig_Read_ok) (ΓOK_cons (R_line_Check_ok) (ΓOK_nil))
def H_line_Unpack : HT := ⟨tabL [(7, .it [] (dyn [.t 0 (.sl 4 (.one .bool)), .a 6 34 (.cons (.int .i64) (.one (.int .i64))), .t 8 (.int .i64), .t 23 (.int .i64), .c 7 0 (.int .i64), .c 7 1 (.int .i64)]))], tabH []⟩
abbrev is_line_Unpack : List IT := [.v (.one (.sl 4 (.one .bool))) false, .v (.one (.int .i64)) false]
abbrev os_line_Unpack : List OT := [⟨.one (.sl 34 (.cons (.int .i64) (.one (.int .i64)))), false, []⟩, ⟨.one (.int .i64), false, []⟩]
set_option maxRecDepth 100000
noncomputable def F_line_Unpack : List Bool → Int → Option (List (Int × Int) × Int) := fun (a : List Bool) (b : Int) => ifB (ltI b 0) (some ([], 2)) (ifB (gtI b 40) (some ([], 2)) (loopN maxR (fun (x : List Bool × Int × Int × Int × Int × List (Int × Int)) => ifB (ltI x.2.2.1 b) (bindO (F_zig_Read x.1) fun (y : Int × Int × Int) => ifB (neI y.2.2 0) (mapO Sum.inr (some ([], y.2.2))) (ifB (in1 x.1 y.2.1) (bindO (F_zig_Read (dropI x.1 y.2.1)) fun (y_1 : Int × Int × Int) => ifB (neI y_1.2.2 0) (mapO Sum.inr (some ([], y_1.2.2))) (ifB (in1 x.1 (wadd .i64 y.2.1 y_1.2.1)) (ifB (ifB (in2 x.2.2.2.2.2 (maxI 0 (wsub .i64 (lenI x.2.2.2.2.2) 1)) (lenI x.2.2.2.2.2)) (eqI (lenI x.2.2.2.2.2) (lenI x.2.2.2.2.2)) false) (ifB (ifB (inN x.2.2.2.2.2 (natI (maxI 0 (wsub .i64 (lenI x.2.2.2.2.2) 1))) (subI (maxI 0 (wsub .i64 (lenI x.2.2.2.2.2) 1)) (lenI x.2.2.2.2.2))) (roomA 16 (subN x.2.2.2.2.2 (natI (maxI 0 (wsub .i64 (lenI x.2.2.2.2.2) 1))) (subI (maxI 0 (wsub .i64 (lenI x.2.2.2.2.2) 1)) (lenI x.2.2.2.2.2))) [(wadd .i64 (wadd .i64 x.2.2.2.1 x.2.1) y.1, wadd .i64 x.2.2.2.2.1 y_1.1)]) false) (ifB (fits (subI (maxI 0 (wsub .i64 (lenI x.2.2.2.2.2) 1)) (lenI x.2.2.2.2.2)) [(wadd .i64 (wadd .i64 x.2.2.2.1 x.2.1) y.1, wadd .i64 x.2.2.2.2.1 y_1.1)] (capN (lenN x.2.2.2.2.2) (natI (maxI 0 (wsub .i64 (lenI x.2.2.2.2.2) 1))))) none (bindO (F_line_Check (cat (subN x.2.2.2.2.2 (natI (maxI 0 (wsub .i64 (lenI x.2.2.2.2.2) 1))) (subI (maxI 0 (wsub .i64 (lenI x.2.2.2.2.2) 1)) (lenI x.2.2.2.2.2))) [(wadd .i64 (wadd .i64 x.2.2.2.1 x.2.1) y.1, wadd .i64 x.2.2.2.2.1 y_1.1)])) fun (y_2 : Int) => ifB (neI y_2 0) (mapO Sum.inr (some ([], y_2))) (ifB (roomA 16 x.2.2.2.2.2 [(wadd .i64 (wadd .i64 x.2.2.2.1 x.2.1) y.1, wadd .i64 x.2.2.2.2.1 y_1.1)]) (some (Sum.inl (dropI x.1 (wadd .i64 y.2.1 y_1.2.1), wsub .i64 (wadd .i64 (wadd .i64 x.2.2.2.1 x.2.1) y.1) x.2.2.2.1, wadd .i64 x.2.2.1 1, wadd .i64 (wadd .i64 x.2.2.2.1 x.2.1) y.1, wadd .i64 x.2.2.2.2.1 y_1.1, cat x.2.2.2.2.2 [(wadd .i64 (wadd .i64 x.2.2.2.1 x.2.1) y.1, wadd .i64 x.2.2.2.2.1 y_1.1)]))) none))) none) none) none)) none)) (mapO Sum.inr (ifB (gtI (lenI x.1) 0) (some ([], 8)) (some (x.2.2.2.2.2, 0))))) (a, 0, 0, 0, 0, [])))
theorem F_line_Unpack_eq (x : PI is_line_Unpack) : F_line_Unpack (x.1) (x.2) = fnE T G_line_Unpack H_line_Unpack C_line_Unpack (resOf Try.f45) is_line_Unpack os_line_Unpack x := by kernel_rfl
noncomputable abbrev R_line_Unpack : GS := mkSpec false is_line_Unpack os_line_Unpack fun x => F_line_Unpack (x.1) (x.2)
theorem R_line_Unpack_ok : GSOK Try.prog 45 R_line_Unpack := spec_ok tok g_line_Unpack fmo (Ht := H_line_Unpack) (fn := Try.f45) (Try.func45) (c := C_line_Unpack) (by kernel_rfl) (by kernel_rfl) (by kernel_rfl) (by decide +kernel) (by decide) F_line_Unpack_eq
end Go.Proofs.Y
namespace Go.Proofs.Y
open Go.Rb Go.Kx
noncomputable def C_rainbookref_CheckPoint : Code := bodyOf Try.f99
noncomputable def G_rainbookref_CheckPoint : FuncId → Option GS := tabG [(95, R_rainbookref_in)]
theorem g_rainbookref_CheckPoint : ΓOK Try.prog G_rainbookref_CheckPoint := ΓOK_cons (R_rainbookref_in_ok) (ΓOK_nil)
def H_rainbookref_CheckPoint : HT := ⟨tabL [], tabH []⟩
abbrev is_rainbookref_CheckPoint : List IT := [.v (.cons (.int .i64) (.one (.int .i64))) true]
abbrev os_rainbookref_CheckPoint : List OT := [⟨.one (.int .i64), false, []⟩]
set_option maxRecDepth 100000
noncomputable def F_rainbookref_CheckPoint : Int × Int → Option Int := fun (a : Int × Int) => bindO (F_rainbookref_in a.1 0 100000) fun (y : Bool) => ifB (notB y) (some 3) (bindO (F_rainbookref_in a.2 (-1000000) 1000000) fun (y : Bool) => ifB (notB y) (some 3) (some 0))
theorem F_rainbookref_CheckPoint_eq (x : PI is_rainbookref_CheckPoint) : F_rainbookref_CheckPoint x = fnE T G_rainbookref_CheckPoint H_rainbookref_CheckPoint C_rainbookref_CheckPoint (resOf Try.f99) is_rainbookref_CheckPoint os_rainbookref_CheckPoint x := by kernel_rfl
noncomputable abbrev R_rainbookref_CheckPoint : GS := mkSpec false is_rainbookref_CheckPoint os_rainbookref_CheckPoint fun x => F_rainbookref_CheckPoint x
theorem R_rainbookref_CheckPoint_ok : GSOK Try.prog 99 R_rainbookref_CheckPoint := spec_ok tok g_rainbookref_CheckPoint fmo (Ht := H_rainbookref_CheckPoint) (fn := Try.f99) (Try.func99) (c := C_rainbookref_CheckPoint) (by kernel_rfl) (by kernel_rfl) (by kernel_rfl) (by decide +kernel) (by decide) F_rainbookref_CheckPoint_eq
end Go.Proofs.Y
namespace Go.Proofs.Y
open Go.Rb Go.Kx
noncomputable def C_rainbookref_CheckPoints : Code := bodyOf Try.f49
noncomputable def G_rainbookref_CheckPoints : FuncId → Option GS := tabG [(99, R_rainbookref_CheckPoint)]
theorem g_rainbookref_CheckPoints : ΓOK Try.prog G_rainbookref_CheckPoints := ΓOK_cons (R_rainbookref_CheckPoint_ok) (ΓOK_nil)
def H_rainbookref_CheckPoints : HT := ⟨tabL [(5, .it [] (dyn [.t 3 (.int .i64), .t 12 (.int .i64)]))], tabH []⟩
abbrev is_rainbookref_CheckPoints : List IT := [.v (.one (.sl 34 (.cons (.int .i64) (.one (.int .i64))))) false]
abbrev os_rainbookref_CheckPoints : List OT := [⟨.one (.int .i64), false, []⟩]
set_option maxRecDepth 100000
noncomputable def F_rainbookref_CheckPoints : List (Int × Int) → Option Int := fun (a : List (Int × Int)) => ifB (gtI (lenI a) 40) (some 2) (loopN maxR (fun (x : Int × Int) => ifB (ltI x.2 (lenI a)) (bindO (atI a x.2) fun (y : Int × Int) => bindO (F_rainbookref_CheckPoint (y.1, y.2)) fun (y_1 : Int) => ifB (neI y_1 0) (mapO Sum.inr (some y_1)) (ifB (leI y.1 x.1) (mapO Sum.inr (some 7)) (some (Sum.inl (y.1, wadd .i64 x.2 1))))) (mapO Sum.inr (some 0))) (-1, 0))
theorem F_rainbookref_CheckPoints_eq (x : PI is_rainbookref_CheckPoints) : F_rainbookref_CheckPoints x = fnE T G_rainbookref_CheckPoints H_rainbookref_CheckPoints C_rainbookref_CheckPoints (resOf Try.f49) is_rainbookref_CheckPoints os_rainbookref_CheckPoints x := by kernel_rfl
noncomputable abbrev R_rainbookref_CheckPoints : GS := mkSpec false is_rainbookref_CheckPoints os_rainbookref_CheckPoints fun x => F_rainbookref_CheckPoints x
theorem R_rainbookref_CheckPoints_ok : GSOK Try.prog 49 R_rainbookref_CheckPoints := spec_ok tok g_rainbookref_CheckPoints fmo (Ht := H_rainbookref_CheckPoints) (fn := Try.f49) (Try.func49) (c := C_rainbookref_CheckPoints) (by kernel_rfl) (by kernel_rfl) (by kernel_rfl) (by decide +kernel) (by decide) F_rainbookref_CheckPoints_eq
end Go.Proofs.Y
namespace Go.Proofs.Y
open Go.Rb Go.Kx
noncomputable def C_rainbookref_PackedOf : Code := bodyOf Try.f46
noncomputable def G_rainbookref_PackedOf : FuncId → Option GS := tabG [(49, R_rainbookref_CheckPoints), (41, R_rainbookref_Coded)]
theorem g_rainbookref_PackedOf : ΓOK Try.prog G_rainbookref_PackedOf := ΓOK_cons (R_rainbookref_CheckPoints_ok) (ΓOK_cons (R_rainbookref_Coded_ok) (ΓOK_nil))
def H_rainbookref_PackedOf : HT := ⟨tabL [(6, .it [] (dyn [.t 5 (.sl 4 (.one .bool)), .t 17 (.int .i64)]))], tabH []⟩
abbrev is_rainbookref_PackedOf : List IT := [.v (.one (.sl 34 (.cons (.int .i64) (.one (.int .i64))))) false]
abbrev os_rainbookref_PackedOf : List OT := [⟨.one (.sl 4 (.one .bool)), false, []⟩, ⟨.one (.int .i64), false, []⟩]
set_option maxRecDepth 100000
noncomputable def F_rainbookref_PackedOf : List (Int × Int) → Option (List Bool × Int) := fun (a : List (Int × Int)) => bindO (F_rainbookref_CheckPoints a) fun (y : Int) => ifB (neI y 0) (some ([], y)) (loopN maxR (fun (x : List Bool × Int) => ifB (ltI x.2 (lenI a)) (bindO (atI a x.2) fun (y : Int × Int) => ifB (gtI x.2 0) (bindO (atI a (wsub .i64 x.2 1)) fun (y_1 : Int × Int) => bindO (atI a (wsub .i64 x.2 1)) fun (y_2 : Int × Int) => ifB (gtI x.2 1) (bindO (atI a (wsub .i64 x.2 2)) fun (y_3 : Int × Int) => bindO (F_rainbookref_Coded x.1 (wadd .i64 (wsub .i64 y.1 (wmul .i64 2 y_2.1)) y_3.1)) fun (y_4 : List Bool × Int) => bindO (F_rainbookref_Coded y_4.1 (wsub .i64 y.2 y_1.2)) fun (y : List Bool × Int) => some (Sum.inl (y.1, wadd .i64 x.2 1))) (bindO (F_rainbookref_Coded x.1 (wsub .i64 y.1 (wmul .i64 2 y_2.1))) fun (y_3 : List Bool × Int) => bindO (F_rainbookref_Coded y_3.1 (wsub .i64 y.2 y_1.2)) fun (y : List Bool × Int) => some (Sum.inl (y.1, wadd .i64 x.2 1)))) (ifB (gtI x.2 1) (bindO (atI a (wsub .i64 x.2 2)) fun (y_1 : Int × Int) => bindO (F_rainbookref_Coded x.1 (wadd .i64 y.1 y_1.1)) fun (y_2 : List Bool × Int) => bindO (F_rainbookref_Coded y_2.1 y.2) fun (y : List Bool × Int) => some (Sum.inl (y.1, wadd .i64 x.2 1))) (bindO (F_rainbookref_Coded x.1 y.1) fun (y_1 : List Bool × Int) => bindO (F_rainbookref_Coded y_1.1 y.2) fun (y : List Bool × Int) => some (Sum.inl (y.1, wadd .i64 x.2 1))))) (mapO Sum.inr (some (x.1, 0)))) ([], 0))
theorem F_rainbookref_PackedOf_eq (x : PI is_rainbookref_PackedOf) : F_rainbookref_PackedOf x = fnE T G_rainbookref_PackedOf H_rainbookref_PackedOf C_rainbookref_PackedOf (resOf Try.f46) is_rainbookref_PackedOf os_rainbookref_PackedOf x := by kernel_rfl
noncomputable abbrev R_rainbookref_PackedOf : GS := mkSpec false is_rainbookref_PackedOf os_rainbookref_PackedOf fun x => F_rainbookref_PackedOf x
theorem R_rainbookref_PackedOf_ok : GSOK Try.prog 46 R_rainbookref_PackedOf := spec_ok tok g_rainbookref_PackedOf fmo (Ht := H_rainbookref_PackedOf) (fn := Try.f46) (Try.func46) (c := C_rainbookref_PackedOf) (by kernel_rfl) (by kernel_rfl) (by kernel_rfl) (by decide +kernel) (by decide) F_rainbookref_PackedOf_eq
end Go.Proofs.Y
namespace Go.Proofs.Y
open Go.Rb Go.Kx
noncomputable def C_rainbookref_UnpackedOf : Code := bodyOf Try.f47
noncomputable def G_rainbookref_UnpackedOf : FuncId → Option GS := tabG [(95, R_rainbookref_in), (42, R_rainbookref_Decoded), (99, R_rainbookref_CheckPoint)]
theorem g_rainbookref_UnpackedOf : ΓOK Try.prog G_rainbookref_UnpackedOf := ΓOK_cons (R_rainbookref_in_ok) (ΓOK_cons (R_rainbookref_Decoded_ok) (ΓOK_cons (R_rainbookref_CheckPoint_ok) (ΓOK_nil)))
def H_rainbookref_UnpackedOf : HT := ⟨tabL [(5, .it [] (dyn [.t 0 (.sl 4 (.one .bool)), .a 6 34 (.cons (.int .i64) (.one (.int .i64))), .t 23 (.int .i64)]))], tabH []⟩
abbrev is_rainbookref_UnpackedOf : List IT := [.v (.one (.sl 4 (.one .bool))) false, .v (.one (.int .i64)) false]
abbrev os_rainbookref_UnpackedOf : List OT := [⟨.one (.sl 34 (.cons (.int .i64) (.one (.int .i64)))), false, []⟩, ⟨.one (.int .i64), false, []⟩]
set_option maxRecDepth 100000
noncomputable def F_rainbookref_UnpackedOf : List Bool → Int → Option (List (Int × Int) × Int) := fun (a : List Bool) (b : Int) => bindO (F_rainbookref_in b 0 40) fun (y : Bool) => ifB (notB y) (some ([], 2)) (loopN maxR (fun (x : List Bool × Int × List (Int × Int)) => ifB (ltI x.2.1 b) (bindO (F_rainbookref_Decoded x.1) fun (y : Int × List Bool × Int) => ifB (neI y.2.2 0) (mapO Sum.inr (some ([], y.2.2))) (bindO (F_rainbookref_Decoded y.2.1) fun (y_1 : Int × List Bool × Int) => ifB (neI y_1.2.2 0) (mapO Sum.inr (some ([], y_1.2.2))) (ifB (ltL x.2.1 x.2.2) (bindO (atN x.2.2 (natI x.2.1)) fun (y_2 : Int × Int) => ifB (ltL (wadd .i64 x.2.1 1) x.2.2) (bindO (atN x.2.2 (natI (wadd .i64 x.2.1 1))) fun (y_3 : Int × Int) => bindO (F_rainbookref_CheckPoint (wadd .i64 (wsub .i64 (wmul .i64 2 y_3.1) y_2.1) y.1, wadd .i64 y_3.2 y_1.1)) fun (y_4 : Int) => ifB (neI y_4 0) (mapO Sum.inr (some ([], y_4))) (ifB (gtI x.2.1 0) (ifB (leI (wadd .i64 (wsub .i64 (wmul .i64 2 y_3.1) y_2.1) y.1) y_3.1) (mapO Sum.inr (some ([], 7))) (ifB (roomA 16 x.2.2 [(wadd .i64 (wsub .i64 (wmul .i64 2 y_3.1) y_2.1) y.1, wadd .i64 y_3.2 y_1.1)]) (some (Sum.inl (y_1.2.1, wadd .i64 x.2.1 1, cat x.2.2 [(wadd .i64 (wsub .i64 (wmul .i64 2 y_3.1) y_2.1) y.1, wadd .i64 y_3.2 y_1.1)]))) none)) (ifB (roomA 16 x.2.2 [(wadd .i64 (wsub .i64 (wmul .i64 2 y_3.1) y_2.1) y.1, wadd .i64 y_3.2 y_1.1)]) (some (Sum.inl (y_1.2.1, wadd .i64 x.2.1 1, cat x.2.2 [(wadd .i64 (wsub .i64 (wmul .i64 2 y_3.1) y_2.1) y.1, wadd .i64 y_3.2 y_1.1)]))) none))) none) none))) (mapO Sum.inr (ifB (gtI (lenI x.1) 0) (some ([], 8)) (ifB (in1 x.2.2 2) (ifB (inN x.2.2 (addN 0 (natI 2)) (subNI (lenN x.2.2) 2)) (some (subN x.2.2 (addN 0 (natI 2)) (subNI (lenN x.2.2) 2), 0)) none) none)))) (a, 0, [(0, 0), (0, 0)]))
theorem F_rainbookref_UnpackedOf_eq (x : PI is_rainbookref_UnpackedOf) : F_rainbookref_UnpackedOf (x.1) (x.2) = fnE T G_rainbookref_UnpackedOf H_rainbookref_UnpackedOf C_rainbookref_UnpackedOf (resOf Try.f47) is_rainbookref_UnpackedOf os_rainbookref_UnpackedOf x := by kernel_rfl
noncomputable abbrev R_rainbookref_UnpackedOf : GS := mkSpec false is_rainbookref_UnpackedOf os_rainbookref_UnpackedOf fun x => F_rainbookref_UnpackedOf (x.1) (x.2)
theorem R_rainbookref_UnpackedOf_ok : GSOK Try.prog 47 R_rainbookref_UnpackedOf := spec_ok tok g_rainbookref_UnpackedOf fmo (Ht := H_rainbookref_UnpackedOf) (fn := Try.f47) (Try.func47) (c := C_rainbookref_UnpackedOf) (by kernel_rfl) (by kernel_rfl) (by kernel_rfl) (by decide +kernel) (by decide) F_rainbookref_UnpackedOf_eq
end Go.Proofs.Y
namespace Go.Proofs.Y
open Go.Rb Go.Kx
theorem check_eq (l : List Pt) (hl : l.length < 4611686018427387904) : F_line_Check l = some (checkL l) := by
  unfold F_line_Check checkL
  rw [ifB_gtI, lenI_eq]
  by_cases h40 : (40 : Int) < l.length
  · rw [if_pos h40, if_pos (by omega)]
  · rw [if_neg h40, if_neg (by omega)]
    refine loop_ind (G := fun (i : Int) => some (chk (lastT l i.toNat) (l.drop i.toNat))) (P := fun i => 0 ≤ i ∧ i ≤ l.length) (μ := fun i => l.length - i.toNat) ?_ maxR 0 ⟨by omega, by omega⟩ (by unfold maxR; omega)
    rintro i ⟨h0, h1⟩ k hk
    obtain ⟨j, rfl⟩ : ∃ j : Nat, i = j := ⟨i.toNat, by omega⟩
    simp only [stepK_none, stepK_inl, stepK_inr, stepK_map, stepK_if, stepK_bind, ifB_t, ifB_f, ifB_same, ifB_ltI, ifB_leI, ifB_gtI, ifB_geI, ifB_eqI, ifB_neI, ifB_not, ifB_and, ifB_eqB, ifB_isE, ifB_in1, ifB_in2, ifB_in1N, ifB_in2N, ifB_in1C, ifB_in2C, ifB_inN, ifB_ltL, ifB_ltN, ifB_roomA, ifB_roomI, ifB_roomZ, ifB_roomS, ifB_eqS, ifB_eqL, ifB_fits, bindO_some, bindO_none, mapO_some, mapO_none, lenI_eq, lenN_eq, cat_eq, takeI_eq, dropI_eq, sliI_eq, setN_eq, natI_eq, intN_eq, Int.toNat_natCast]
    by_cases hj : j < l.length
    · have hw := wadd_nat (j := j) (by omega)
      have hn := hk ((j + 1 : Nat) : Int) ⟨by omega, by omega⟩ (by omega)
      rw [if_pos (by omega), atI_nat hj, bindO_some, hw, hn, chk_step hj, Int.toNat_natCast]
      by_cases h0 : j = 0
      · subst h0
        rw [if_neg (show ¬ (0 : Int) < ((0 : Nat) : Int) by omega)]
        have hl0 : lastT l 0 = -1 := rfl
        rw [hl0]
        repeat' split
        all_goals first | rfl | (exfalso; omega)
      · have e1 : wsub .i64 (j : Int) 1 = ((j - 1 : Nat) : Int) := by rw [wsub_in ⟨by omega, by omega⟩]; omega
        have hl0 : lastT l j = (l.getD (j - 1) default).1 := by unfold lastT; rw [if_neg h0]
        rw [if_pos (show (0 : Int) < (j : Int) by omega), e1, atI_nat (by omega), bindO_some, hl0]
        repeat' split
        all_goals first | rfl | (exfalso; omega)
    · rw [if_neg (by omega), List.drop_of_length_le (by omega)]
      rfl
theorem chkPoint_eq (p : Pt) : F_rainbookref_CheckPoint p = some (chkP p) := by
  unfold F_rainbookref_CheckPoint chkP badP
  rw [in_eq, in_eq, bindO_some, bindO_some, ifB_not, ifB_not, ifB_dec, ifB_dec]
  by_cases h : p.1 < 0 ∨ p.1 > 100000 ∨ p.2 < -1000000 ∨ p.2 > 1000000
  · rw [if_pos h]
    split
    · rw [if_neg (by omega)]
    · rfl
  · rw [if_neg h, if_pos (by omega), if_pos (by omega)]
theorem checks_eq (l : List Pt) (hl : l.length < 4611686018427387904) : F_rainbookref_CheckPoints l = some (checkL l) := by
  unfold F_rainbookref_CheckPoints checkL
  rw [ifB_gtI, lenI_eq]
  by_cases h40 : (40 : Int) < l.length
  · rw [if_pos h40, if_pos (by omega)]
  · rw [if_neg h40, if_neg (by omega)]
    refine loop_range l (fun j (s : Int) => (s, (j : Int))) (G := fun rest s => some (chk s rest)) (P := fun _ _ => True) ?_ ?_ (s0 := -1) trivial (by omega)
    · rintro j s hj _ k hk
      generalize hp : l.getD j default = p
      simp only [stepK_none, stepK_inl, stepK_inr, stepK_map, stepK_if, stepK_bind, ifB_t, ifB_f, ifB_same, ifB_ltI, ifB_leI, ifB_gtI, ifB_geI, ifB_eqI, ifB_neI, ifB_not, ifB_and, ifB_eqB, ifB_isE, ifB_in1, ifB_in2, ifB_in1N, ifB_in2N, ifB_in1C, ifB_in2C, ifB_inN, ifB_ltL, ifB_ltN, ifB_roomA, ifB_roomI, ifB_roomZ, ifB_roomS, ifB_eqS, ifB_eqL, ifB_fits, bindO_some, bindO_none, mapO_some, mapO_none, lenI_eq, lenN_eq, cat_eq, takeI_eq, dropI_eq, sliI_eq, setN_eq, natI_eq, intN_eq]
      rw [if_pos (by omega), atI_nat hj, bindO_some, hp, wadd_nat (by omega), hk _ trivial, chk]
      have := chkP_or p
      rw [show ((p.1, p.2) : Pt) = p from rfl, chkPoint_eq, bindO_some]
      unfold badP PtIn at this
      repeat' split
      all_goals first | rfl | (exfalso; omega) | (congr 1; omega)
    · rintro s _ k
      simp only [stepK_none, stepK_inl, stepK_inr, stepK_map, stepK_if, stepK_bind, ifB_t, ifB_f, ifB_same, ifB_ltI, ifB_leI, ifB_gtI, ifB_geI, ifB_eqI, ifB_neI, ifB_not, ifB_and, ifB_eqB, ifB_isE, ifB_in1, ifB_in2, ifB_in1N, ifB_in2N, ifB_in1C, ifB_in2C, ifB_inN, ifB_ltL, ifB_ltN, ifB_roomA, ifB_roomI, ifB_roomZ, ifB_roomS, ifB_eqS, ifB_eqL, ifB_fits, bindO_some, bindO_none, mapO_some, mapO_none, lenI_eq, lenN_eq, cat_eq, takeI_eq, dropI_eq, sliI_eq, setN_eq, natI_eq, intN_eq]
      rw [if_neg (by omega)]
      rfl
theorem pack_eq (l : List Pt) (hl : l.length < 4611686018427387904) : F_line_Pack l = some (packP l) := by
  unfold F_line_Pack packP
  rw [check_eq l hl, bindO_some, ifB_neI]
  by_cases hc : checkL l = 0
  · have hall := checkL_all hc
    have hlen := checkL_len hc
    rw [if_pos hc, if_pos hc, ← packL_all]
    refine loop_range l (fun j (s : List Bool × Int × Int × Int) => (s.1, s.2.1, (j : Int), s.2.2.1, s.2.2.2)) (G := fun rest s => some (s.1 ++ packL (s.2.2.1, s.2.2.2) s.2.1 rest, (0 : Int))) (P := fun j s => PtIn (s.2.2.1, s.2.2.2) ∧ -100000 ≤ s.2.1 ∧ s.2.1 ≤ 100000 ∧ s.1.length ≤ 64 * j) ?_ ?_ (s0 := ([], 0, 0, 0)) ⟨zero_in, by show (-100000 : Int) ≤ 0; omega, by show (0 : Int) ≤ 100000; omega, by simp⟩ (by omega)
    · rintro j ⟨out, step, lt, lv⟩ hj ⟨h0, h1, h2, h3⟩ k hk
      have hp := hall _ (getD_mem hj)
      have hat := atI_nat hj
      generalize l.getD j default = p at *
      simp only at h0 h1 h2 h3
      unfold PtIn at h0 hp
      simp only at h0
      simp only [stepK_none, stepK_inl, stepK_inr, stepK_map, stepK_if, stepK_bind, ifB_t, ifB_f, ifB_same, ifB_ltI, ifB_leI, ifB_gtI, ifB_geI, ifB_eqI, ifB_neI, ifB_not, ifB_and, ifB_eqB, ifB_isE, ifB_in1, ifB_in2, ifB_in1N, ifB_in2N, ifB_in1C, ifB_in2C, ifB_inN, ifB_ltL, ifB_ltN, ifB_roomA, ifB_roomI, ifB_roomZ, ifB_roomS, ifB_eqS, ifB_eqL, ifB_fits, bindO_some, bindO_none, mapO_some, mapO_none, lenI_eq, lenN_eq, cat_eq, takeI_eq, dropI_eq, sliI_eq, setN_eq, natI_eq, intN_eq]
      rw [if_pos (by omega), hat, bindO_some, wsub_in (a := p.1) (b := lt) ⟨by omega, by omega⟩, wsub_in (a := p.1 - lt) (b := step) ⟨by omega, by omega⟩, wsub_in (a := p.2) (b := lv) ⟨by omega, by omega⟩, wadd_nat (by omega)]
      rw [zput_eq _ _ (by omega), zput_nil ⟨by omega, by omega⟩, bindO_some]
      have hz1 := zenc_len 8 (foldN (p.1 - lt - step))
      have hz2 := zenc_len 8 (foldN (p.2 - lv))
      rw [zput_eq _ _ (by simp only [List.length_append]; omega), zput_nil ⟨by omega, by omega⟩, bindO_some]
      rw [hk (_, _, _, _) ⟨by unfold PtIn; exact hp, by show -100000 ≤ p.1 - lt; omega, by show p.1 - lt ≤ 100000; omega, by simp only [List.length_append]; omega⟩]
      simp only [packL, itemB, List.append_assoc]
    · rintro s _ k
      simp only [stepK_none, stepK_inl, stepK_inr, stepK_map, stepK_if, stepK_bind, ifB_t, ifB_f, ifB_same, ifB_ltI, ifB_leI, ifB_gtI, ifB_geI, ifB_eqI, ifB_neI, ifB_not, ifB_and, ifB_eqB, ifB_isE, ifB_in1, ifB_in2, ifB_in1N, ifB_in2N, ifB_in1C, ifB_in2C, ifB_inN, ifB_ltL, ifB_ltN, ifB_roomA, ifB_roomI, ifB_roomZ, ifB_roomS, ifB_eqS, ifB_eqL, ifB_fits, bindO_some, bindO_none, mapO_some, mapO_none, lenI_eq, lenN_eq, cat_eq, takeI_eq, dropI_eq, sliI_eq, setN_eq, natI_eq, intN_eq]
      rw [if_neg (by omega)]
      simp [packL]
  · rw [if_neg hc, if_neg hc]
end Go.Proofs.Y
namespace Go.Proofs.Y
open Go.Rb Go.Kx
theorem packed_eq (l : List Pt) (hl : l.length < 4611686018427387904) : F_rainbookref_PackedOf l = some (packP l) := by
  unfold F_rainbookref_PackedOf packP
  rw [checks_eq l hl, bindO_some, ifB_neI]
  by_cases hc : checkL l = 0
  · have hlen := checkL_len hc
    rw [if_pos hc, if_pos hc]
    refine loop_range l (fun j (s : List Bool) => (s, (j : Int))) (G := fun _ _ => some (packAt l l.length, (0 : Int))) (P := fun j s => s = packAt l j) ?_ ?_ (s0 := []) (by simp [packAt]) (by omega)
    · rintro j s hj rfl k hk
      obtain ⟨hp, hq, hst, hst'⟩ := pk_in hc hj
      have hsec := second (l := l) (i := j)
      have hat := atI_nat hj
      have hpl := packAt_len l j
      have hnx := hk _ (packAt_next l j).symm
      have hpk : ∀ i, i < l.length → PtIn (l.getD i default) := fun i hi => (pk_in hc hi).1
      have two : ∀ v w : Int, v = (l.getD j default).1 - (lastP l j).1 - stepP l j → w = (l.getD j default).2 - (lastP l j).2 →
          (bindO (F_rainbookref_Coded (packAt l j) v) fun (y_4 : List Bool × Int) => bindO (F_rainbookref_Coded (Prod.fst y_4) w) fun (y : List Bool × Int) => k (Prod.fst y, ((j + 1 : Nat) : Int))) = some (packAt l l.length, 0) := by
        rintro v w rfl rfl
        unfold PtIn at hp hq
        have hz1 := zenc_len 8 (foldN ((l.getD j default).1 - (lastP l j).1 - stepP l j))
        rw [coded_eq _ _ (by omega), zput_nil ⟨by omega, by omega⟩, bindO_some, coded_eq _ _ (by simp only [List.length_append]; omega), zput_nil ⟨by omega, by omega⟩, bindO_some]
        rw [← hnx]
        unfold itemB
        rw [← List.append_assoc]
      simp only [stepK_none, stepK_inl, stepK_inr, stepK_map, stepK_if, stepK_bind, ifB_t, ifB_f, ifB_same, ifB_ltI, ifB_leI, ifB_gtI, ifB_geI, ifB_eqI, ifB_neI, ifB_not, ifB_and, ifB_eqB, ifB_isE, ifB_in1, ifB_in2, ifB_in1N, ifB_in2N, ifB_in1C, ifB_in2C, ifB_inN, ifB_ltL, ifB_ltN, ifB_roomA, ifB_roomI, ifB_roomZ, ifB_roomS, ifB_eqS, ifB_eqL, ifB_fits, bindO_some, bindO_none, mapO_some, mapO_none, lenI_eq, lenN_eq, cat_eq, takeI_eq, dropI_eq, sliI_eq, setN_eq, natI_eq, intN_eq]
      rw [if_pos (by omega), hat, bindO_some, wadd_nat (by omega)]
      have e0 : ∀ a b : Int, -100000000 ≤ a → a ≤ 100000000 → -100000000 ≤ b → b ≤ 100000000 → wsub .i64 a b = a - b := fun a b _ _ _ _ => wsub_in ⟨by omega, by omega⟩
      have e1 : ∀ a b : Int, -100000000 ≤ a → a ≤ 100000000 → -100000000 ≤ b → b ≤ 100000000 → wadd .i64 a b = a + b := fun a b _ _ _ _ => wadd_in ⟨by omega, by omega⟩
      have e2 : ∀ b : Int, -100000000 ≤ b → b ≤ 100000000 → wmul .i64 2 b = 2 * b := fun b _ _ => wmul_in ⟨by omega, by omega⟩
      unfold PtIn at hp hpk
      by_cases h0 : j = 0
      · rw [if_neg (by omega), if_neg (by omega)]
        obtain ⟨s1, s2, s3⟩ := hsec.1 h0
        exact two _ _ (by omega) (by omega)
      · have h1 := hpk (j - 1) (by omega)
        have w1 : wsub .i64 (j : Int) 1 = ((j - 1 : Nat) : Int) := by rw [wsub_in ⟨by omega, by omega⟩]; omega
        have s1 := hsec.2.1 (by omega)
        rw [if_pos (by omega), w1, atI_nat (by omega), bindO_some, bindO_some]
        by_cases h2 : j = 1
        · rw [if_neg (by omega)]
          have s2 := hsec.2.2.1 h2
          refine two _ _ ?_ ?_
          · rw [e2 _ (by omega) (by omega), e0 _ _ (by omega) (by omega) (by omega) (by omega), s2, s1]; omega
          · rw [e0 _ _ (by omega) (by omega) (by omega) (by omega), s1]
        · have h3 := hpk (j - 2) (by omega)
          have w2 : wsub .i64 (j : Int) 2 = ((j - 2 : Nat) : Int) := by rw [wsub_in ⟨by omega, by omega⟩]; omega
          have s2 := hsec.2.2.2 (by omega)
          rw [if_pos (by omega), w2, atI_nat (by omega), bindO_some]
          refine two _ _ ?_ ?_
          · rw [e2 _ (by omega) (by omega), e0 _ _ (by omega) (by omega) (by omega) (by omega), e1 _ _ (by omega) (by omega) (by omega) (by omega), s2, s1]; omega
          · rw [e0 _ _ (by omega) (by omega) (by omega) (by omega), s1]
    · rintro s rfl k
      simp only [stepK_none, stepK_inl, stepK_inr, stepK_map, stepK_if, stepK_bind, ifB_t, ifB_f, ifB_same, ifB_ltI, ifB_leI, ifB_gtI, ifB_geI, ifB_eqI, ifB_neI, ifB_not, ifB_and, ifB_eqB, ifB_isE, ifB_in1, ifB_in2, ifB_in1N, ifB_in2N, ifB_in1C, ifB_in2C, ifB_inN, ifB_ltL, ifB_ltN, ifB_roomA, ifB_roomI, ifB_roomZ, ifB_roomS, ifB_eqS, ifB_eqL, ifB_fits, bindO_some, bindO_none, mapO_some, mapO_none, lenI_eq, lenN_eq, cat_eq, takeI_eq, dropI_eq, sliI_eq, setN_eq, natI_eq, intN_eq]
      rw [if_neg (by omega)]
  · rw [if_neg hc, if_neg hc]
end Go.Proofs.Y
namespace Go.Proofs.Y
open Go.Rb Go.Kx
theorem zread_in2 (b : List Bool) : (zreadR b).2.2 = 0 → 0 ≤ (zreadR b).2.1 ∧ (zreadR b).2.1 ≤ b.length := zreadR_ok
theorem nxt_in {k : Nat} {last : Pt} {step : Int} {b : List Bool} (h : stepE k last (nxt last step b) = 0) : PtIn (nxt last step b) := by
  rcases stepE_or k last (nxt last step b) with ⟨_, h1⟩ | ⟨_, _, _, h1⟩ | ⟨h1, _⟩
  · rw [h1] at h; cases h
  · rw [h1] at h; cases h
  · exact h1
theorem unpack_eq (a : List Bool) (n : Int) (ha : a.length ≤ 140737488355200) : F_line_Unpack a n = some (unpackR a n) := by
  unfold F_line_Unpack unpackR
  rw [ifB_ltI, ifB_gtI]
  by_cases h0 : n < 0
  · rw [if_pos h0, if_pos (.inl h0)]
  by_cases h1 : 40 < n
  · rw [if_neg h0, if_pos h1, if_pos (.inr h1)]
  rw [if_neg h0, if_neg h1, if_neg (show ¬ (n < 0 ∨ n > 40) by omega)]
  refine (loop_ind (G := fun (x : List Bool × Int × Int × Int × Int × List Pt) => some (unpk (n - x.2.2.1).toNat x.2.2.1.toNat (x.2.2.2.1, x.2.2.2.2.1) x.2.1 x.2.2.2.2.2 x.1))
    (P := fun (x : List Bool × Int × Int × Int × Int × List Pt) => 0 ≤ x.2.2.1 ∧ x.2.2.1 ≤ n ∧ PtIn (x.2.2.2.1, x.2.2.2.2.1) ∧ -100000 ≤ x.2.1 ∧ x.2.1 ≤ 100000 ∧ x.2.2.2.2.2.length = x.2.2.1.toNat ∧ (0 < x.2.2.1 → x.2.2.2.2.2.getD (x.2.2.1.toNat - 1) default = (x.2.2.2.1, x.2.2.2.2.1)) ∧ x.1.length ≤ 140737488355200)
    (μ := fun x => (n - x.2.2.1).toNat) ?_ maxR (a, 0, 0, 0, 0, []) ⟨Int.le_refl 0, by show 0 ≤ n; omega, zero_in, by show (-100000 : Int) ≤ 0; omega, by show (0 : Int) ≤ 100000; omega, rfl, fun h => absurd h (Int.lt_irrefl 0), ha⟩ (by show (n - 0).toNat < maxR; unfold maxR; omega)).trans (by simp)
  rintro ⟨b, step, i, lt, lv, out⟩ ⟨g0, g1, g2, g3, g4, g5, g6, g7⟩ K hk
  simp only at g0 g1 g2 g3 g4 g5 g6 g7
  obtain ⟨k, rfl⟩ : ∃ k : Nat, i = k := ⟨i.toNat, by omega⟩
  simp only [Int.toNat_natCast] at g5 g6 ⊢
  rw [stepK_ifB, ifB_ltI]
  by_cases hi : (k : Int) < n
  · obtain ⟨f, hf⟩ : ∃ f, (n - (k : Int)).toNat = f + 1 := ⟨(n - (k : Int)).toNat - 1, by omega⟩
    have hzi := zreadR_in b
    rw [if_pos hi, hf, zread_eq b (by omega), bindO_some, stepK_ifB, stepK_map, ifB_neI]
    by_cases hz : (zreadR b).2.2 = 0
    · obtain ⟨hz1, hz2⟩ := zreadR_ok hz
      have hzj := zreadR_in (bits1 b)
      rw [if_pos hz, stepK_ifB, stepK_none, ifB_in1, if_pos ⟨hz1, hz2⟩, dropI_eq]
      rw [show b.drop (zreadR b).2.1.toNat = bits1 b from rfl]
      have hbl := bits1_len b
      rw [zread_eq (bits1 b) (by omega), bindO_some, stepK_ifB, stepK_map, ifB_neI]
      by_cases hy : (zreadR (bits1 b)).2.2 = 0
      · obtain ⟨hy1, hy2⟩ := zreadR_ok hy
        have hbl1 : (bits1 b).length = b.length - (zreadR b).2.1.toNat := by unfold bits1; rw [List.length_drop]
        have hs : wadd .i64 (zreadR b).2.1 (zreadR (bits1 b)).2.1 = (zreadR b).2.1 + (zreadR (bits1 b)).2.1 := wadd_in ⟨by omega, by omega⟩
        unfold PtIn at g2
        simp only at g2
        have hP : (wadd .i64 (wadd .i64 lt step) (zreadR b).1, wadd .i64 lv (zreadR (bits1 b)).1) = nxt (lt, lv) step b := by
          rw [wadd_in (a := lt) ⟨by omega, by omega⟩, wadd_in ⟨by omega, by omega⟩, wadd_in ⟨by omega, by omega⟩]; rfl
        have hp1 : wadd .i64 (wadd .i64 lt step) (zreadR b).1 = (nxt (lt, lv) step b).1 := congrArg Prod.fst hP
        have hp2 : wadd .i64 lv (zreadR (bits1 b)).1 = (nxt (lt, lv) step b).2 := congrArg Prod.snd hP
        simp only [hs, hp1, hp2]
        generalize hp : nxt (lt, lv) step b = p at *
        have hm : maxI 0 (wsub .i64 (lenI out) 1) = ((k - 1 : Nat) : Int) := by
          rw [lenI_eq, g5, wsub_in ⟨by omega, by omega⟩]
          show max (0 : Int) (k - 1) = _
          omega
        have hsub : subN out (k - 1) (subI ((k - 1 : Nat) : Int) (lenI out)) = out.drop (out.length - 1) := by
          have : (out.drop (k - 1)).length ≤ (lenI out).toNat - ((k - 1 : Nat) : Int).toNat := by rw [List.length_drop, lenI_eq]; omega
          unfold subN subI
          rw [List.take_of_length_le this, g5]
        have hck := check_two (acc := out) (last := (lt, lv)) (p := p) (k := k) g5 (by unfold PtIn; exact g2) (fun h => g6 (by omega))
        have hdl : (out.drop (out.length - 1)).length ≤ 1 := by rw [List.length_drop]; omega
        rw [if_pos hy, stepK_ifB, stepK_none, ifB_in1, if_pos ⟨by omega, by omega⟩]
        rw [hm, natI_eq, Int.toNat_natCast, hsub]
        rw [stepK_ifB, stepK_none, ifB_and, ifB_in2, if_pos ⟨by omega, by rw [lenI_eq, g5]; omega, by rw [lenI_eq]; omega⟩, ifB_eqI, if_pos rfl]
        rw [stepK_ifB, stepK_none, ifB_and, ifB_inN, if_pos (by unfold subI; rw [lenI_eq]; omega), ifB_roomA, if_pos (by simp only [List.length_cons, List.length_nil]; omega)]
        rw [stepK_ifB, stepK_none, ifB_fits, if_neg (by unfold subI capN; rw [lenI_eq, lenN_eq]; simp only [List.length_cons, List.length_nil, reduceCtorEq, false_or]; omega)]
        rw [cat_eq, check_eq _ (by simp only [List.length_append, List.length_cons, List.length_nil]; omega), stepK_bind, bindO_some, show ((p.1, p.2) : Pt) = p from rfl, hck, stepK_ifB, stepK_map, ifB_neI]
        by_cases hst : stepE k (lt, lv) p = 0
        · have hpin : PtIn p := by rw [← hp]; exact nxt_in (by rw [hp]; exact hst)
          unfold PtIn at hpin
          rw [if_pos hst, stepK_ifB, stepK_none, stepK_inl, ifB_roomA, if_pos (by simp only [List.length_cons, List.length_nil]; omega), dropI_eq, bits2_eq hz hy, wsub_in ⟨by omega, by omega⟩, wadd_nat (by omega), cat_eq]
          have hb2 := bits2_len b
          rw [hk _ ⟨by show (0 : Int) ≤ ((k + 1 : Nat) : Int); omega, by show ((k + 1 : Nat) : Int) ≤ n; omega, by show PtIn (p.1, p.2); unfold PtIn; exact hpin, by show -100000 ≤ p.1 - lt; omega, by show p.1 - lt ≤ 100000; omega, by show (out ++ [p]).length = ((k + 1 : Nat) : Int).toNat; simp only [List.length_append, List.length_cons, List.length_nil]; omega, fun _ => by
              show (out ++ [p]).getD (((k + 1 : Nat) : Int).toNat - 1) default = p
              rw [Int.toNat_natCast, Nat.add_sub_cancel, ← g5]; simp [List.getD], by show (bits2 b).length ≤ _; omega⟩ (by show (n - ((k + 1 : Nat) : Int)).toNat < (n - (k : Int)).toNat; omega)]
          simp only [Int.toNat_natCast]
          rw [show (n - ((k + 1 : Nat) : Int)).toNat = f by omega, un_d (f := f + 1) (by omega) hz hy (by rw [hp]; exact hst), hp]
          rfl
        · rw [if_neg hst, un_c (f := f + 1) (by omega) hz hy (by rw [hp]; exact hst), hp]
      · rw [if_neg hy, un_b (f := f + 1) (by omega) hz hy]
    · rw [if_neg hz, un_a (f := f + 1) (by omega) hz]
  · have hkn : (n - (k : Int)).toNat = 0 := by omega
    rw [if_neg hi, stepK_map, hkn, ifB_gtI, lenI_eq]
    by_cases hb : (0 : Int) < b.length
    · rw [if_pos hb, un_e (by omega)]
    · rw [if_neg hb, un_f (by omega)]
end Go.Proofs.Y
