/-
  What is proved, part by part: What is stated: the program's data as plain Lean types. What is proved: numbers as bits, as plain functions. What is proved: plain facts on numbers that the laws share. What is proved: numbers as bits, further plain facts. What is proved: numbers as bits: what is put is taken. What is proved: small numbers in groups of four bits, as plain functions. What is proved: when points rise, as a plain function. What is proved: what is put in groups of four bits is taken, and no two ways write one number. What is proved: points in bits, as plain functions. What is proved: sums of points as plain functions, and their laws. What is proved: closed facts on points in bits. What is proved: points that are packed are unpacked, just so many; what is unpacked is packed as it was; beginnings; steady points. What is proved: blocks, as plain functions; of two merged both are there. Conditions: none.
-/
import Derived.Test.YtoihccclnkhmaaaEB
set_option linter.unusedVariables false
set_option linter.unusedSimpArgs false
set_option maxRecDepth 4000
namespace Go.Rb

structure Pt where
  t : Int
  v : Int
deriving DecidableEq, Inhabited

structure Sm where
  n : Int
  mn : Int
  mx : Int
  tot : Int
deriving DecidableEq, Inhabited

structure Bk where
  n : Int
  fr : Int
  to : Int
  bits : List Bool
deriving DecidableEq, Inhabited

structure Rowd where
  blocks : List Bk
  head : List Pt
deriving DecidableEq, Inhabited

structure Ent where
  s : Int
  t : Int
  v : Int
deriving DecidableEq, Inhabited

structure Buc where
  start : Int
  s : Sm
deriving DecidableEq, Inhabited

structure Rc where
  kind : Int
  series : Int
  n : Int
  e : List Ent
deriving DecidableEq, Inhabited

def inR64 (n : Int) : Prop := -9223372036854775808 ≤ n ∧ n ≤ 9223372036854775807

def w64 (n : Int) : Int := IntKind.wrap .i64 n
theorem w64_of {n : Int} (h : inR64 n) : w64 n = n := wr_id h.1 h.2

def boC (b : Bool) : List C := [.bool b]
def inC (n : Int) : List C := [.int .i64 n]
def Pt.cs (p : Pt) : List C := [.int .i64 p.t, .int .i64 p.v]
def Ent.cs (p : Ent) : List C := [.int .i64 p.s, .int .i64 p.t, .int .i64 p.v]
def Sm.cs (s : Sm) : List C := [.int .i64 s.n, .int .i64 s.mn, .int .i64 s.mx, .int .i64 s.tot]
def Buc.cs (b : Buc) : List C := [.int .i64 b.start, .int .i64 b.s.n, .int .i64 b.s.mn, .int .i64 b.s.mx, .int .i64 b.s.tot]
/-- Rows of rows of type e. -/
def slC (e : TypeId) (r : List (List C)) : List C := [.sl e r]

theorem take_next {α : Type} [Inhabited α] {l : List α} {i : Nat} (h : i < l.length) : l.take (i + 1) = l.take i ++ [l.getD i default] := by
  rw [List.take_succ_eq_append_getElem h]; simp [List.getD, List.getElem?_eq_getElem h]

theorem csR0 : (∀ p : Pt, p.cs = [.int .i64 p.t, .int .i64 p.v]) ∧ (∀ p : Ent, p.cs = [.int .i64 p.s, .int .i64 p.t, .int .i64 p.v]) ∧ (∀ s : Sm, s.cs = [.int .i64 s.n, .int .i64 s.mn, .int .i64 s.mx, .int .i64 s.tot]) ∧
    (∀ b : Buc, b.cs = [.int .i64 b.start, .int .i64 b.s.n, .int .i64 b.s.mn, .int .i64 b.s.mx, .int .i64 b.s.tot]) ∧ (∀ b : Bool, boC b = [.bool b]) ∧ (∀ n : Int, inC n = [.int .i64 n]) ∧ (∀ (e : TypeId) (r : List (List C)), slC e r = [.sl e r]) :=
  ⟨fun _ => rfl, fun _ => rfl, fun _ => rfl, fun _ => rfl, fun _ => rfl, fun _ => rfl, fun _ _ => rfl⟩

theorem enR : (∀ (a b : Int) (l : List Pt), [C.int .i64 a, C.int .i64 b] :: Rw Pt.cs l = Rw Pt.cs (⟨a, b⟩ :: l)) ∧ (∀ (a b : Int), [[C.int .i64 a, C.int .i64 b]] = Rw Pt.cs [⟨a, b⟩]) ∧
    (∀ (a b c : Int) (l : List Ent), [C.int .i64 a, C.int .i64 b, C.int .i64 c] :: Rw Ent.cs l = Rw Ent.cs (⟨a, b, c⟩ :: l)) ∧ (∀ (a b c : Int), [[C.int .i64 a, C.int .i64 b, C.int .i64 c]] = Rw Ent.cs [⟨a, b, c⟩]) ∧
    (∀ (a : Bool) (l : List Bool), [C.bool a] :: Rw boC l = Rw boC (a :: l)) ∧ (∀ (a : Bool), [[C.bool a]] = Rw boC [a]) ∧
    (∀ (a : Int) (l : List Int), [C.int .i64 a] :: Rw inC l = Rw inC (a :: l)) ∧ (∀ (a : Int), [[C.int .i64 a]] = Rw inC [a]) ∧
    (∀ (e : TypeId) (r : List (List C)) (l : List (List (List C))), [C.sl e r] :: Rw (slC e) l = Rw (slC e) (r :: l)) ∧ (∀ (e : TypeId) (r : List (List C)), [[C.sl e r]] = Rw (slC e) [r]) ∧
    (∀ (a b c d e : Int) (l : List Buc), [C.int .i64 a, C.int .i64 b, C.int .i64 c, C.int .i64 d, C.int .i64 e] :: Rw Buc.cs l = Rw Buc.cs (⟨a, ⟨b, c, d, e⟩⟩ :: l)) ∧
    (∀ (a b c d e : Int), [[C.int .i64 a, C.int .i64 b, C.int .i64 c, C.int .i64 d, C.int .i64 e]] = Rw Buc.cs [⟨a, ⟨b, c, d, e⟩⟩]) :=
  ⟨fun _ _ _ => rfl, fun _ _ => rfl, fun _ _ _ _ => rfl, fun _ _ _ => rfl, fun _ _ => rfl, fun _ => rfl, fun _ _ => rfl, fun _ => rfl, fun _ _ _ => rfl, fun _ _ => rfl, fun _ _ _ _ _ _ => rfl, fun _ _ _ _ _ => rfl⟩

def Sm.av (s : Sm) : AV := .agg [.c (.int .i64 s.n), .c (.int .i64 s.mn), .c (.int .i64 s.mx), .c (.int .i64 s.tot)]
def Pt.av (p : Pt) : AV := .agg [.c (.int .i64 p.t), .c (.int .i64 p.v)]
theorem avR : (∀ s : Sm, s.av = .agg [.c (.int .i64 s.n), .c (.int .i64 s.mn), .c (.int .i64 s.mx), .c (.int .i64 s.tot)]) ∧ (∀ p : Pt, p.av = .agg [.c (.int .i64 p.t), .c (.int .i64 p.v)]) := ⟨fun _ => rfl, fun _ => rfl⟩
end Go.Rb
namespace Go.Rb
def bitAt (n : Int) (k : Nat) : Bool := n / 2 ^ k % 2 == 1
def bitsN (w : Nat) (n : Int) : List Bool := (List.range w).map fun j => bitAt n (w - 1 - j)
def putOk (n w : Int) : Prop := 0 ≤ w ∧ w ≤ 40 ∧ 0 ≤ n ∧ n < 2 ^ w.toNat
instance (n w : Int) : Decidable (putOk n w) := by unfold putOk; infer_instance
def putR (l : List Bool) (n w : Int) : List Bool × Int := if putOk n w then (l ++ bitsN w.toNat n, 0) else ([], 3)
def val (l : List Bool) : Int := l.foldl (fun n b => 2 * n + (if b then 1 else 0)) 0
def readR (l : List Bool) (w : Int) : Int × Int := if w < 0 ∨ w > 40 then (0, 3) else if (l.length : Int) < w then (0, 8) else (val (l.take w.toNat), 0)
def takeR (l : List Bool) (w : Int) : Int × List Bool × Int := if w < 0 ∨ w > 40 then (0, [], 3) else if (l.length : Int) < w then (0, [], 8) else (val (l.take w.toNat), l.drop w.toNat, 0)

theorem bitsN_len (w : Nat) (n : Int) : (bitsN w n).length = w := by simp [bitsN]
theorem bitsN_get {w : Nat} {n : Int} {j : Nat} (h : j < w) : (bitsN w n).getD j default = bitAt n (w - 1 - j) := by
  simp [bitsN, List.getD, h]
theorem pow_pos' (k : Nat) : (0 : Int) < 2 ^ k := Int.pow_pos (by omega)
/-- What the machine's shift and mask make of a number. -/
theorem and_one {a : Int} (h0 : 0 ≤ a) (h1 : a ≤ 9223372036854775807) : IntKind.wrap .i64 ((BitVec.ofInt (IntKind.i64.bits) a &&& BitVec.ofInt (IntKind.i64.bits) 1).toNat : Int) = a % 2 := by
  have hb : IntKind.i64.bits = 64 := rfl
  rw [hb]
  obtain ⟨m, rfl⟩ : ∃ m : Nat, a = (m : Int) := ⟨a.toNat, by omega⟩
  have h2 : (BitVec.ofInt 64 (m : Int)).toNat = m := by
    simp only [BitVec.toNat_ofInt]
    omega
  have h3 : (BitVec.ofInt 64 (1 : Int)).toNat = 1 := by decide
  rw [BitVec.toNat_and, h2, h3, Nat.and_one_is_mod, wr_id (by omega) (by omega)]
  omega
theorem fdiv_pow {a : Int} (h0 : 0 ≤ a) (k : Nat) : a.fdiv (2 ^ k) = a / 2 ^ k := Int.fdiv_eq_ediv_of_nonneg a (by have := pow_pos' k; omega)
theorem div_pow_le {a : Int} (h0 : 0 ≤ a) (k : Nat) : 0 ≤ a / 2 ^ k ∧ a / 2 ^ k ≤ a := by
  have := pow_pos' k
  refine ⟨Int.ediv_nonneg h0 (by omega), Int.ediv_le_self _ h0⟩
theorem shr_zero {n : Int} {w : Nat} (h0 : 0 ≤ n) : n / 2 ^ w = 0 ↔ n < 2 ^ w := by
  have h1 := pow_pos' w
  constructor
  · intro h
    have := Int.lt_ediv_add_one_mul_self n h1
    rw [h] at this
    omega
  · intro h
    exact Int.ediv_eq_zero_of_lt h0 h
theorem val_snoc (l : List Bool) (b : Bool) : val (l ++ [b]) = 2 * val l + (if b then 1 else 0) := by simp [val]
theorem val_next {l : List Bool} {i : Nat} (h : i < l.length) : val (l.take (i + 1)) = 2 * val (l.take i) + (if l.getD i default then 1 else 0) := by
  rw [take_next h, val_snoc]
theorem val_bound : ∀ (l : List Bool), 0 ≤ val l ∧ val l < 2 ^ l.length := by
  intro l
  have key : ∀ (l : List Bool) (a : Int) (k : Nat), 0 ≤ a → a < 2 ^ k → 0 ≤ l.foldl (fun n b => 2 * n + (if b then 1 else 0)) a ∧ l.foldl (fun n b => 2 * n + (if b then 1 else 0)) a < 2 ^ (k + l.length) := by
    intro l
    induction l with
    | nil => intro a k h0 h1; exact ⟨h0, h1⟩
    | cons b l ih =>
      intro a k h0 h1
      rw [List.foldl_cons, List.length_cons, show k + (l.length + 1) = (k + 1) + l.length from by omega]
      refine ih _ (k + 1) ?_ ?_
      · split <;> omega
      · rw [Int.pow_succ]
        split <;> omega
  have := key l 0 0 (by omega) (by decide)
  simpa [val] using this
theorem val_cons (b : Bool) (l : List Bool) : val (b :: l) = (if b then 1 else 0) * 2 ^ l.length + val l := by
  have key : ∀ (l : List Bool) (a : Int), l.foldl (fun n b => 2 * n + (if b then 1 else 0)) a = a * 2 ^ l.length + l.foldl (fun n b => 2 * n + (if b then 1 else 0)) 0 := by
    intro l
    induction l with
    | nil => intro a; simp
    | cons c l ih =>
      intro a
      rw [List.foldl_cons, ih, List.foldl_cons, ih (2 * 0 + _), List.length_cons, Int.pow_succ]
      have e : (2 * a + if c = true then 1 else 0) * 2 ^ l.length = a * (2 ^ l.length * 2) + (2 * 0 + if c = true then 1 else 0) * 2 ^ l.length := by
        rw [Int.add_mul, Int.mul_comm 2 a, Int.mul_assoc, Int.mul_comm 2 (2 ^ l.length)]
        simp
      omega
  show List.foldl _ (2 * 0 + _) l = _
  rw [key]
  simp [val]
end Go.Rb
namespace Go.Rb
theorem at_mod {k n : Int} (h : 0 < n) : (if k.tmod n < 0 then k.tmod n + n else k.tmod n) = k % n := by
  have h1 := Int.emod_nonneg k (show n ≠ 0 by omega)
  have h2 := Int.emod_lt_of_pos k h
  have h3 : ((n.natAbs : Nat) : Int) = n := by omega
  rw [Int.tmod_eq_emod]
  by_cases hc : 0 ≤ k ∨ n ∣ k
  · simp only [hc, if_true]
    rw [if_neg (by omega)]
    omega
  · simp only [hc, if_false, h3]
    rw [if_pos (by omega)]
    omega
theorem w64_w64_l (a b : Int) : w64 (w64 a + b) = w64 (a + b) := by
  have h : ∀ n : Int, w64 n = if n % 18446744073709551616 ≥ 9223372036854775808 then n % 18446744073709551616 - 18446744073709551616 else n % 18446744073709551616 := by
    intro n
    show (if (true && decide (n % (18446744073709551616 : Int) ≥ (9223372036854775808 : Int))) = true then n % (18446744073709551616 : Int) - (18446744073709551616 : Int) else n % (18446744073709551616 : Int)) = _
    simp only [Bool.true_and, decide_eq_true_eq]
  rw [h a, h (a + b)]
  rw [h]
  split <;> split <;> split <;> omega
theorem w64_w64_r (a b : Int) : w64 (a + w64 b) = w64 (a + b) := by rw [Int.add_comm, w64_w64_l, Int.add_comm]
theorem eq_of_getD {α : Type} [Inhabited α] {a b : List α} (h : a.length = b.length) (hg : ∀ j, j < a.length → a.getD j default = b.getD j default) : a = b := by
  apply List.ext_getElem h
  intro i h1 h2
  have := hg i h1
  simpa [List.getD, List.getElem?_eq_getElem h1, List.getElem?_eq_getElem h2] using this
end Go.Rb
namespace Go.Rb
theorem pow_mono {a b : Nat} (h : a ≤ b) : (2 : Int) ^ a ≤ 2 ^ b := by
  have := Nat.pow_le_pow_right (n := 2) (by omega) h
  exact_mod_cast this
theorem val_lt40 {l : List Bool} (h : l.length ≤ 40) : 0 ≤ val l ∧ val l < 1099511627776 := by
  have h1 := val_bound l
  have h2 : (2 : Int) ^ l.length ≤ 2 ^ 40 := pow_mono h
  exact ⟨h1.1, Int.lt_of_lt_of_le h1.2 h2⟩
theorem pow40 {k : Nat} (h : k ≤ 40) : 0 < (2 : Int) ^ k ∧ (2 : Int) ^ k ≤ 1099511627776 := ⟨pow_pos' k, pow_mono (b := 40) h⟩
theorem takeR_eq (l : List Bool) (w : Int) : takeR l w = ((readR l w).1, (if (readR l w).2 = 0 then l.drop w.toNat else []), (readR l w).2) := by
  unfold takeR readR
  by_cases h : w < 0 ∨ w > 40
  · simp [h]
  · by_cases h2 : (l.length : Int) < w
    · simp [h, h2]
    · simp [h, h2]
theorem readR_ok {l : List Bool} {w : Int} (h : (readR l w).2 = 0) : 0 ≤ w ∧ w ≤ 40 ∧ w ≤ l.length ∧ (readR l w).1 = val (l.take w.toNat) := by
  unfold readR at h ⊢
  by_cases h1 : w < 0 ∨ w > 40
  · simp [h1] at h
  · by_cases h2 : (l.length : Int) < w
    · simp [h1, h2] at h
    · simp only [h1, h2, if_false, and_true]
      omega
theorem readR_bad {l : List Bool} {w : Int} (h : ¬ (readR l w).2 = 0) : (readR l w).1 = 0 := by
  unfold readR at h ⊢
  by_cases h1 : w < 0 ∨ w > 40
  · simp [h1]
  · by_cases h2 : (l.length : Int) < w
    · simp [h1, h2]
    · simp [h1, h2] at h
theorem val_step {l : List Bool} {j : Nat} (h : j < l.length) : val (l.drop (l.length - 1 - j)) = (if l.getD (l.length - 1 - j) default then 1 else 0) * 2 ^ j + val (l.drop (l.length - j)) := by
  have e : l.drop (l.length - 1 - j) = l.getD (l.length - 1 - j) default :: l.drop (l.length - j) := by
    rw [List.drop_eq_getElem_cons (by omega), show l.length - 1 - j + 1 = l.length - j from by omega]
    congr 1
    simp [List.getD, List.getElem?_eq_getElem (show l.length - 1 - j < l.length by omega)]
  rw [e, val_cons, List.length_drop, show l.length - (l.length - j) = j from by omega]
/-- Places that are filled from behind. -/
def fillB (w : Nat) (n : Int) (j : Nat) : List Bool := List.replicate (w - j) false ++ (bitsN w n).drop (w - j)
theorem fillB_len (w : Nat) (n : Int) {j : Nat} (h : j ≤ w) : (fillB w n j).length = w := by
  simp [fillB, bitsN_len]
theorem fillB_zero (w : Nat) (n : Int) : fillB w n 0 = List.replicate w false := by simp [fillB, bitsN_len]
theorem fillB_all (w : Nat) (n : Int) : fillB w n w = bitsN w n := by simp [fillB]
theorem fillB_next {w : Nat} {n : Int} {j : Nat} (h : j < w) : (fillB w n j).take (w - 1 - j) ++ bitAt n j :: (fillB w n j).drop (w - 1 - j + 1) = fillB w n (j + 1) := by
  have e1 : (fillB w n j).take (w - 1 - j) = List.replicate (w - (j + 1)) false := by
    rw [fillB, List.take_append_of_le_length (by simp; omega), List.take_replicate]
    congr 1; omega
  have e2 : (fillB w n j).drop (w - 1 - j + 1) = (bitsN w n).drop (w - j) := by
    rw [fillB, List.drop_append_of_le_length (by simp; omega)]
    rw [show w - 1 - j + 1 = w - j from by omega]
    simp
  have e3 : (bitsN w n).drop (w - (j + 1)) = bitAt n j :: (bitsN w n).drop (w - j) := by
    rw [List.drop_eq_getElem_cons (by rw [bitsN_len]; omega), show w - (j + 1) + 1 = w - j from by omega]
    congr 1
    simp only [bitsN, List.getElem_map, List.getElem_range]
    congr 1; omega
  rw [e1, e2, fillB, e3]
theorem div_two (n : Int) (j : Nat) : n / 2 ^ j / 2 = n / 2 ^ (j + 1) := by
  rw [Int.ediv_ediv_of_nonneg (by have := pow_pos' j; omega), Int.pow_succ]
end Go.Rb
namespace Go.Rb
theorem putR_len {l : List Bool} {n w : Int} (h : l.length ≤ 140737488351232) : (putR l n w).1.length < 4611686018427387904 := by
  unfold putR
  split
  · rename_i hc
    unfold putOk at hc
    simp only [List.length_append, bitsN_len]
    omega
  · simp
theorem takeR_len {l : List Bool} {w : Int} (h : l.length ≤ 140737488351232) : (takeR l w).2.1.length < 4611686018427387904 := by
  unfold takeR
  split
  · simp
  · split
    · simp
    · simp only [List.length_drop]
      omega
theorem bitsN_succ (w : Nat) (n : Int) : bitsN (w + 1) n = bitsN w (n / 2) ++ [bitAt n 0] := by
  apply List.ext_getElem
  · simp [bitsN_len]
  · intro i h1 h2
    rw [List.getElem_append]
    rw [bitsN_len] at h1
    split
    · rename_i h3
      rw [bitsN_len] at h3
      simp only [bitsN, List.getElem_map, List.getElem_range, bitAt]
      rw [Int.ediv_ediv_of_nonneg (by omega), show w + 1 - 1 - i = (w - 1 - i) + 1 from by omega, Int.pow_succ, Int.mul_comm]
    · rename_i h3
      rw [bitsN_len] at h3
      have hi : i = w := by omega
      subst hi
      simp [bitsN, bitsN_len]
theorem val_bitsN : ∀ (w : Nat) (n : Int), 0 ≤ n → n < 2 ^ w → val (bitsN w n) = n
  | 0, n, h0, h1 => by
    have : n = 0 := by simp at h1; omega
    subst this; rfl
  | w + 1, n, h0, h1 => by
    rw [Int.pow_succ] at h1
    rw [bitsN_succ, val_snoc, val_bitsN w (n / 2) (by omega) (by omega)]
    simp only [bitAt, Int.pow_zero, Int.ediv_one]
    by_cases h : n % 2 = 1
    · simp [h]; omega
    · simp [h]; omega
theorem bitsN_val : ∀ l : List Bool, bitsN l.length (val l) = l := by
  intro l
  induction h : l.length generalizing l with
  | zero => rw [List.length_eq_zero_iff] at h; subst h; rfl
  | succ w ih =>
    have hl : l ≠ [] := by intro h0; subst h0; simp at h
    rw [bitsN_succ]
    obtain ⟨k, b, rfl⟩ : ∃ k b, l = k ++ [b] := ⟨l.dropLast, l.getLast hl, (List.dropLast_concat_getLast hl).symm⟩
    have hk : k.length = w := by simpa using h
    rw [val_snoc]
    have e1 : (2 * val k + (if b then 1 else 0)) / 2 = val k := by cases b <;> simp <;> omega
    have e2 : bitAt (2 * val k + (if b then 1 else 0)) 0 = b := by
      simp only [bitAt, Int.pow_zero, Int.ediv_one]
      cases b
      · simp
      · simp only [if_true, beq_iff_eq]; omega
    rw [e1, e2, ih k hk]

/-! ### Numbers one after the other -/
def wAt (ws : List Int) (k : Nat) : Int := ws.getD k default % 41
def vAt (ns ws : List Int) (k : Nat) : Int := ns.getD k default % (1 * 2 ^ (wAt ws k).toNat)
def encB (ns ws : List Int) (k : Nat) : List Bool := ((List.range k).map fun i => bitsN (wAt ws i).toNat (vAt ns ws i)).flatten
def vsB (ns ws : List Int) (k : Nat) : List Int := (List.range k).map (vAt ns ws)
def wsB (ws : List Int) (k : Nat) : List Int := (List.range k).map (wAt ws)
theorem wAt_in (ws : List Int) (k : Nat) : 0 ≤ wAt ws k ∧ wAt ws k ≤ 40 := by unfold wAt; omega
theorem vAt_in (ns ws : List Int) (k : Nat) : 0 ≤ vAt ns ws k ∧ vAt ns ws k < 2 ^ (wAt ws k).toNat := by
  have h := pow_pos' (wAt ws k).toNat
  unfold vAt
  rw [Int.one_mul]
  exact ⟨Int.emod_nonneg _ (by omega), Int.emod_lt_of_pos _ h⟩
theorem encB_next (ns ws : List Int) (k : Nat) : encB ns ws (k + 1) = encB ns ws k ++ bitsN (wAt ws k).toNat (vAt ns ws k) := by
  simp [encB, List.range_succ]
theorem vsB_next (ns ws : List Int) (k : Nat) : vsB ns ws (k + 1) = vsB ns ws k ++ [vAt ns ws k] := by simp [vsB, List.range_succ]
theorem wsB_next (ws : List Int) (k : Nat) : wsB ws (k + 1) = wsB ws k ++ [wAt ws k] := by simp [wsB, List.range_succ]
theorem vsB_len (ns ws : List Int) (k : Nat) : (vsB ns ws k).length = k := by simp [vsB]
theorem wsB_len (ws : List Int) (k : Nat) : (wsB ws k).length = k := by simp [wsB]
theorem vsB_get {ns ws : List Int} {i k : Nat} (h : i < k) : (vsB ns ws k).getD i default = vAt ns ws i := by simp [vsB, List.getD, h]
theorem wsB_get {ws : List Int} {i k : Nat} (h : i < k) : (wsB ws k).getD i default = wAt ws i := by simp [wsB, List.getD, h]
theorem encB_len (ns ws : List Int) (k : Nat) : (encB ns ws k).length ≤ 40 * k := by
  induction k with
  | zero => simp [encB]
  | succ k ih =>
    have := wAt_in ws k
    rw [encB_next, List.length_append, bitsN_len]; omega
theorem put_next (ns ws : List Int) (k : Nat) : putR (encB ns ws k) (vAt ns ws k) (wAt ws k) = (encB ns ws (k + 1), 0) := by
  have h1 := wAt_in ws k
  have h2 := vAt_in ns ws k
  unfold putR
  rw [if_pos ⟨h1.1, h1.2, h2.1, h2.2⟩, encB_next]
theorem encB_split {ns ws : List Int} {k n : Nat} (h : k < n) : (encB ns ws n).drop (encB ns ws k).length = bitsN (wAt ws k).toNat (vAt ns ws k) ++ (encB ns ws n).drop (encB ns ws (k + 1)).length := by
  have key : ∀ m, (encB ns ws (k + 1 + m)).drop (encB ns ws k).length = bitsN (wAt ws k).toNat (vAt ns ws k) ++ (encB ns ws (k + 1 + m)).drop (encB ns ws (k + 1)).length ∧ (encB ns ws (k + 1)).length ≤ (encB ns ws (k + 1 + m)).length := by
    intro m
    induction m with
    | zero =>
      refine ⟨?_, Nat.le_refl _⟩
      rw [Nat.add_zero, List.drop_of_length_le (Nat.le_refl _), List.append_nil, encB_next, List.drop_left]
    | succ m ih =>
      rw [show k + 1 + (m + 1) = (k + 1 + m) + 1 from rfl, encB_next ns ws (k + 1 + m)]
      have h1 : (encB ns ws k).length ≤ (encB ns ws (k + 1)).length := by rw [encB_next, List.length_append]; omega
      rw [List.drop_append_of_le_length (by omega), List.drop_append_of_le_length ih.2, ih.1, List.append_assoc, List.length_append]
      exact ⟨rfl, by omega⟩
  obtain ⟨m, rfl⟩ : ∃ m, n = k + 1 + m := ⟨n - (k + 1), by omega⟩
  exact (key m).1
/-- What is behind the first k. -/
def restB (ns ws : List Int) (n k : Nat) (more : List Bool) : List Bool := (encB ns ws n).drop (encB ns ws k).length ++ more
theorem take_rest {ns ws : List Int} {n k : Nat} {more : List Bool} (h : k < n) : takeR (restB ns ws n k more) (wAt ws k) = (vAt ns ws k, restB ns ws n (k + 1) more, 0) := by
  have h1 := wAt_in ws k
  have h2 := vAt_in ns ws k
  unfold restB
  rw [encB_split h, List.append_assoc]
  unfold takeR
  rw [if_neg (by omega), if_neg (by rw [List.length_append, bitsN_len]; omega)]
  rw [List.take_append_of_le_length (by rw [bitsN_len]; omega), List.take_of_length_le (by rw [bitsN_len]; omega), val_bitsN _ _ h2.1 h2.2]
  rw [List.drop_append_of_le_length (by rw [bitsN_len]; omega), List.drop_of_length_le (by rw [bitsN_len]; omega), List.nil_append]
theorem restB_zero (ns ws : List Int) (n : Nat) (more : List Bool) : restB ns ws n 0 more = encB ns ws n ++ more := by simp [restB, encB]
theorem restB_all (ns ws : List Int) (n : Nat) (more : List Bool) : restB ns ws n n more = more := by simp [restB]
theorem restB_len (ns ws : List Int) (n k : Nat) (more : List Bool) : (restB ns ws n k more).length ≤ 40 * n + more.length := by
  have := encB_len ns ws n
  simp only [restB, List.length_append, List.length_drop]; omega
end Go.Rb
namespace Go.Rb
def foldN (v : Int) : Int := if v < 0 then -2 * v - 1 else 2 * v
theorem foldN_or (v : Int) : (v < 0 ∧ foldN v = -2 * v - 1) ∨ (0 ≤ v ∧ foldN v = 2 * v) := by unfold foldN; split <;> omega
def unf (n : Int) : Int := if n % 2 = 1 then (-(n + 1)).tdiv 2 else n.tdiv 2
theorem unf_or {n : Int} (h : 0 ≤ n) : (n % 2 = 1 ∧ unf n = -(n / 2 + 1) ∧ (0 - (n + 1)).tdiv 2 = unf n) ∨ (n % 2 = 0 ∧ unf n = n / 2 ∧ n.tdiv 2 = unf n) := by
  unfold unf
  have h1 : n.tdiv 2 = n / 2 := Int.tdiv_eq_ediv_of_nonneg h
  have h2 : (-(n + 1)).tdiv 2 = -((n + 1) / 2) := by rw [Int.neg_tdiv, Int.tdiv_eq_ediv_of_nonneg (by omega)]
  split
  · left; refine ⟨by assumption, ?_, by rw [Int.zero_sub]⟩; rw [h2]; omega
  · right; refine ⟨by omega, h1, rfl⟩
theorem unf_fold (v : Int) : unf (foldN v) = v := by
  have h := foldN_or v
  have h1 := unf_or (n := foldN v) (by omega)
  omega
theorem fold_unf {n : Int} (h : 0 ≤ n) : foldN (unf n) = n := by
  have h1 := unf_or h
  have h2 := foldN_or (unf n)
  omega
theorem pow8 {k : Nat} (h : k ≤ 8) : 1 ≤ (8 : Int) ^ k ∧ (8 : Int) ^ k ≤ 16777216 := by
  have h1 : (8 : Int) ^ k ≤ 8 ^ 8 := by
    have := Nat.pow_le_pow_right (n := 8) (by omega) h
    exact_mod_cast this
  have h2 : (0 : Int) < 8 ^ k := Int.pow_pos (by omega)
  exact ⟨by omega, h1⟩
def zenc : Nat → Int → List Bool
  | 0, _ => []
  | f + 1, m => bitsN 4 ((if m ≥ 8 then 8 else 0) + m % 8) ++ (if m ≥ 8 then zenc f (m / 8) else [])
theorem zenc_last {f : Nat} {m : Int} (hf : 1 ≤ f) (h : m < 8) : zenc f m = bitsN 4 (0 + m % 8) := by
  obtain ⟨g, rfl⟩ : ∃ g, f = g + 1 := ⟨f - 1, by omega⟩
  rw [zenc, if_neg (by omega), if_neg (by omega), List.append_nil]
theorem zenc_more {f : Nat} {m : Int} (hf : 1 ≤ f) (h : 8 ≤ m) : zenc f m = bitsN 4 (8 + m % 8) ++ zenc (f - 1) (m / 8) := by
  obtain ⟨g, rfl⟩ : ∃ g, f = g + 1 := ⟨f - 1, by omega⟩
  rw [zenc, if_pos h, if_pos h]; rfl
theorem zenc_len : ∀ (f : Nat) (m : Int), (zenc f m).length ≤ 4 * f
  | 0, _ => by simp [zenc]
  | f + 1, m => by
    have := zenc_len f (m / 8)
    rw [zenc, List.length_append, bitsN_len]
    split
    · omega
    · simp; omega
theorem div8_lt {m : Int} {f : Nat} (h : m < 8 ^ f) (h8 : 8 ≤ m) : 2 ≤ f ∧ m / 8 < 8 ^ (f - 1) := by
  match f, h with
  | 0, h => simp at h; omega
  | 1, h => simp at h; omega
  | f + 2, h =>
    refine ⟨by omega, ?_⟩
    rw [Int.pow_succ] at h
    show m / 8 < 8 ^ (f + 1)
    omega
def zputR (l : List Bool) (v : Int) : List Bool × Int := if v < -4000000 ∨ v > 4000000 then ([], 3) else (l ++ zenc 8 (foldN v), 0)
theorem put4 (k : List Bool) {n : Int} (h0 : 0 ≤ n) (h1 : n < 16) : putR k n 4 = (k ++ bitsN 4 n, 0) := by
  unfold putR
  rw [if_pos ⟨by omega, by omega, h0, by simpa using h1⟩]; rfl
theorem putm {k : List Bool} {m : Int} (h : 0 ≤ m) : putR k (8 + m % 8) 4 = (k ++ bitsN 4 (8 + m % 8), 0) ∧ putR k (0 + m % 8) 4 = (k ++ bitsN 4 (0 + m % 8), 0) :=
  ⟨put4 k (by omega) (by omega), put4 k (by omega) (by omega)⟩

/-! ### Reading -/
def zread : Nat → Nat → Int → Int → List Bool → Int × Int × Int
  | 0, _, _, _, _ => (0, 0, 3)
  | f + 1, k, n, sc, l =>
    if l.length < 4 then (0, 0, 8) else
    if (readR l 4).1 = 0 ∧ k > 0 then (0, 0, 4) else
    if n + (readR l 4).1 % 8 * sc > 8000000 then (0, 0, 3) else
    if (readR l 4).1 < 8 then (unf (n + (readR l 4).1 % 8 * sc), 4 * (k : Int) + 4, 0) else zread f (k + 1) (n + (readR l 4).1 % 8 * sc) (sc * 8) (l.drop 4)
def zreadR (l : List Bool) : Int × Int × Int := zread 8 0 0 1 l
theorem rd4 (d : List Bool) : (d.length < 4 ∧ (readR d 4).1 = 0 ∧ (readR d 4).2 = 8) ∨ (4 ≤ d.length ∧ (readR d 4).1 = val (d.take 4) ∧ (readR d 4).2 = 0 ∧ 0 ≤ (readR d 4).1 ∧ (readR d 4).1 < 16) := by
  unfold readR
  rw [if_neg (by omega)]
  by_cases h : (d.length : Int) < 4
  · rw [if_pos h]; left; exact ⟨by omega, rfl, rfl⟩
  · rw [if_neg h]
    have h1 := val_bound (d.take 4)
    rw [List.length_take, Nat.min_eq_left (by omega)] at h1
    right; exact ⟨by omega, rfl, rfl, h1.1, by simpa using h1.2⟩
section
variable {f k : Nat} {n sc : Int} {l : List Bool}
theorem zr_torn (hf : 1 ≤ f) (h : l.length < 4) : zread f k n sc l = (0, 0, 8) := by
  obtain ⟨g, rfl⟩ : ∃ g, f = g + 1 := ⟨f - 1, by omega⟩
  rw [zread, if_pos h]
theorem zr_form (hf : 1 ≤ f) (h : 4 ≤ l.length) (h0 : (readR l 4).1 = 0) (hk : 0 < k) : zread f k n sc l = (0, 0, 4) := by
  obtain ⟨g, rfl⟩ : ∃ g, f = g + 1 := ⟨f - 1, by omega⟩
  rw [zread, if_neg (by omega), if_pos ⟨h0, hk⟩]
theorem zr_range (hf : 1 ≤ f) (h : 4 ≤ l.length) (h0 : ¬ ((readR l 4).1 = 0 ∧ 0 < k)) (h1 : n + (readR l 4).1 % 8 * sc > 8000000) : zread f k n sc l = (0, 0, 3) := by
  obtain ⟨g, rfl⟩ : ∃ g, f = g + 1 := ⟨f - 1, by omega⟩
  rw [zread, if_neg (by omega), if_neg h0, if_pos h1]
theorem zr_done (hf : 1 ≤ f) (h : 4 ≤ l.length) (h0 : ¬ ((readR l 4).1 = 0 ∧ 0 < k)) (h1 : ¬ n + (readR l 4).1 % 8 * sc > 8000000) (h2 : (readR l 4).1 < 8) : zread f k n sc l = (unf (n + (readR l 4).1 % 8 * sc), 4 * (k : Int) + 4, 0) := by
  obtain ⟨g, rfl⟩ : ∃ g, f = g + 1 := ⟨f - 1, by omega⟩
  rw [zread, if_neg (by omega), if_neg h0, if_neg h1, if_pos h2]
theorem zr_next (hf : 1 ≤ f) (h : 4 ≤ l.length) (h0 : ¬ ((readR l 4).1 = 0 ∧ 0 < k)) (h1 : ¬ n + (readR l 4).1 % 8 * sc > 8000000) (h2 : ¬ (readR l 4).1 < 8) : zread f k n sc l = zread (f - 1) (k + 1) (n + (readR l 4).1 % 8 * sc) (sc * 8) (l.drop 4) := by
  obtain ⟨g, rfl⟩ : ∃ g, f = g + 1 := ⟨f - 1, by omega⟩
  rw [zread, if_neg (by omega), if_neg h0, if_neg h1, if_neg h2]; rfl
theorem zr_zero : zread 0 k n sc l = (0, 0, 3) := rfl
end
theorem mul_bd {a b c : Int} (h0 : 0 ≤ a) (h1 : a ≤ 7) (h2 : 0 ≤ b) (h3 : b ≤ c) : 0 ≤ a * b ∧ a * b ≤ 7 * c := by
  refine ⟨Int.mul_nonneg h0 h2, ?_⟩
  have h4 : a * b ≤ 7 * b := Int.mul_le_mul_of_nonneg_right h1 h2
  omega
theorem zread_ok : ∀ (f k : Nat) (n sc : Int) (l : List Bool), (zread f k n sc l).2.2 = 0 → 4 * (k : Int) ≤ (zread f k n sc l).2.1 ∧ (zread f k n sc l).2.1 ≤ 4 * (k : Int) + l.length
  | 0, k, n, sc, l, h => by simp [zread] at h
  | f + 1, k, n, sc, l, h => by
    by_cases h1 : l.length < 4
    · rw [zr_torn (by omega) h1] at h; simp at h
    · by_cases h2 : (readR l 4).1 = 0 ∧ 0 < k
      · rw [zr_form (by omega) (by omega) h2.1 h2.2] at h; simp at h
      · by_cases h3 : n + (readR l 4).1 % 8 * sc > 8000000
        · rw [zr_range (by omega) (by omega) h2 h3] at h; simp at h
        · by_cases h4 : (readR l 4).1 < 8
          · rw [zr_done (by omega) (by omega) h2 h3 h4]; simp only; omega
          · rw [zr_next (by omega) (by omega) h2 h3 h4] at h ⊢
            have := zread_ok _ _ _ _ _ h
            rw [List.length_drop] at this
            simp only [Nat.add_sub_cancel] at this ⊢
            push_cast at this
            omega
theorem zread_bad : ∀ (f k : Nat) (n sc : Int) (l : List Bool), ¬ (zread f k n sc l).2.2 = 0 → (zread f k n sc l).1 = 0 ∧ (zread f k n sc l).2.1 = 0
  | 0, k, n, sc, l, h => ⟨rfl, rfl⟩
  | f + 1, k, n, sc, l, h => by
    by_cases h1 : l.length < 4
    · rw [zr_torn (by omega) h1]; exact ⟨rfl, rfl⟩
    · by_cases h2 : (readR l 4).1 = 0 ∧ 0 < k
      · rw [zr_form (by omega) (by omega) h2.1 h2.2]; exact ⟨rfl, rfl⟩
      · by_cases h3 : n + (readR l 4).1 % 8 * sc > 8000000
        · rw [zr_range (by omega) (by omega) h2 h3]; exact ⟨rfl, rfl⟩
        · by_cases h4 : (readR l 4).1 < 8
          · rw [zr_done (by omega) (by omega) h2 h3 h4] at h; simp at h
          · rw [zr_next (by omega) (by omega) h2 h3 h4] at h ⊢
            exact zread_bad _ _ _ _ _ h
theorem zreadR_ok {l : List Bool} (h : (zreadR l).2.2 = 0) : 0 ≤ (zreadR l).2.1 ∧ (zreadR l).2.1 ≤ l.length := by
  have := zread_ok 8 0 0 1 l h
  unfold zreadR
  omega
theorem zreadR_bad {l : List Bool} (h : ¬ (zreadR l).2.2 = 0) : (zreadR l).1 = 0 ∧ (zreadR l).2.1 = 0 := zread_bad 8 0 0 1 l h
def ztakeR (l : List Bool) : Int × List Bool × Int := ((zreadR l).1, (if (zreadR l).2.2 = 0 then l.drop (zreadR l).2.1.toNat else []), (zreadR l).2.2)

theorem zputR_len (l : List Bool) (v : Int) : (zputR l v).1.length ≤ l.length + 32 := by
  unfold zputR
  have := zenc_len 8 (foldN v)
  split
  · simp
  · rw [List.length_append]; omega
theorem ztakeR_len (l : List Bool) : (ztakeR l).2.1.length ≤ l.length := by
  unfold ztakeR
  dsimp only
  split
  · rw [List.length_drop]; omega
  · simp
/-! ### The document's way -/
def dig : Nat → Int → List Int
  | 0, _ => []
  | f + 1, m => m % 8 :: (if m ≥ 8 then dig f (m / 8) else [])
def grp (more : Bool) (d : Int) : List Bool := [more, decide (d ≥ 4), decide (d.tmod 4 ≥ 2), d.tmod 2 == 1]
def codeAt (D : List Int) (i : Nat) : List Bool := ((List.range i).map fun (j : Nat) => grp (decide ((j : Int) < D.length - 1)) (D.getD j default)).flatten
theorem codeAt_next (D : List Int) (i : Nat) : codeAt D (i + 1) = codeAt D i ++ grp (decide ((i : Int) < D.length - 1)) (D.getD i default) := by simp [codeAt, List.range_succ]
theorem codeAt_len (D : List Int) (i : Nat) : (codeAt D i).length = 4 * i := by
  induction i with
  | zero => simp [codeAt]
  | succ i ih => rw [codeAt_next, List.length_append, ih]; simp [grp]; omega
theorem grp_bits {d : Int} (b : Bool) (h0 : 0 ≤ d) (h1 : d < 8) : grp b d = bitsN 4 ((if b then 8 else 0) + d) := by
  have h : d = 0 ∨ d = 1 ∨ d = 2 ∨ d = 3 ∨ d = 4 ∨ d = 5 ∨ d = 6 ∨ d = 7 := by omega
  cases b <;> rcases h with rfl | rfl | rfl | rfl | rfl | rfl | rfl | rfl <;> decide
theorem codeAt_cons (d : Int) (D : List Int) : codeAt (d :: D) (D.length + 1) = grp (decide (0 < D.length)) d ++ codeAt D D.length := by
  unfold codeAt
  rw [List.range_succ_eq_map, List.map_cons, List.flatten_cons, List.map_map]
  congr 1
  · congr 1
    simp only [List.length_cons]
    apply decide_eq_decide.2
    omega
  · congr 1
    apply List.map_congr_left
    intro j _
    simp only [Function.comp, List.getD_cons_succ, List.length_cons]
    congr 1
    apply decide_eq_decide.2
    omega
theorem dig_pos {f : Nat} {m : Int} (h : 1 ≤ f) : 0 < (dig f m).length := by
  obtain ⟨g, rfl⟩ : ∃ g, f = g + 1 := ⟨f - 1, by omega⟩
  simp [dig]
theorem code_dig : ∀ (f : Nat) (m : Int), 0 ≤ m → m < 8 ^ f → 1 ≤ f → codeAt (dig f m) (dig f m).length = zenc f m
  | 0, m, _, _, h => by omega
  | f + 1, m, h0, h1, _ => by
    rw [dig, List.length_cons, codeAt_cons]
    by_cases h8 : m ≥ 8
    · have h2 := div8_lt h1 h8
      rw [if_pos h8, zenc_more (by omega) h8]
      have hp := dig_pos (f := f) (m := m / 8) (by omega)
      rw [code_dig f (m / 8) (by omega) h2.2 (by omega), grp_bits _ (by omega) (by omega)]
      simp [hp]
    · rw [if_neg h8, zenc_last (by omega) (by omega), grp_bits _ (by omega) (by omega)]
      simp [codeAt]
theorem dig_step {f : Nat} {m : Int} (hf : 1 ≤ f) (h0 : 0 ≤ m) : dig f m = (m % 8) :: (if m / 8 > 0 then dig (f - 1) (m / 8) else []) := by
  obtain ⟨g, rfl⟩ : ∃ g, f = g + 1 := ⟨f - 1, by omega⟩
  rw [dig]
  by_cases h8 : m ≥ 8
  · rw [if_pos h8, if_pos (by omega)]; rfl
  · rw [if_neg h8, if_neg (by omega)]
theorem code_fold {v : Int} (h : -4000000 ≤ v ∧ v ≤ 4000000) : codeAt (dig 8 (foldN v)) (dig 8 (foldN v)).length = zenc 8 (foldN v) := by
  have h1 := foldN_or v
  exact code_dig 8 _ (by omega) (by show _ < (16777216 : Int); omega) (by omega)
/-! A group as the document takes it apart. -/
def dAt (b : List Bool) (i : Nat) : Int := (if 0 < i ∧ b.getD 0 default then 4 else 0) + (if 1 < i ∧ b.getD 1 default then 2 else 0) + (if 2 < i ∧ b.getD 2 default then 1 else 0)
theorem dAt_next {b : List Bool} {i : Nat} (h : i < 3) : dAt b (i + 1) = dAt b i + (if b.getD i default then (4 : Int) / 2 ^ i else 0) := by
  have h3 : i = 0 ∨ i = 1 ∨ i = 2 := by omega
  rcases h3 with rfl | rfl | rfl <;> simp [dAt]
theorem dAt_in (b : List Bool) (i : Nat) : 0 ≤ dAt b i ∧ dAt b i ≤ 7 := by
  unfold dAt
  split <;> split <;> split <;> omega
theorem group {l : List Bool} (h : 4 ≤ l.length) : (readR l 4).1 = (if l.getD 0 default then 8 else 0) + dAt ((l.take 4).drop 1) 3 := by
  match l, h with
  | a :: b :: c :: d :: r, _ =>
    have h1 := rd4 (a :: b :: c :: d :: r)
    simp only [List.length_cons] at h1
    have h2 : (readR (a :: b :: c :: d :: r) 4).1 = val [a, b, c, d] := by
      rcases h1 with h1 | h1
      · omega
      · exact h1.2.1
    rw [h2]
    show val [a, b, c, d] = (if a = true then 8 else 0) + dAt [b, c, d] 3
    cases a <;> cases b <;> cases c <;> cases d <;> decide
theorem group_f {l : List Bool} (h : 4 ≤ l.length) (hb : l.getD 0 default = false) : (readR l 4).1 = dAt ((l.take 4).drop 1) 3 := by rw [group h, hb]; simp
theorem group_t {l : List Bool} (h : 4 ≤ l.length) (hb : l.getD 0 default = true) : (readR l 4).1 = 8 + dAt ((l.take 4).drop 1) 3 := by rw [group h, hb]; simp
theorem group_mod {l : List Bool} (h : 4 ≤ l.length) : (readR l 4).1 % 8 = dAt ((l.take 4).drop 1) 3 := by
  have h1 := group h
  have h2 := dAt_in ((l.take 4).drop 1) 3
  split at h1 <;> omega
end Go.Rb
namespace Go.Rb
def PtIn (p : Pt) : Prop := 0 ≤ p.t ∧ p.t ≤ 100000 ∧ -1000000 ≤ p.v ∧ p.v ≤ 1000000
def chk : Int → List Pt → Int
  | _, [] => 0
  | last, p :: r => if p.t < 0 ∨ p.t > 100000 ∨ p.v < -1000000 ∨ p.v > 1000000 then 3 else if last ≥ p.t then 7 else chk p.t r
def checkL (l : List Pt) : Int := if l.length > 40 then 2 else chk (-1) l
def lastT (l : List Pt) (i : Nat) : Int := if i = 0 then -1 else (l.getD (i - 1) default).t
theorem drop_cons {α : Type} [Inhabited α] {l : List α} {i : Nat} (h : i < l.length) : l.drop i = l.getD i default :: l.drop (i + 1) := by
  rw [List.drop_eq_getElem_cons h]; simp [List.getD, List.getElem?_eq_getElem h]
theorem chk_step {l : List Pt} {i : Nat} (h : i < l.length) : chk (lastT l i) (l.drop i) =
    if (l.getD i default).t < 0 ∨ (l.getD i default).t > 100000 ∨ (l.getD i default).v < -1000000 ∨ (l.getD i default).v > 1000000 then 3 else if lastT l i ≥ (l.getD i default).t then 7 else chk (lastT l (i + 1)) (l.drop (i + 1)) := by
  rw [drop_cons h, chk]
  simp [lastT]
theorem chk_all : ∀ {l : List Pt} {last : Int}, chk last l = 0 → ∀ p ∈ l, PtIn p
  | [], _, _, p, hp => by cases hp
  | q :: l, last, h, p, hp => by
    rw [chk] at h
    split at h
    · cases h
    · split at h
      · cases h
      · rcases List.mem_cons.1 hp with rfl | hp
        · unfold PtIn; omega
        · exact chk_all h p hp
theorem checkL_len {l : List Pt} (h : checkL l = 0) : l.length ≤ 40 := by
  unfold checkL at h
  split at h
  · cases h
  · omega
theorem checkL_chk {l : List Pt} (h : checkL l = 0) : chk (-1) l = 0 := by
  unfold checkL at h
  split at h
  · cases h
  · exact h
theorem checkL_all {l : List Pt} (h : checkL l = 0) : ∀ p ∈ l, PtIn p := chk_all (checkL_chk h)
theorem getD_mem {α : Type} [Inhabited α] {l : List α} {i : Nat} (h : i < l.length) : l.getD i default ∈ l := by
  have : l.getD i default = l[i] := by simp [List.getD, List.getElem?_eq_getElem h]
  rw [this]; exact List.getElem_mem h
end Go.Rb
namespace Go.Rb
theorem read4 {x : Int} (h0 : 0 ≤ x) (h1 : x < 16) (r : List Bool) : (readR (bitsN 4 x ++ r) 4).1 = x ∧ 4 ≤ (bitsN 4 x ++ r).length ∧ (bitsN 4 x ++ r).drop 4 = r := by
  have hl : (bitsN 4 x).length = 4 := bitsN_len 4 x
  have h2 : 4 ≤ (bitsN 4 x ++ r).length := by rw [List.length_append, hl]; omega
  refine ⟨?_, h2, ?_⟩
  · have h3 := rd4 (bitsN 4 x ++ r)
    have h4 : (bitsN 4 x ++ r).take 4 = bitsN 4 x := by rw [List.take_append_of_le_length (by omega), List.take_of_length_le (by omega)]
    rw [h4, val_bitsN 4 x h0 (by simpa using h1)] at h3
    omega
  · rw [List.drop_append_of_le_length (by omega), List.drop_of_length_le (by omega), List.nil_append]
theorem split8 (m sc : Int) : m % 8 * sc + m / 8 * (sc * 8) = m * sc := by
  have h1 : m / 8 * (sc * 8) = 8 * (m / 8) * sc := by rw [Int.mul_comm sc 8, ← Int.mul_assoc, Int.mul_comm (m / 8) 8]
  rw [h1, ← Int.add_mul]
  congr 1
  omega
theorem zread_enc : ∀ (f k : Nat) (n sc m : Int) (r : List Bool), 1 ≤ f → 0 ≤ m → m < 8 ^ f → 0 ≤ n → 1 ≤ sc → n + m * sc ≤ 8000000 → (0 < k → 1 ≤ m) →
    zread f k n sc (zenc f m ++ r) = (unf (n + m * sc), 4 * (k : Int) + (zenc f m).length, 0)
  | 0, k, n, sc, m, r, hf, _, _, _, _, _, _ => by omega
  | f + 1, k, n, sc, m, r, hf, h0, h1, hn, hsc, hb, hk => by
    by_cases h8 : m < 8
    · rw [zenc_last hf h8]
      have hr := read4 (x := 0 + m % 8) (by omega) (by omega) r
      have hx : (readR (bitsN 4 (0 + m % 8) ++ r) 4).1 % 8 = m := by rw [hr.1]; omega
      rw [zr_done hf hr.2.1 (by rw [hr.1]; omega) (by rw [hx]; omega) (by rw [hr.1]; omega), hx, bitsN_len]
      rfl
    · have h2 := div8_lt h1 (by omega)
      rw [zenc_more hf (by omega), List.append_assoc]
      have hr := read4 (x := 8 + m % 8) (by omega) (by omega) (zenc (f + 1 - 1) (m / 8) ++ r)
      have hx : (readR (bitsN 4 (8 + m % 8) ++ (zenc (f + 1 - 1) (m / 8) ++ r)) 4).1 % 8 = m % 8 := by rw [hr.1]; omega
      have hs := split8 m sc
      have hp1 : 0 ≤ m % 8 * sc := Int.mul_nonneg (by omega) (by omega)
      have hp2 : 0 ≤ m / 8 * (sc * 8) := Int.mul_nonneg (by omega) (by omega)
      rw [zr_next hf hr.2.1 (by rw [hr.1]; omega) (by rw [hx]; omega) (by rw [hr.1]; omega), hx, hr.2.2]
      simp only [Nat.add_sub_cancel] at h2 ⊢
      rw [zread_enc f (k + 1) _ _ (m / 8) r (by omega) (by omega) h2.2 (by omega) (by omega) (by omega) (by omega), List.length_append, bitsN_len]
      rw [show n + m % 8 * sc + m / 8 * (sc * 8) = n + m * sc from by omega]
      refine Prod.ext rfl (Prod.ext ?_ rfl)
      push_cast
      omega
theorem zread_inv : ∀ (f k : Nat) (n sc : Int) (l : List Bool), 0 ≤ n → 1 ≤ sc → (zread f k n sc l).2.2 = 0 →
    ∃ m, 0 ≤ m ∧ m < 8 ^ f ∧ (0 < k → 1 ≤ m) ∧ n + m * sc ≤ 8000000 ∧ (zread f k n sc l).1 = unf (n + m * sc) ∧ (zread f k n sc l).2.1 = 4 * (k : Int) + (zenc f m).length ∧ l = zenc f m ++ l.drop (zenc f m).length
  | 0, k, n, sc, l, _, _, h => by simp [zread] at h
  | f + 1, k, n, sc, l, hn, hsc, h => by
    by_cases h1 : l.length < 4
    · rw [zr_torn (by omega) h1] at h; simp at h
    have hrd := rd4 l
    have hlt : (l.take 4).length = 4 := by rw [List.length_take]; omega
    have htk : bitsN 4 (readR l 4).1 = l.take 4 := by
      have h9 := bitsN_val (l.take 4)
      rw [hlt] at h9
      rw [show (readR l 4).1 = val (l.take 4) from by omega]
      exact h9
    by_cases h2 : (readR l 4).1 = 0 ∧ 0 < k
    · rw [zr_form (by omega) (by omega) h2.1 h2.2] at h; simp at h
    by_cases h3 : n + (readR l 4).1 % 8 * sc > 8000000
    · rw [zr_range (by omega) (by omega) h2 h3] at h; simp at h
    by_cases h4 : (readR l 4).1 < 8
    · have hx : (readR l 4).1 % 8 = (readR l 4).1 := by omega
      have hp : (1 : Int) ≤ 8 ^ f := by have : (0 : Int) < 8 ^ f := Int.pow_pos (by omega); omega
      refine ⟨(readR l 4).1, by omega, by rw [Int.pow_succ]; omega, by omega, by rw [← hx]; omega, ?_, ?_, ?_⟩
      · rw [zr_done (by omega) (by omega) h2 h3 h4, hx]
      · rw [zr_done (by omega) (by omega) h2 h3 h4, zenc_last (by omega) h4, bitsN_len]; rfl
      · rw [zenc_last (by omega) h4, Int.zero_add, hx, htk, hlt, List.take_append_drop]
    · rw [zr_next (by omega) (by omega) h2 h3 h4] at h ⊢
      have hp1 : 0 ≤ (readR l 4).1 % 8 * sc := Int.mul_nonneg (by omega) (by omega)
      simp only [Nat.add_sub_cancel] at h ⊢
      obtain ⟨m, g1, g2, g3, g4, g5, g6, g7⟩ := zread_inv f (k + 1) _ _ _ (by omega) (by omega) h
      have g3' := g3 (by omega)
      have hs := split8 ((readR l 4).1 % 8 + 8 * m) sc
      rw [show ((readR l 4).1 % 8 + 8 * m) % 8 = (readR l 4).1 % 8 from by omega, show ((readR l 4).1 % 8 + 8 * m) / 8 = m from by omega] at hs
      have hz : zenc (f + 1) ((readR l 4).1 % 8 + 8 * m) = l.take 4 ++ zenc f m := by
        rw [zenc_more (by omega) (by omega), ← htk]
        rw [show 8 + ((readR l 4).1 % 8 + 8 * m) % 8 = (readR l 4).1 from by omega, show ((readR l 4).1 % 8 + 8 * m) / 8 = m from by omega]
        rfl
      refine ⟨(readR l 4).1 % 8 + 8 * m, by omega, by rw [Int.pow_succ]; omega, by omega, by omega, ?_, ?_, ?_⟩
      · rw [g5]; congr 1; omega
      · rw [g6, hz, List.length_append, hlt]; push_cast; omega
      · rw [hz, List.length_append, hlt, List.append_assoc, ← List.drop_drop, ← g7, List.take_append_drop]
theorem zenc_mono : ∀ (f : Nat) (m m' : Int), m ≤ m' → (zenc f m).length ≤ (zenc f m').length
  | 0, _, _, _ => by simp [zenc]
  | f + 1, m, m', h => by
    have ih := zenc_mono f (m / 8) (m' / 8) (by omega)
    rw [zenc, zenc, List.length_append, List.length_append, bitsN_len, bitsN_len]
    by_cases h8 : m ≥ 8
    · rw [if_pos h8, if_pos (show m' ≥ 8 by omega)]; omega
    · rw [if_neg h8]; simp
theorem zput_nil {v : Int} (h : -4000000 ≤ v ∧ v ≤ 4000000) (l : List Bool) : zputR l v = (l ++ zenc 8 (foldN v), 0) := by
  unfold zputR
  rw [if_neg (by omega)]
theorem zig_take {v : Int} (h : -4000000 ≤ v ∧ v ≤ 4000000) (r : List Bool) : ztakeR (zenc 8 (foldN v) ++ r) = (v, r, 0) := by
  have h1 := foldN_or v
  have h2 := zread_enc 8 0 0 1 (foldN v) r (by omega) (by omega) (by show _ < (16777216 : Int); omega) (by omega) (by omega) (by omega) (by omega)
  unfold ztakeR zreadR
  rw [h2]
  simp only [Int.zero_add, Int.mul_one, unf_fold, if_true]
  refine Prod.ext rfl (Prod.ext ?_ rfl)
  simp
theorem zig_again {l : List Bool} (h : (ztakeR l).2.2 = 0) : zputR [] (ztakeR l).1 = ((zputR [] (ztakeR l).1).1, 0) ∧ (zputR [] (ztakeR l).1).1 ++ (ztakeR l).2.1 = l := by
  have h' : (zread 8 0 0 1 l).2.2 = 0 := h
  obtain ⟨m, g1, g2, g3, g4, g5, g6, g7⟩ := zread_inv 8 0 0 1 l (by omega) (by omega) h'
  rw [Int.zero_add, Int.mul_one] at g4 g5
  have hu := unf_or g1
  have hv : (ztakeR l).1 = unf m := g5
  have hr : (ztakeR l).2.1 = l.drop (zenc 8 m).length := by
    show (if (zread 8 0 0 1 l).2.2 = 0 then l.drop (zread 8 0 0 1 l).2.1.toNat else []) = _
    rw [if_pos h', g6]
    congr 1
    omega
  rw [hv, hr, zput_nil (by omega), fold_unf g1]
  exact ⟨rfl, by rw [List.nil_append]; exact g7.symm⟩
theorem zig_again' {l : List Bool} (h : (ztakeR l).2.2 = 0) : ∃ Z, zputR [] (ztakeR l).1 = (Z, 0) ∧ Z ++ (ztakeR l).2.1 = l ∧ Z.length + (ztakeR l).2.1.length = l.length := by
  have h1 := zig_again h
  exact ⟨_, h1.1, h1.2, by have := congrArg List.length h1.2; rwa [List.length_append] at this⟩
theorem fold_near {v w : Int} (h : max v (0 - v) < max w (0 - w)) : (zenc 8 (foldN v)).length ≤ (zenc 8 (foldN w)).length := by
  have h1 := foldN_or v
  have h2 := foldN_or w
  exact zenc_mono _ _ _ (by omega)
end Go.Rb
namespace Go.Rb
abbrev badP (p : Pt) : Prop := p.t < 0 ∨ p.t > 100000 ∨ p.v < -1000000 ∨ p.v > 1000000
def chkP (p : Pt) : Int := if badP p then 3 else 0
theorem chkP_or (p : Pt) : (badP p ∧ chkP p = 3) ∨ (PtIn p ∧ chkP p = 0) := by
  unfold chkP
  by_cases h : badP p
  · left; exact ⟨h, if_pos h⟩
  · right; exact ⟨by unfold badP at h; unfold PtIn; omega, if_neg h⟩
def lastP (l : List Pt) (i : Nat) : Pt := if i = 0 then ⟨0, 0⟩ else l.getD (i - 1) default
def stepP (l : List Pt) (i : Nat) : Int := if i = 0 then 0 else (l.getD (i - 1) default).t - (lastP l (i - 1)).t
theorem lastP_next (l : List Pt) (i : Nat) : lastP l (i + 1) = l.getD i default := by simp [lastP]
theorem stepP_next (l : List Pt) (i : Nat) : stepP l (i + 1) = (l.getD i default).t - (lastP l i).t := by simp [stepP]
def itemB (last : Pt) (step : Int) (p : Pt) : List Bool := zenc 8 (foldN (p.t - last.t - step)) ++ zenc 8 (foldN (p.v - last.v))
def packAt (l : List Pt) (i : Nat) : List Bool := ((List.range i).map fun j => itemB (lastP l j) (stepP l j) (l.getD j default)).flatten
theorem packAt_next (l : List Pt) (i : Nat) : packAt l (i + 1) = packAt l i ++ itemB (lastP l i) (stepP l i) (l.getD i default) := by simp [packAt, List.range_succ]
theorem itemB_len (a : Pt) (s : Int) (p : Pt) : (itemB a s p).length ≤ 64 := by
  have h1 := zenc_len 8 (foldN (p.t - a.t - s))
  have h2 := zenc_len 8 (foldN (p.v - a.v))
  unfold itemB; rw [List.length_append]; omega
theorem packAt_len (l : List Pt) (i : Nat) : (packAt l i).length ≤ 64 * i := by
  induction i with
  | zero => simp [packAt]
  | succ i ih =>
    have := itemB_len (lastP l i) (stepP l i) (l.getD i default)
    rw [packAt_next, List.length_append]; omega
def packR (l : List Pt) : List Bool × Int := if checkL l = 0 then (packAt l l.length, 0) else ([], checkL l)
theorem packR_len (l : List Pt) : (packR l).1.length ≤ 2560 := by
  unfold packR
  split
  · rename_i h
    have h1 := packAt_len l l.length
    have h2 := checkL_len h
    show (packAt l l.length).length ≤ 2560
    omega
  · simp
/-- What is packed is in range. -/
theorem pk_in {l : List Pt} (h : checkL l = 0) {i : Nat} (hi : i < l.length) : PtIn (l.getD i default) ∧ PtIn (lastP l i) ∧ -100000 ≤ stepP l i ∧ stepP l i ≤ 100000 := by
  have hall := checkL_all h
  have hp : ∀ j, j < l.length → PtIn (l.getD j default) := fun j hj => hall _ (getD_mem hj)
  have hl : ∀ j, j ≤ l.length → PtIn (lastP l j) := by
    intro j hj
    unfold lastP
    split
    · unfold PtIn; decide
    · exact hp _ (by omega)
  refine ⟨hp i hi, hl i (by omega), ?_⟩
  unfold stepP
  split
  · omega
  · have h1 := hp (i - 1) (by omega)
    have h2 := hl (i - 1) (by omega)
    unfold PtIn at h1 h2
    omega
/-- The document's differences. -/
theorem second {l : List Pt} {i : Nat} : (i = 0 → (lastP l i).t = 0 ∧ (lastP l i).v = 0 ∧ stepP l i = 0) ∧ (0 < i → (lastP l i) = l.getD (i - 1) default) ∧ (i = 1 → stepP l i = (l.getD (i - 1) default).t) ∧
    (1 < i → stepP l i = (l.getD (i - 1) default).t - (l.getD (i - 2) default).t) := by
  refine ⟨?_, ?_, ?_, ?_⟩
  · rintro rfl; simp [lastP, stepP]
  · intro h; unfold lastP; rw [if_neg (by omega)]
  · rintro rfl; simp [lastP, stepP]
  · intro h
    unfold stepP lastP
    rw [if_neg (by omega), if_neg (by omega), show i - 1 - 1 = i - 2 from by omega]

/-! ### Unpacking -/
def stepE (k : Nat) (last p : Pt) : Int := if badP p then 3 else if 0 < k ∧ last.t ≥ p.t then 7 else 0
def nxt (last : Pt) (step : Int) (b : List Bool) : Pt := ⟨last.t + step + (zreadR b).1, last.v + (zreadR (b.drop (zreadR b).2.1.toNat)).1⟩
def bits1 (b : List Bool) : List Bool := b.drop (zreadR b).2.1.toNat
def bits2 (b : List Bool) : List Bool := (bits1 b).drop (zreadR (bits1 b)).2.1.toNat
def unpk : Nat → Nat → Pt → Int → List Pt → List Bool → List Pt × Int
  | 0, _, _, _, acc, b => if b.length > 0 then ([], 8) else (acc, 0)
  | f + 1, k, last, step, acc, b =>
    if ¬ (zreadR b).2.2 = 0 then ([], (zreadR b).2.2) else
    if ¬ (zreadR (bits1 b)).2.2 = 0 then ([], (zreadR (bits1 b)).2.2) else
    if ¬ stepE k last (nxt last step b) = 0 then ([], stepE k last (nxt last step b)) else
    unpk f (k + 1) (nxt last step b) ((nxt last step b).t - last.t) (acc ++ [nxt last step b]) (bits2 b)
def unpackR (b : List Bool) (n : Int) : List Pt × Int := if n < 0 ∨ n > 40 then ([], 2) else unpk n.toNat 0 ⟨0, 0⟩ 0 [] b
section
variable {f k : Nat} {last : Pt} {step : Int} {acc : List Pt} {b : List Bool}
theorem un_a (hf : 1 ≤ f) (h : ¬ (zreadR b).2.2 = 0) : unpk f k last step acc b = ([], (zreadR b).2.2) := by
  obtain ⟨g, rfl⟩ : ∃ g, f = g + 1 := ⟨f - 1, by omega⟩
  rw [unpk, if_pos h]
theorem un_b (hf : 1 ≤ f) (h : (zreadR b).2.2 = 0) (h1 : ¬ (zreadR (bits1 b)).2.2 = 0) : unpk f k last step acc b = ([], (zreadR (bits1 b)).2.2) := by
  obtain ⟨g, rfl⟩ : ∃ g, f = g + 1 := ⟨f - 1, by omega⟩
  rw [unpk, if_neg (by omega), if_pos h1]
theorem un_c (hf : 1 ≤ f) (h : (zreadR b).2.2 = 0) (h1 : (zreadR (bits1 b)).2.2 = 0) (h2 : ¬ stepE k last (nxt last step b) = 0) : unpk f k last step acc b = ([], stepE k last (nxt last step b)) := by
  obtain ⟨g, rfl⟩ : ∃ g, f = g + 1 := ⟨f - 1, by omega⟩
  rw [unpk, if_neg (by omega), if_neg (by omega), if_pos h2]
theorem un_d (hf : 1 ≤ f) (h : (zreadR b).2.2 = 0) (h1 : (zreadR (bits1 b)).2.2 = 0) (h2 : stepE k last (nxt last step b) = 0) :
    unpk f k last step acc b = unpk (f - 1) (k + 1) (nxt last step b) ((nxt last step b).t - last.t) (acc ++ [nxt last step b]) (bits2 b) := by
  obtain ⟨g, rfl⟩ : ∃ g, f = g + 1 := ⟨f - 1, by omega⟩
  rw [unpk, if_neg (by omega), if_neg (by omega), if_neg (by omega)]; rfl
theorem un_e (h : b.length > 0) : unpk 0 k last step acc b = ([], 8) := by rw [unpk, if_pos h]
theorem un_f (h : ¬ b.length > 0) : unpk 0 k last step acc b = (acc, 0) := by rw [unpk, if_neg h]
end
theorem stepE_or (k : Nat) (last p : Pt) : (badP p ∧ stepE k last p = 3) ∨ (PtIn p ∧ 0 < k ∧ p.t ≤ last.t ∧ stepE k last p = 7) ∨ (PtIn p ∧ (k = 0 ∨ last.t < p.t) ∧ stepE k last p = 0) := by
  unfold stepE
  by_cases h : badP p
  · left; exact ⟨h, if_pos h⟩
  · have hp : PtIn p := by unfold badP at h; unfold PtIn; omega
    right
    rw [if_neg h]
    by_cases h2 : 0 < k ∧ last.t ≥ p.t
    · left; rw [if_pos h2]; exact ⟨hp, h2.1, h2.2, rfl⟩
    · right; rw [if_neg h2]; exact ⟨hp, by omega, rfl⟩
/-- The last point, held against a new one. -/
theorem check_two {acc : List Pt} {last p : Pt} {k : Nat} (hk : acc.length = k) (hl : PtIn last) (hlast : 0 < k → acc.getD (k - 1) default = last) : checkL (acc.drop (acc.length - 1) ++ [p]) = stepE k last p := by
  by_cases h0 : k = 0
  · have : acc = [] := List.eq_nil_of_length_eq_zero (by omega)
    subst this
    subst h0
    simp only [List.drop_nil, List.nil_append, checkL, List.length_cons, List.length_nil, chk, stepE, badP]
    unfold PtIn at hl
    rw [if_neg (by omega)]
    by_cases hb : p.t < 0 ∨ p.t > 100000 ∨ p.v < -1000000 ∨ p.v > 1000000
    · rw [if_pos hb, if_pos hb]
    · rw [if_neg hb, if_neg hb, if_neg (by omega), if_neg (by omega)]
  · have hd : acc.drop (acc.length - 1) = [last] := by
      rw [drop_cons (by omega), List.drop_of_length_le (by omega), hk, hlast (by omega)]
    rw [hd]
    simp only [List.cons_append, List.nil_append, checkL, List.length_cons, List.length_nil, chk, stepE, badP]
    unfold PtIn at hl
    rw [if_neg (by omega), if_neg (by omega), if_neg (by omega)]
    by_cases hb : p.t < 0 ∨ p.t > 100000 ∨ p.v < -1000000 ∨ p.v > 1000000
    · rw [if_pos hb, if_pos hb]
    · rw [if_neg hb, if_neg hb]
      by_cases hc : last.t ≥ p.t
      · rw [if_pos hc, if_pos ⟨by omega, hc⟩]
      · rw [if_neg hc, if_neg (by omega)]
theorem zreadR_in (l : List Bool) : -4000001 ≤ (zreadR l).1 ∧ (zreadR l).1 ≤ 4000000 := by
  by_cases h : (zreadR l).2.2 = 0
  · obtain ⟨m, g1, g2, g3, g4, g5, _⟩ := zread_inv 8 0 0 1 l (by omega) (by omega) h
    rw [Int.zero_add, Int.mul_one] at g4 g5
    have hu := unf_or g1
    have hv : (zreadR l).1 = unf m := g5
    omega
  · rw [(zreadR_bad h).1]; omega
theorem ztakeR_eq (b : List Bool) : (ztakeR b).1 = (zreadR b).1 ∧ (ztakeR b).2.2 = (zreadR b).2.2 := ⟨rfl, rfl⟩
theorem ztakeR_rest {b : List Bool} (h : (zreadR b).2.2 = 0) : (ztakeR b).2.1 = bits1 b := by unfold ztakeR bits1; exact if_pos h
theorem bits1_len (b : List Bool) : (bits1 b).length ≤ b.length := by unfold bits1; rw [List.length_drop]; omega
theorem bits2_len (b : List Bool) : (bits2 b).length ≤ b.length := by
  have := bits1_len b
  unfold bits2; rw [List.length_drop]; omega
theorem bits2_eq {b : List Bool} (h : (zreadR b).2.2 = 0) (h1 : (zreadR (bits1 b)).2.2 = 0) : b.drop ((zreadR b).2.1 + (zreadR (bits1 b)).2.1).toNat = bits2 b := by
  have g1 := zreadR_ok h
  have g2 := zreadR_ok h1
  unfold bits2 bits1
  unfold bits1 at g2
  rw [List.drop_drop]
  congr 1
  omega
theorem unpk_len : ∀ (f k : Nat) (last : Pt) (step : Int) (acc : List Pt) (b : List Bool), (unpk f k last step acc b).1.length ≤ acc.length + f
  | 0, k, last, step, acc, b => by
    by_cases h : b.length > 0
    · rw [un_e h]; simp
    · rw [un_f h]; simp
  | f + 1, k, last, step, acc, b => by
    by_cases h1 : (zreadR b).2.2 = 0
    · by_cases h2 : (zreadR (bits1 b)).2.2 = 0
      · by_cases h3 : stepE k last (nxt last step b) = 0
        · rw [un_d (by omega) h1 h2 h3]
          have := unpk_len (f + 1 - 1) (k + 1) (nxt last step b) ((nxt last step b).t - last.t) (acc ++ [nxt last step b]) (bits2 b)
          rw [List.length_append] at this
          simp only [List.length_cons, List.length_nil] at this
          omega
        · rw [un_c (by omega) h1 h2 h3]; simp
      · rw [un_b (by omega) h1 h2]; simp
    · rw [un_a (by omega) h1]; simp
theorem unpackR_len (b : List Bool) (n : Int) : (unpackR b n).1.length ≤ 40 := by
  unfold unpackR
  split
  · simp
  · have := unpk_len n.toNat 0 ⟨0, 0⟩ 0 [] b
    simp only [List.length_nil] at this
    omega
end Go.Rb
namespace Go.Rb
def join (a b : Sm) : Sm := if a.n = 0 then b else if b.n = 0 then a else ⟨w64 (a.n + b.n), min a.mn b.mn, max a.mx b.mx, w64 (a.tot + b.tot)⟩
def joined (a b : Sm) : Sm := if a.n = 0 then b else if b.n = 0 then a else ⟨w64 (a.n + b.n), min b.mn a.mn, max b.mx a.mx, w64 (b.tot + a.tot)⟩
def sm1 (p : Pt) : Sm := ⟨1, p.v, p.v, p.v⟩
def sumOf (l : List Pt) : Sm := l.foldl (fun s p => join s (sm1 p)) ⟨0, 0, 0, 0⟩
theorem sumOf_next {l : List Pt} {i : Nat} (h : i < l.length) : sumOf (l.take (i + 1)) = join (sumOf (l.take i)) ⟨1, (l.getD i default).v, (l.getD i default).v, (l.getD i default).v⟩ := by
  rw [take_next h]; simp [sumOf, sm1]
theorem join_eq (a b : Sm) : joined a b = join a b := by
  simp only [joined, join, Int.min_comm b.mn, Int.max_comm b.mx, Int.add_comm b.tot]
def sumRefAt (l : List Pt) (i : Nat) : Sm := (l.take i).foldl (fun s p => ⟨s.n, min s.mn p.v, max s.mx p.v, w64 (s.tot + p.v)⟩) ⟨l.length, (l.getD 0 default).v, (l.getD 0 default).v, 0⟩
theorem sumRef_next {l : List Pt} {i : Nat} (h : i < l.length) : sumRefAt l (i + 1) = ⟨(sumRefAt l i).n, min (sumRefAt l i).mn (l.getD i default).v, max (sumRefAt l i).mx (l.getD i default).v, w64 ((sumRefAt l i).tot + (l.getD i default).v)⟩ := by
  rw [sumRefAt, take_next h]; simp [sumRefAt]
theorem sumRef_at (l : List Pt) (hn : l.length < 4611686018427387904) (hk : ∀ p ∈ l, inR64 p.v) : ∀ i, 1 ≤ i → i ≤ l.length → sumOf (l.take i) = ⟨i, (sumRefAt l i).mn, (sumRefAt l i).mx, (sumRefAt l i).tot⟩ := by
  intro i h1
  induction i with
  | zero => omega
  | succ i ih =>
  intro hl
  by_cases h1 : i = 0
  · subst h1
    cases l with
    | nil => simp at hl
    | cons p l =>
      have := w64_of (hk p List.mem_cons_self)
      simp [sumOf, sumRefAt, join, sm1, this]
  · have hi : i < l.length := by omega
    have e : (i : Int) ≠ 0 := by omega
    have ew : w64 ((i : Int) + 1) = (i + 1 : Nat) := by rw [w64, wr_id] <;> push_cast <;> omega
    rw [sumOf_next hi, ih (by omega) (by omega), sumRef_next hi]
    simp only [join, e, if_false, ew]
    simp
theorem sumRef_eq (l : List Pt) (hn : l.length < 4611686018427387904) (hk : ∀ p ∈ l, inR64 p.v) (h0 : l.length ≠ 0) : sumRefAt l l.length = sumOf l := by
  have h := sumRef_at l hn hk l.length (by omega) (Nat.le_refl _)
  rw [List.take_length] at h
  have hnn : ∀ i, (sumRefAt l i).n = l.length := by
    intro i
    unfold sumRefAt
    generalize l.take i = m
    suffices ∀ s : Sm, (m.foldl (fun s p => (⟨s.n, min s.mn p.v, max s.mx p.v, w64 (s.tot + p.v)⟩ : Sm)) s).n = s.n from this _
    induction m with
    | nil => intro s; rfl
    | cons p m ih => intro s; rw [List.foldl_cons, ih]
  rw [h]
  have := hnn l.length
  rcases he : sumRefAt l l.length with ⟨a, b, c, d⟩
  rw [he] at this
  simp_all
def pts3 : List Pt := [⟨10, 5⟩, ⟨20, 5⟩, ⟨30, 7⟩]
end Go.Rb
namespace Go.Rb
def pk3 : List Bool := [true, true, false, false, false, false, true, false, true, false, true, false, false, false, false, true, false, false, false, false, false, false, false, false, false, false, false, false, false, true, false, false]
theorem pk3_pack : packR pts3 = (pk3, 0) := by decide +kernel
theorem pk3_un : unpackR pk3 3 = (pts3, 0) := by decide +kernel
theorem pk3_torn : unpackR pk3 2 = ([], 8) := by decide +kernel
theorem pk3_take : ztakeR pk3 = (10, pk3.drop 8, 0) := by decide +kernel
theorem pk3_len : pk3.length = 32 := rfl
theorem late33 : checkL [⟨3, 0⟩, ⟨3, 0⟩] = 7 := by decide +kernel
end Go.Rb
namespace Go.Rb
def packL : Pt → Int → List Pt → List Bool
  | _, _, [] => []
  | last, st, p :: r => itemB last st p ++ packL p (p.t - last.t) r
theorem packL_at (l : List Pt) : ∀ (d i : Nat), i + d = l.length → packAt l i ++ packL (lastP l i) (stepP l i) (l.drop i) = packAt l l.length
  | 0, i, h => by
    rw [List.drop_of_length_le (by omega), show i = l.length from by omega]
    simp [packL]
  | d + 1, i, h => by
    rw [← packL_at l d (i + 1) (by omega), packAt_next, drop_cons (show i < l.length by omega), packL, lastP_next, stepP_next, List.append_assoc]
theorem packL_all (l : List Pt) : packL ⟨0, 0⟩ 0 l = packAt l l.length := by
  have h := packL_at l l.length 0 (by omega)
  simpa [packAt, lastP, stepP] using h
theorem zenc_ge (m : Int) : 4 ≤ (zenc 8 m).length := by
  rw [zenc, List.length_append, bitsN_len]; omega
theorem itemB_ge (a : Pt) (s : Int) (p : Pt) : 8 ≤ (itemB a s p).length := by
  have h1 := zenc_ge (p.t - a.t - s |> foldN)
  have h2 := zenc_ge (foldN (p.v - a.v))
  unfold itemB; rw [List.length_append]; omega
theorem zreadR_enc {v : Int} (h : -4000000 ≤ v ∧ v ≤ 4000000) (r : List Bool) : (zreadR (zenc 8 (foldN v) ++ r)).1 = v ∧ (zreadR (zenc 8 (foldN v) ++ r)).2.2 = 0 ∧ bits1 (zenc 8 (foldN v) ++ r) = r := by
  have h1 := zig_take h r
  refine ⟨congrArg Prod.fst h1, congrArg (fun x => x.2.2) h1, ?_⟩
  have h2 : (ztakeR (zenc 8 (foldN v) ++ r)).2.1 = r := congrArg (fun x => x.2.1) h1
  rw [← ztakeR_rest (congrArg (fun x => x.2.2) h1), h2]
theorem zreadR_split {b : List Bool} (h : (zreadR b).2.2 = 0) : b = zenc 8 (foldN (zreadR b).1) ++ bits1 b ∧ -4000000 ≤ (zreadR b).1 ∧ (zreadR b).1 ≤ 4000000 := by
  have h1 := zig_again (l := b) h
  have hr : -4000000 ≤ (zreadR b).1 ∧ (zreadR b).1 ≤ 4000000 := by
    apply Classical.byContradiction
    intro hc
    have h2 : (zputR [] (ztakeR b).1).2 = 3 := by
      unfold zputR
      rw [if_pos (by show (zreadR b).1 < _ ∨ (zreadR b).1 > _; omega)]
    rw [h1.1] at h2
    simp at h2
  refine ⟨?_, hr⟩
  have h3 := h1.2
  rw [zput_nil (v := (ztakeR b).1) hr, ztakeR_rest h, List.nil_append] at h3
  exact h3.symm
theorem packR_ok {l : List Pt} (h : (packR l).2 = 0) : checkL l = 0 := by
  unfold packR at h
  split at h
  · assumption
  · exact h
def L0 (k : Nat) (last : Pt) : Int := if k = 0 then -1 else last.t
theorem chk_cons {L : Int} {p : Pt} {r : List Pt} (h : chk L (p :: r) = 0) : PtIn p ∧ L < p.t ∧ chk p.t r = 0 := by
  rw [chk] at h
  split at h
  · cases h
  · split at h
    · cases h
    · exact ⟨by unfold PtIn; omega, by omega, h⟩
theorem chk_mk {L : Int} {p : Pt} {r : List Pt} (h1 : PtIn p) (h2 : L < p.t) (h3 : chk p.t r = 0) : chk L (p :: r) = 0 := by
  unfold PtIn at h1
  rw [chk, if_neg (by omega), if_neg (by omega)]; exact h3
theorem stepE_zero {k : Nat} {last p : Pt} (h1 : PtIn p) (h2 : L0 k last < p.t) : stepE k last p = 0 := by
  have h := stepE_or k last p
  unfold L0 at h2
  unfold badP at h
  unfold PtIn at h h1
  split at h2 <;> omega
theorem item_read {last p : Pt} {st : Int} (hl : PtIn last) (hs : -100000 ≤ st ∧ st ≤ 100000) (hp : PtIn p) (rest : List Bool) :
    (zreadR (itemB last st p ++ rest)).2.2 = 0 ∧ (zreadR (bits1 (itemB last st p ++ rest))).2.2 = 0 ∧ nxt last st (itemB last st p ++ rest) = p ∧ bits2 (itemB last st p ++ rest) = rest := by
  unfold PtIn at hl hp
  have h1 := zreadR_enc (v := p.t - last.t - st) (by omega) (zenc 8 (foldN (p.v - last.v)) ++ rest)
  have h2 := zreadR_enc (v := p.v - last.v) (by omega) rest
  have e : itemB last st p ++ rest = zenc 8 (foldN (p.t - last.t - st)) ++ (zenc 8 (foldN (p.v - last.v)) ++ rest) := by unfold itemB; rw [List.append_assoc]
  have hb : bits1 (itemB last st p ++ rest) = zenc 8 (foldN (p.v - last.v)) ++ rest := by rw [e, h1.2.2]
  refine ⟨by rw [e]; exact h1.2.1, by rw [hb]; exact h2.2.1, ?_, ?_⟩
  · show (⟨last.t + st + (zreadR (itemB last st p ++ rest)).1, last.v + (zreadR (bits1 (itemB last st p ++ rest))).1⟩ : Pt) = p
    rw [hb, h2.1, e, h1.1]
    cases p
    simp only [Pt.mk.injEq]
    omega
  · show bits1 (bits1 (itemB last st p ++ rest)) = rest
    rw [hb, h2.2.2]
theorem unpk_pack : ∀ (r : List Pt) (k : Nat) (last : Pt) (st : Int) (acc : List Pt) (more : List Bool), PtIn last → (-100000 ≤ st ∧ st ≤ 100000) → chk (L0 k last) r = 0 →
    unpk r.length k last st acc (packL last st r ++ more) = if more.length > 0 then ([], 8) else (acc ++ r, 0)
  | [], k, last, st, acc, more, _, _, _ => by simp [packL, unpk]
  | p :: r, k, last, st, acc, more, hl, hs, hc => by
    obtain ⟨h1, h2, h3⟩ := chk_cons hc
    have hi := item_read hl hs h1 (packL p (p.t - last.t) r ++ more)
    rw [packL, List.append_assoc, List.length_cons, un_d (by omega) hi.1 hi.2.1 (by rw [hi.2.2.1]; exact stepE_zero h1 h2), hi.2.2.1, hi.2.2.2, Nat.add_sub_cancel]
    have hl' := hl
    have h1' := h1
    unfold PtIn at hl' h1'
    rw [unpk_pack r (k + 1) p (p.t - last.t) (acc ++ [p]) more h1 (by omega) (by unfold L0; rw [if_neg (by omega)]; exact h3), List.append_assoc]
    rfl
theorem packL_append : ∀ (r1 r2 : List Pt) (last : Pt) (st : Int), ∃ last' st', packL last st (r1 ++ r2) = packL last st r1 ++ packL last' st' r2
  | [], r2, last, st => ⟨last, st, rfl⟩
  | p :: r1, r2, last, st => by
    obtain ⟨a, b, h⟩ := packL_append r1 r2 p (p.t - last.t)
    exact ⟨a, b, by rw [List.cons_append, packL, h, packL, List.append_assoc]⟩
theorem chk_take : ∀ (l : List Pt) (L : Int) (k : Nat), chk L l = 0 → chk L (l.take k) = 0
  | [], _, _, _ => by simp [chk]
  | p :: l, L, 0, _ => rfl
  | p :: l, L, k + 1, h => by
    obtain ⟨h1, h2, h3⟩ := chk_cons h
    rw [List.take_succ_cons]
    exact chk_mk h1 h2 (chk_take l p.t k h3)
theorem checkL_take {l : List Pt} (h : checkL l = 0) (k : Nat) : checkL (l.take k) = 0 := by
  have h1 := checkL_len h
  unfold checkL
  rw [if_neg (by rw [List.length_take]; omega)]
  exact chk_take l (-1) k (checkL_chk h)
theorem zero_in : PtIn ⟨0, 0⟩ := by unfold PtIn; decide
/-- Unpack of Pack is the points. -/
theorem line_back {l : List Pt} (h : checkL l = 0) : packR l = (packAt l l.length, 0) ∧ unpackR (packAt l l.length) l.length = (l, 0) ∧ (0 < l.length → ¬ (unpackR (packAt l l.length) (l.length - 1)).2 = 0) := by
  have hl := checkL_len h
  refine ⟨by unfold packR; rw [if_pos h], ?_, ?_⟩
  · unfold unpackR
    rw [if_neg (by omega)]
    have h1 := unpk_pack l 0 ⟨0, 0⟩ 0 [] [] zero_in (by omega) (checkL_chk h)
    rw [List.append_nil, packL_all] at h1
    rw [show ((l.length : Int)).toNat = l.length from by omega, h1]
    simp
  · intro h0
    unfold unpackR
    rw [if_neg (by omega), show ((l.length : Int) - 1).toNat = (l.take (l.length - 1)).length from by rw [List.length_take]; omega]
    obtain ⟨a, b, hab⟩ := packL_append (l.take (l.length - 1)) (l.drop (l.length - 1)) ⟨0, 0⟩ 0
    rw [List.take_append_drop] at hab
    rw [← packL_all, hab, unpk_pack _ 0 ⟨0, 0⟩ 0 [] _ zero_in (by omega) (checkL_chk (checkL_take h _))]
    rw [if_pos]
    · decide
    · rw [drop_cons (by omega), packL, List.length_append]
      have := itemB_ge a b (l.getD (l.length - 1) default)
      omega
theorem unpk_inv : ∀ (f k : Nat) (last : Pt) (st : Int) (acc : List Pt) (b : List Bool), PtIn last → (unpk f k last st acc b).2 = 0 →
    ∃ r, r.length = f ∧ (unpk f k last st acc b).1 = acc ++ r ∧ b = packL last st r ∧ chk (L0 k last) r = 0
  | 0, k, last, st, acc, b, _, h => by
    by_cases hb : b.length > 0
    · rw [un_e hb] at h; simp at h
    · rw [un_f hb]
      exact ⟨[], rfl, by simp, by simpa [packL] using hb, rfl⟩
  | f + 1, k, last, st, acc, b, hl, h => by
    by_cases h1 : (zreadR b).2.2 = 0
    · by_cases h2 : (zreadR (bits1 b)).2.2 = 0
      · by_cases h3 : stepE k last (nxt last st b) = 0
        · rw [un_d (by omega) h1 h2 h3, Nat.add_sub_cancel] at h ⊢
          have hse := stepE_or k last (nxt last st b)
          have hp : PtIn (nxt last st b) ∧ (k = 0 ∨ last.t < (nxt last st b).t) := by
            rcases hse with g | g | g
            · omega
            · omega
            · exact ⟨g.1, g.2.1⟩
          obtain ⟨r, g1, g2, g3, g4⟩ := unpk_inv f (k + 1) _ _ _ _ hp.1 h
          have s1 := zreadR_split h1
          have s2 := zreadR_split h2
          refine ⟨nxt last st b :: r, by simp [g1], by rw [g2, List.append_assoc]; rfl, ?_, ?_⟩
          · rw [packL, ← g3]
            show b = (zenc 8 (foldN (last.t + st + (zreadR b).1 - last.t - st)) ++ zenc 8 (foldN (last.v + (zreadR (bits1 b)).1 - last.v))) ++ bits1 (bits1 b)
            rw [show last.t + st + (zreadR b).1 - last.t - st = (zreadR b).1 from by omega, show last.v + (zreadR (bits1 b)).1 - last.v = (zreadR (bits1 b)).1 from by omega, List.append_assoc, ← s2.1]
            exact s1.1
          · refine chk_mk hp.1 ?_ ?_
            · have := hp.1
              unfold PtIn at this
              unfold L0
              split <;> omega
            · unfold L0 at g4
              rw [if_neg (by omega)] at g4
              exact g4
        · rw [un_c (by omega) h1 h2 h3] at h; exact absurd h h3
      · rw [un_b (by omega) h1 h2] at h; exact absurd h h2
    · rw [un_a (by omega) h1] at h; exact absurd h h1
/-- What is unpacked is packed as it was. -/
theorem line_again {b : List Bool} {n : Int} (h : (unpackR b n).2 = 0) : packR (unpackR b n).1 = (b, 0) ∧ ((unpackR b n).1.length : Int) = n ∧ checkL (unpackR b n).1 = 0 := by
  unfold unpackR at h ⊢
  by_cases hn : n < 0 ∨ n > 40
  · rw [if_pos hn] at h; simp at h
  · rw [if_neg hn] at h ⊢
    obtain ⟨r, g1, g2, g3, g4⟩ := unpk_inv _ _ _ _ _ _ zero_in h
    rw [g2, List.nil_append]
    have hc : checkL r = 0 := by
      unfold checkL
      rw [if_neg (by omega)]
      exact g4
    refine ⟨?_, by omega, hc⟩
    unfold packR
    rw [if_pos hc, ← packL_all, ← g3]

/-! ### Beginnings -/
theorem take_getD {l : List Pt} {k j : Nat} (h : j < k) : (l.take k).getD j default = l.getD j default := by simp [List.getD, List.getElem?_take, h]
theorem lastP_take {l : List Pt} {k j : Nat} (h : j ≤ k) : lastP (l.take k) j = lastP l j := by
  unfold lastP
  split
  · rfl
  · exact take_getD (by omega)
theorem stepP_take {l : List Pt} {k j : Nat} (h : j ≤ k) : stepP (l.take k) j = stepP l j := by
  unfold stepP
  split
  · rfl
  · rw [take_getD (by omega), lastP_take (by omega)]
theorem packAt_take (l : List Pt) (k : Nat) : ∀ j, j ≤ k → packAt (l.take k) j = packAt l j
  | 0, _ => by simp [packAt]
  | j + 1, h => by rw [packAt_next, packAt_next, packAt_take l k j (by omega), lastP_take (by omega), stepP_take (by omega), take_getD (by omega)]
theorem packAt_pre (l : List Pt) (i : Nat) : ∀ d, (packAt l (i + d)).take (packAt l i).length = packAt l i ∧ (packAt l i).length + 8 * d ≤ (packAt l (i + d)).length ∧ (packAt l (i + d)).length ≤ (packAt l i).length + 64 * d
  | 0 => by simp
  | d + 1 => by
    have h := packAt_pre l i d
    have h1 := itemB_ge (lastP l (i + d)) (stepP l (i + d)) (l.getD (i + d) default)
    have h2 := itemB_len (lastP l (i + d)) (stepP l (i + d)) (l.getD (i + d) default)
    rw [show i + (d + 1) = (i + d) + 1 from rfl, packAt_next, List.take_append_of_le_length (by omega), h.1, List.length_append]
    exact ⟨rfl, by omega, by omega⟩
theorem line_begins {l : List Pt} (h : checkL l = 0) {k : Nat} (hk : k ≤ l.length) : packR (l.take k) = (packAt l k, 0) ∧ (packAt l l.length).take (packAt l k).length = packAt l k ∧
    (packAt l k).length + 8 * (l.length - k) ≤ (packAt l l.length).length ∧ (packAt l l.length).length ≤ (packAt l k).length + 64 * (l.length - k) := by
  have h1 := packAt_pre l k (l.length - k)
  rw [show k + (l.length - k) = l.length from by omega] at h1
  refine ⟨?_, h1⟩
  unfold packR
  rw [if_pos (checkL_take h k), List.length_take, Nat.min_eq_left hk, packAt_take l k k (Nat.le_refl _)]

/-! ### Steady points -/
def stdy (a s v : Int) (m : Nat) : List Pt := (List.range m).map fun (j : Nat) => (⟨a + (j : Int) * s, v⟩ : Pt)
theorem stdy_next (a s v : Int) (m : Nat) : stdy a s v (m + 1) = stdy a s v m ++ [⟨a + (m : Int) * s, v⟩] := by simp [stdy, List.range_succ]
theorem stdy_len (a s v : Int) (m : Nat) : (stdy a s v m).length = m := by simp [stdy]
theorem stdy_get {a s v : Int} {m j : Nat} (h : j < m) : (stdy a s v m).getD j default = ⟨a + (j : Int) * s, v⟩ := by simp [stdy, List.getD, h]
theorem chk_append : ∀ (l : List Pt) (L : Int) (p : Pt), chk L l = 0 → PtIn p → (∀ q ∈ l, q.t < p.t) → L < p.t → chk L (l ++ [p]) = 0
  | [], L, p, _, hp, _, hL => chk_mk hp hL rfl
  | q :: l, L, p, h, hp, hq, hL => by
    obtain ⟨h1, h2, h3⟩ := chk_cons h
    exact chk_mk h1 h2 (chk_append l q.t p h3 hp (fun x hx => hq x (List.mem_cons_of_mem _ hx)) (hq q List.mem_cons_self))
theorem mul_le {j : Nat} {s : Int} {m : Nat} (hs : 0 ≤ s) (h : j ≤ m) : (j : Int) * s ≤ (m : Int) * s := Int.mul_le_mul_of_nonneg_right (by omega) hs
theorem stdy_chk {a s v : Int} (ha : 0 ≤ a) (hs : 1 ≤ s) (hv : -1000000 ≤ v ∧ v ≤ 1000000) : ∀ m : Nat, a + (m : Int) * s ≤ 100000 → chk (-1) (stdy a s v m) = 0
  | 0, _ => rfl
  | m + 1, h => by
    have h1 : ((m + 1 : Nat) : Int) * s = (m : Int) * s + s := by push_cast; rw [Int.add_mul, Int.one_mul]
    have h0 : 0 ≤ (m : Int) * s := Int.mul_nonneg (by omega) (by omega)
    rw [stdy_next]
    refine chk_append _ _ _ (stdy_chk ha hs hv m (by omega)) (by unfold PtIn; dsimp only; omega) (fun q hq => ?_) (by dsimp only; omega)
    simp only [stdy, List.mem_map, List.mem_range] at hq
    obtain ⟨j, hj, rfl⟩ := hq
    have h2 := mul_le (s := s) (m := m) (by omega) (show j + 1 ≤ m by omega)
    have h3 : ((j + 1 : Nat) : Int) * s = (j : Int) * s + s := by push_cast; rw [Int.add_mul, Int.one_mul]
    show a + (j : Int) * s < a + (m : Int) * s
    omega
theorem item_steady {a b : Pt} {s : Int} (h1 : b.t - a.t - s = 0) (h2 : b.v - a.v = 0) : (itemB a s b).length = 8 := by
  unfold itemB
  rw [h1, h2]
  decide
theorem line_steady {a s v : Int} (ha : 0 ≤ a) (hs : 1 ≤ s) (hv : -1000000 ≤ v ∧ v ≤ 1000000) {m : Nat} (hm : m ≤ 38) (h : a + 40 * s ≤ 100000) :
    checkL (stdy a s v (m + 2)) = 0 ∧ packR (stdy a s v (m + 2)) = (packAt (stdy a s v (m + 2)) (m + 2), 0) ∧ packR ((stdy a s v (m + 2)).take 2) = (packAt (stdy a s v (m + 2)) 2, 0) ∧
      (packAt (stdy a s v (m + 2)) (m + 2)).length = (packAt (stdy a s v (m + 2)) 2).length + 8 * m := by
  have hc : checkL (stdy a s v (m + 2)) = 0 := by
    unfold checkL
    rw [stdy_len, if_neg (by omega)]
    have h2 := mul_le (s := s) (m := 40) (by omega) (show m + 2 ≤ 40 by omega)
    exact stdy_chk ha hs hv _ (by omega)
  have hb := line_begins hc (k := 2) (by rw [stdy_len]; omega)
  refine ⟨hc, by unfold packR; rw [if_pos hc, stdy_len], hb.1, ?_⟩
  have key : ∀ d, d ≤ m → (packAt (stdy a s v (m + 2)) (2 + d)).length = (packAt (stdy a s v (m + 2)) 2).length + 8 * d := by
    intro d
    induction d with
    | zero => intro _; rfl
    | succ d ih =>
      intro hd
      have h1 := ih (by omega)
      rw [show 2 + (d + 1) = (2 + d) + 1 from rfl, packAt_next, List.length_append, h1]
      have e1 : lastP (stdy a s v (m + 2)) (2 + d) = ⟨a + ((1 + d : Nat) : Int) * s, v⟩ := by
        unfold lastP; rw [if_neg (by omega), show 2 + d - 1 = 1 + d from by omega, stdy_get (by omega)]
      have e2 : stepP (stdy a s v (m + 2)) (2 + d) = s := by
        unfold stepP
        rw [if_neg (by omega), show 2 + d - 1 = 1 + d from by omega, stdy_get (by omega)]
        unfold lastP
        rw [if_neg (by omega), show 1 + d - 1 = d from by omega, stdy_get (by omega)]
        dsimp only
        push_cast
        rw [Int.add_mul]; omega
      rw [e1, e2, stdy_get (by omega), item_steady]
      · omega
      · dsimp only
        push_cast
        rw [Int.add_mul, Int.add_mul]; omega
      · dsimp only; omega
  have := key m (Nat.le_refl _)
  rwa [Nat.add_comm 2 m] at this
end Go.Rb
namespace Go.Rb
def zeroBk : Bk := ⟨0, 0, 0, []⟩
def mkB (l : List Pt) : Bk := ⟨l.length, (l.getD 0 default).t, (l.getD (l.length - 1) default).t, packAt l l.length⟩
def makeR (l : List Pt) : Bk × Int := if ¬ (packR l).2 = 0 then (zeroBk, (packR l).2) else if l.length = 0 then (zeroBk, 4) else (⟨l.length, (l.getD 0 default).t, (l.getD (l.length - 1) default).t, (packR l).1⟩, 0)
def ptsR (x : Bk) : List Pt × Int :=
  if ¬ (unpackR x.bits x.n).2 = 0 then ([], (unpackR x.bits x.n).2) else
  if (unpackR x.bits x.n).1.length = 0 ∨ ¬ ((unpackR x.bits x.n).1.getD 0 default).t = x.fr ∨ ¬ ((unpackR x.bits x.n).1.getD ((unpackR x.bits x.n).1.length - 1) default).t = x.to then ([], 4) else ((unpackR x.bits x.n).1, 0)
def mergeR (x y : Bk) : Bk × Int := if ¬ (ptsR x).2 = 0 then (zeroBk, (ptsR x).2) else if ¬ (ptsR y).2 = 0 then (zeroBk, (ptsR y).2) else makeR ((ptsR x).1 ++ (ptsR y).1)
theorem ptsR_len (x : Bk) : (ptsR x).1.length ≤ 40 := by
  have := unpackR_len x.bits x.n
  unfold ptsR
  split
  · simp
  · split
    · simp
    · exact this
theorem makeR_bits (l : List Pt) : (makeR l).1.bits.length ≤ 2560 := by
  have := packR_len l
  unfold makeR
  split
  · simp [zeroBk]
  · split
    · simp [zeroBk]
    · exact this
theorem mergeR_bits (x y : Bk) : (mergeR x y).1.bits.length ≤ 2560 := by
  unfold mergeR
  split
  · simp [zeroBk]
  · split
    · simp [zeroBk]
    · exact makeR_bits _
theorem mkB_bits {l : List Pt} (h : l.length ≤ 40) : (mkB l).bits.length ≤ 2560 := by
  have := packAt_len l l.length
  show (packAt l l.length).length ≤ 2560
  omega
theorem makeR_ok {l : List Pt} (h : checkL l = 0) (h0 : 0 < l.length) : makeR l = (mkB l, 0) ∧ ptsR (mkB l) = (l, 0) := by
  have hb := line_back h
  refine ⟨?_, ?_⟩
  · unfold makeR
    rw [hb.1, if_neg (by simp), if_neg (by omega)]; rfl
  · have hu : unpackR (mkB l).bits (mkB l).n = (l, 0) := hb.2.1
    unfold ptsR
    rw [hu, if_neg (by simp), if_neg (not_or.2 ⟨by show ¬ l.length = 0; omega, not_or.2 ⟨fun h => h rfl, fun h => h rfl⟩⟩)]
theorem mergeR_ok {a b : List Pt} (ha : checkL a = 0) (hb : checkL b = 0) (ha0 : 0 < a.length) (hb0 : 0 < b.length) (h : checkL (a ++ b) = 0) : mergeR (mkB a) (mkB b) = (mkB (a ++ b), 0) := by
  unfold mergeR
  rw [(makeR_ok ha ha0).2, (makeR_ok hb hb0).2, if_neg (by simp), if_neg (by simp)]
  exact (makeR_ok h (by rw [List.length_append]; omega)).1
theorem chk_low : ∀ (l : List Pt) (L L' : Int), L' ≤ L → chk L l = 0 → chk L' l = 0
  | [], _, _, _, _ => rfl
  | p :: l, L, L', hL, h => by
    obtain ⟨h1, h2, h3⟩ := chk_cons h
    exact chk_mk h1 (by omega) h3
theorem chk_drop : ∀ (l : List Pt) (L : Int) (k : Nat), -1 ≤ L → chk L l = 0 → chk (-1) (l.drop k) = 0
  | l, L, 0, hL, h => chk_low l L (-1) hL h
  | [], _, _ + 1, _, _ => by simp [chk]
  | p :: l, L, k + 1, hL, h => by
    obtain ⟨h1, h2, h3⟩ := chk_cons h
    unfold PtIn at h1
    rw [List.drop_succ_cons]
    exact chk_drop l p.t k (by omega) h3
theorem checkL_drop {l : List Pt} (h : checkL l = 0) (k : Nat) : checkL (l.drop k) = 0 := by
  have h1 := checkL_len h
  unfold checkL
  rw [if_neg (by rw [List.length_drop]; omega)]
  exact chk_drop l (-1) k (by omega) (checkL_chk h)
/-- Of three parts. -/
theorem block_parts {l : List Pt} (h : checkL l = 0) {j k : Nat} (h1 : 0 < j) (h2 : j < k) (h3 : k < l.length) :
    makeR (l.take j) = (mkB (l.take j), 0) ∧ makeR ((l.take k).drop j) = (mkB ((l.take k).drop j), 0) ∧ makeR (l.drop k) = (mkB (l.drop k), 0) ∧ makeR l = (mkB l, 0) ∧ ptsR (mkB l) = (l, 0) ∧
      mergeR (mkB (l.take j)) (mkB ((l.take k).drop j)) = (mkB (l.take k), 0) ∧ mergeR (mkB (l.take k)) (mkB (l.drop k)) = (mkB l, 0) ∧ mergeR (mkB ((l.take k).drop j)) (mkB (l.drop k)) = (mkB (l.drop j), 0) ∧
      mergeR (mkB (l.take j)) (mkB (l.drop j)) = (mkB l, 0) := by
  have c1 := checkL_take h j
  have c2 := checkL_drop (checkL_take h k) j
  have c3 := checkL_drop h k
  have c4 := checkL_take h k
  have c5 := checkL_drop h j
  have l1 : 0 < (l.take j).length := by rw [List.length_take]; omega
  have l2 : 0 < ((l.take k).drop j).length := by rw [List.length_drop, List.length_take]; omega
  have l3 : 0 < (l.drop k).length := by rw [List.length_drop]; omega
  have l4 : 0 < (l.take k).length := by rw [List.length_take]; omega
  have l5 : 0 < (l.drop j).length := by rw [List.length_drop]; omega
  have e1 : l.take j ++ (l.take k).drop j = l.take k := by
    conv => rhs; rw [← List.take_append_drop j (l.take k)]
    rw [List.take_take, Nat.min_eq_left (by omega)]
  have e2 : (l.take k).drop j ++ l.drop k = l.drop j := by
    conv => rhs; rw [← List.take_append_drop k l]
    rw [List.drop_append_of_le_length (by rw [List.length_take]; omega)]
  have hw := makeR_ok h (by omega)
  refine ⟨(makeR_ok c1 l1).1, (makeR_ok c2 l2).1, (makeR_ok c3 l3).1, hw.1, hw.2, ?_, ?_, ?_, ?_⟩
  · rw [mergeR_ok c1 c2 l1 l2 (by rw [e1]; exact c4), e1]
  · rw [mergeR_ok c4 c3 l4 l3 (by rw [List.take_append_drop]; exact h), List.take_append_drop]
  · rw [mergeR_ok c2 c3 l2 l3 (by rw [e2]; exact c5), e2]
  · rw [mergeR_ok c1 c5 l1 l5 (by rw [List.take_append_drop]; exact h), List.take_append_drop]
theorem bk_eq (x y : Bk) : (decide (x = y)) = (decide (x.n = y.n) && decide (x.fr = y.fr) && decide (x.to = y.to) && decide (x.bits = y.bits)) := by
  cases x; cases y
  simp only [Bk.mk.injEq, Bool.decide_and]
  simp only [Bool.and_assoc]
/-! Closed facts. -/
def b1 : Bk := mkB (pts3.take 1)
def b2 : Bk := mkB (pts3.drop 1)
def b3 : Bk := mkB pts3
theorem b_make1 : makeR (pts3.take 1) = (b1, 0) := by decide +kernel
theorem b_make2 : makeR (pts3.drop 1) = (b2, 0) := by decide +kernel
theorem b_merge : mergeR b1 b2 = (b3, 0) := by decide +kernel
theorem b_pts : ptsR b3 = (pts3, 0) := by decide +kernel
theorem b_late : mergeR b2 b1 = (zeroBk, 7) := by decide +kernel
theorem b_none : makeR [] = (zeroBk, 4) := by decide +kernel
theorem b_n : b3.n = 3 := rfl
theorem b_fr : b3.fr = 10 := rfl
theorem b_to : b3.to = 30 := rfl
theorem b_len : b1.bits.length ≤ 2560 ∧ b2.bits.length ≤ 2560 ∧ b3.bits.length ≤ 2560 := by decide +kernel
end Go.Rb
