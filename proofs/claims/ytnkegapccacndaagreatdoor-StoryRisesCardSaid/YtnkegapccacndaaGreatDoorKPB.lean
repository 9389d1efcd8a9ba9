/-
  What is proved, part by part: what rainbooklaw.at comes to. what shelf.All comes to. what query.Range$1 comes to. what slices.IndexFunc[[]api.Point,api.Point] comes to. what slices.DeleteFunc[[]api.Point,api.Point] comes to. what query.Range comes to. numbers as bits, as plain functions. numbers as bits, further plain facts. numbers as bits: what is put is taken. small numbers in groups of four bits, as plain functions. what is put in groups of four bits is taken, and no two ways write one number. when points rise, as a plain function. points in bits, as plain functions. points that are packed are unpacked, just so many; what is unpacked is packed as it was; beginnings; steady points. blocks, as plain functions; of two merged both are there. numbers as bits: what the program's functions come to, in plain words. numbers either way as bits: what the program's functions come to, in plain words. numbers either way as bits: what the document's functions come to, in plain words. points of a series: what the program's functions come to, in plain words. points of a series packed, unpacked: what the program's and the document's functions come to, in plain words. points of a series unpacked: what the program's and the document's functions come to, in plain words. points of a series unpacked by the document's function, in plain words. blocks: what the program's and the document's functions come to, in plain words. all series, as plain functions: points of a row, what is wrong with a shelf. all series, read: what the program's and the document's functions come to, in plain words. ranges: what the program's function comes to, in plain words. sums and buckets, as plain functions. sums and buckets: what the program's and the document's functions come to, in plain words. buckets by the document's function, in plain words. QuerySays: what the law's body comes to is true. QueryEach: what the law's body comes to is true. buckets: all together are the sum of all; twice as wide they are two each; they rise. shelves changed, as plain functions: put, sealed, merged, dropped; they stay right, and their points are as they should be. the program's shelf functions that copy and change: what they come to, in plain words. the program's shelf functions seal, merge, put: what they come to, in plain words. the document's shelf functions, and likeness of shelves: what they come to, in plain words. records and their replay, as plain functions; the points are those of all batches. Conditions: none.
-/
import Derived.Test.YtnkegapccacndaaGreatDoorKPA
set_option linter.unusedVariables false
set_option linter.unusedSimpArgs false
set_option linter.unnecessarySimpa false
set_option maxRecDepth 4000
namespace Go.Proofs.Y
open Go.Rb Go.Kx
noncomputable def C_rainbooklaw_at : Code := bodyOf Tryz.f30
noncomputable def G_rainbooklaw_at : FuncId → Option GS := tabG []
theorem g_rainbooklaw_at : ΓOK Tryz.prog G_rainbooklaw_at := ΓOK_nil
def H_rainbooklaw_at : HT := ⟨tabL [], tabH []⟩
abbrev is_rainbooklaw_at : List IT := [.v (.one (.int .i64)) false, .v (.one (.int .i64)) false]
abbrev os_rainbooklaw_at : List OT := [⟨.one (.int .i64), false, []⟩]
set_option maxRecDepth 100000
noncomputable def F_rainbooklaw_at : Int → Int → Option Int := fun (a b : Int) => ifB (eqI b 0) none (ifB (ltI (wrem a b) 0) (some (wadd .i64 (wrem a b) b)) (some (wrem a b)))
theorem F_rainbooklaw_at_eq (x : PI is_rainbooklaw_at) : F_rainbooklaw_at (x.1) (x.2) = fnE T G_rainbooklaw_at H_rainbooklaw_at C_rainbooklaw_at (resOf Tryz.f30) is_rainbooklaw_at os_rainbooklaw_at x := by kernel_rfl
noncomputable abbrev R_rainbooklaw_at : GS := mkSpec false is_rainbooklaw_at os_rainbooklaw_at fun x => F_rainbooklaw_at (x.1) (x.2)
theorem R_rainbooklaw_at_ok : GSOK Tryz.prog 30 R_rainbooklaw_at := spec_ok tok g_rainbooklaw_at fmo (Ht := H_rainbooklaw_at) (fn := Tryz.f30) (Tryz.func30) (c := C_rainbooklaw_at) (by kernel_rfl) (by kernel_rfl) (by kernel_rfl) (by decide +kernel) (by decide) F_rainbooklaw_at_eq
end Go.Proofs.Y
namespace Go.Proofs.Y
open Go.Rb Go.Kx
noncomputable def C_shelf_All : Code := bodyOf Tryz.f48
noncomputable def G_shelf_All : FuncId → Option GS := tabG [(78, R_shelf_Check), (97, R_shelf_all)]
theorem g_shelf_All : ΓOK Tryz.prog G_shelf_All := ΓOK_cons (R_shelf_Check_ok) (ΓOK_cons (R_shelf_all_ok) (ΓOK_nil))
def H_shelf_All : HT := ⟨tabL [], tabH []⟩
abbrev is_shelf_All : List IT := [.v (.one (.sl 95 (.cons (.sl 126 (.cons (.int .i64) (.cons (.int .i64) (.cons (.int .i64) (.one (.sl 4 (.one .bool))))))) (.one (.sl 73 (.cons (.int .i64) (.one (.int .i64)))))))) true, .v (.one (.int .i64)) false]
abbrev os_shelf_All : List OT := [⟨.one (.sl 73 (.cons (.int .i64) (.one (.int .i64)))), false, [true]⟩, ⟨.one (.int .i64), false, []⟩]
set_option maxRecDepth 100000
noncomputable def F_shelf_All : List (List (Int × Int × Int × List Bool) × List (Int × Int)) → Int → Option (List (Int × Int) × Int) := fun (a : List (List (Int × Int × Int × List Bool) × List (Int × Int))) (b : Int) => bindO (F_shelf_Check a) fun (y : Int) => ifB (neI y 0) (some ([], y)) (ifB (ltI b 0) (some ([], 5)) (ifB (geI b (lenI a)) (some ([], 5)) (bindO (atI a b) fun (y : List (Int × Int × Int × List Bool) × List (Int × Int)) => bindO (F_shelf_all (y.1, y.2)) fun (y : List (Int × Int) × Int) => some (y.1, y.2))))
theorem F_shelf_All_eq (x : PI is_shelf_All) : F_shelf_All (x.1) (x.2) = fnE T G_shelf_All H_shelf_All C_shelf_All (resOf Tryz.f48) is_shelf_All os_shelf_All x := by kernel_rfl
noncomputable abbrev R_shelf_All : GS := mkSpec false is_shelf_All os_shelf_All fun x => F_shelf_All (x.1) (x.2)
theorem R_shelf_All_ok : GSOK Tryz.prog 48 R_shelf_All := spec_ok tok g_shelf_All fmo (Ht := H_shelf_All) (fn := Tryz.f48) (Tryz.func48) (c := C_shelf_All) (by kernel_rfl) (by kernel_rfl) (by kernel_rfl) (by decide +kernel) (by decide) F_shelf_All_eq
end Go.Proofs.Y
namespace Go.Proofs.Y
open Go.Rb Go.Kx
end Go.Proofs.Y
namespace Go.Proofs.Y
open Go.Rb Go.Kx
end Go.Proofs.Y
namespace Go.Proofs.Y
open Go.Rb Go.Kx
end Go.Proofs.Y
namespace Go.Proofs.Y
open Go.Rb Go.Kx
set_option maxRecDepth 100000
end Go.Proofs.Y
namespace Go.Rb
def bitAt (n : Int) (k : Nat) : Bool := n / 2 ^ k % 2 == 1
def bitsN (w : Nat) (n : Int) : List Bool := (List.range w).map fun j => bitAt n (w - 1 - j)
def putOk (n w : Int) : Prop := 0 ≤ w ∧ w ≤ 40 ∧ 0 ≤ n ∧ n < 2 ^ w.toNat
instance (n w : Int) : Decidable (putOk n w) := by unfold putOk; infer_instance
def putR (l : List Bool) (n w : Int) : List Bool × Int := if putOk n w then (l ++ bitsN w.toNat n, 0) else ([], 3)
def val (l : List Bool) : Int := l.foldl (fun n b => 2 * n + (if b then 1 else 0)) 0
def readR (l : List Bool) (w : Int) : Int × Int := if w < 0 ∨ w > 40 then (0, 3) else if (l.length : Int) < w then (0, 8) else (val (l.take w.toNat), 0)
theorem bitsN_len (w : Nat) (n : Int) : (bitsN w n).length = w := by simp [bitsN]
theorem bitsN_get {w : Nat} {n : Int} {j : Nat} (h : j < w) : (bitsN w n).getD j default = bitAt n (w - 1 - j) := by
  simp [bitsN, List.getD, h]
theorem pow_pos' (k : Nat) : (0 : Int) < 2 ^ k := Int.pow_pos (by omega)
theorem and_oneI {a : Int} (h0 : 0 ≤ a) (h1 : a ≤ 9223372036854775807) : IntKind.wrap .i64 ((BitVec.ofInt (IntKind.i64.bits) a &&& BitVec.ofInt (IntKind.i64.bits) 1).toNat : Int) = a % 2 := by
  have hb : IntKind.i64.bits = 64 := rfl
  rw [hb]
  obtain ⟨m, rfl⟩ : ∃ m : Nat, a = (m : Int) := ⟨a.toNat, by omega⟩
  have h2 : (BitVec.ofInt 64 (m : Int)).toNat = m := by
    simp only [BitVec.toNat_ofInt]
    omega
  have h3 : (BitVec.ofInt 64 (1 : Int)).toNat = 1 := by decide
  rw [BitVec.toNat_and, h2, h3, Nat.and_one_is_mod, wr_id (by omega) (by omega)]
  omega
theorem fdiv_pow {a : Int} (h0 : 0 ≤ a) (k : Nat) : a.fdiv (2 ^ k) = a / 2 ^ k := Int.fdiv_eq_ediv_of_nonneg a (by have := pow_pos' k; omega)
theorem div_pow_le {a : Int} (h0 : 0 ≤ a) (k : Nat) : 0 ≤ a / 2 ^ k ∧ a / 2 ^ k ≤ a := by
  have := pow_pos' k
  refine ⟨Int.ediv_nonneg h0 (by omega), Int.ediv_le_self _ h0⟩
theorem shr_zero {n : Int} {w : Nat} (h0 : 0 ≤ n) : n / 2 ^ w = 0 ↔ n < 2 ^ w := by
  have h1 := pow_pos' w
  constructor
  · intro h
    have := Int.lt_ediv_add_one_mul_self n h1
    rw [h] at this
    omega
  · intro h
    exact Int.ediv_eq_zero_of_lt h0 h
theorem val_snoc (l : List Bool) (b : Bool) : val (l ++ [b]) = 2 * val l + (if b then 1 else 0) := by simp [val]
theorem val_bound : ∀ (l : List Bool), 0 ≤ val l ∧ val l < 2 ^ l.length := by
  intro l
  have key : ∀ (l : List Bool) (a : Int) (k : Nat), 0 ≤ a → a < 2 ^ k → 0 ≤ l.foldl (fun n b => 2 * n + (if b then 1 else 0)) a ∧ l.foldl (fun n b => 2 * n + (if b then 1 else 0)) a < 2 ^ (k + l.length) := by
    intro l
    induction l with
    | nil => intro a k h0 h1; exact ⟨h0, h1⟩
    | cons b l ih =>
      intro a k h0 h1
      rw [List.foldl_cons, List.length_cons, show k + (l.length + 1) = (k + 1) + l.length from by omega]
      refine ih _ (k + 1) ?_ ?_
      · split <;> omega
      · rw [Int.pow_succ]
        split <;> omega
  have := key l 0 0 (by omega) (by decide)
  simpa [val] using this
end Go.Rb
namespace Go.Rb
theorem pow_mono {a b : Nat} (h : a ≤ b) : (2 : Int) ^ a ≤ 2 ^ b := by
  have := Nat.pow_le_pow_right (n := 2) (by omega) h
  exact_mod_cast this
theorem pow40 {k : Nat} (h : k ≤ 40) : 0 < (2 : Int) ^ k ∧ (2 : Int) ^ k ≤ 1099511627776 := ⟨pow_pos' k, pow_mono (b := 40) h⟩
end Go.Rb
namespace Go.Rb
theorem bitsN_succ (w : Nat) (n : Int) : bitsN (w + 1) n = bitsN w (n / 2) ++ [bitAt n 0] := by
  apply List.ext_getElem
  · simp [bitsN_len]
  · intro i h1 h2
    rw [List.getElem_append]
    rw [bitsN_len] at h1
    split
    · rename_i h3
      rw [bitsN_len] at h3
      simp only [bitsN, List.getElem_map, List.getElem_range, bitAt]
      rw [Int.ediv_ediv_of_nonneg (by omega), show w + 1 - 1 - i = (w - 1 - i) + 1 from by omega, Int.pow_succ, Int.mul_comm]
    · rename_i h3
      rw [bitsN_len] at h3
      have hi : i = w := by omega
      subst hi
      simp [bitsN, bitsN_len]
theorem val_bitsN : ∀ (w : Nat) (n : Int), 0 ≤ n → n < 2 ^ w → val (bitsN w n) = n
  | 0, n, h0, h1 => by
    have : n = 0 := by simp at h1; omega
    subst this; rfl
  | w + 1, n, h0, h1 => by
    rw [Int.pow_succ] at h1
    rw [bitsN_succ, val_snoc, val_bitsN w (n / 2) (by omega) (by omega)]
    simp only [bitAt, Int.pow_zero, Int.ediv_one]
    by_cases h : n % 2 = 1
    · simp [h]; omega
    · simp [h]; omega
theorem bitsN_val : ∀ l : List Bool, bitsN l.length (val l) = l := by
  intro l
  induction h : l.length generalizing l with
  | zero => rw [List.length_eq_zero_iff] at h; subst h; rfl
  | succ w ih =>
    have hl : l ≠ [] := by intro h0; subst h0; simp at h
    rw [bitsN_succ]
    obtain ⟨k, b, rfl⟩ : ∃ k b, l = k ++ [b] := ⟨l.dropLast, l.getLast hl, (List.dropLast_concat_getLast hl).symm⟩
    have hk : k.length = w := by simpa using h
    rw [val_snoc]
    have e1 : (2 * val k + (if b then 1 else 0)) / 2 = val k := by cases b <;> simp <;> omega
    have e2 : bitAt (2 * val k + (if b then 1 else 0)) 0 = b := by
      simp only [bitAt, Int.pow_zero, Int.ediv_one]
      cases b
      · simp
      · simp only [if_true, beq_iff_eq]; omega
    rw [e1, e2, ih k hk]
/-! ### Numbers one after the other -/
end Go.Rb
namespace Go.Rb
def foldN (v : Int) : Int := if v < 0 then -2 * v - 1 else 2 * v
theorem foldN_or (v : Int) : (v < 0 ∧ foldN v = -2 * v - 1) ∨ (0 ≤ v ∧ foldN v = 2 * v) := by unfold foldN; split <;> omega
def unf (n : Int) : Int := if n % 2 = 1 then (-(n + 1)).tdiv 2 else n.tdiv 2
theorem unf_or {n : Int} (h : 0 ≤ n) : (n % 2 = 1 ∧ unf n = -(n / 2 + 1) ∧ (0 - (n + 1)).tdiv 2 = unf n) ∨ (n % 2 = 0 ∧ unf n = n / 2 ∧ n.tdiv 2 = unf n) := by
  unfold unf
  have h1 : n.tdiv 2 = n / 2 := Int.tdiv_eq_ediv_of_nonneg h
  have h2 : (-(n + 1)).tdiv 2 = -((n + 1) / 2) := by rw [Int.neg_tdiv, Int.tdiv_eq_ediv_of_nonneg (by omega)]
  split
  · left; refine ⟨by assumption, ?_, by rw [Int.zero_sub]⟩; rw [h2]; omega
  · right; refine ⟨by omega, h1, rfl⟩
theorem unf_fold (v : Int) : unf (foldN v) = v := by
  have h := foldN_or v
  have h1 := unf_or (n := foldN v) (by omega)
  omega
theorem fold_unf {n : Int} (h : 0 ≤ n) : foldN (unf n) = n := by
  have h1 := unf_or h
  have h2 := foldN_or (unf n)
  omega
theorem pow8 {k : Nat} (h : k ≤ 8) : 1 ≤ (8 : Int) ^ k ∧ (8 : Int) ^ k ≤ 16777216 := by
  have h1 : (8 : Int) ^ k ≤ 8 ^ 8 := by
    have := Nat.pow_le_pow_right (n := 8) (by omega) h
    exact_mod_cast this
  have h2 : (0 : Int) < 8 ^ k := Int.pow_pos (by omega)
  exact ⟨by omega, h1⟩
def zenc : Nat → Int → List Bool
  | 0, _ => []
  | f + 1, m => bitsN 4 ((if m ≥ 8 then 8 else 0) + m % 8) ++ (if m ≥ 8 then zenc f (m / 8) else [])
theorem zenc_last {f : Nat} {m : Int} (hf : 1 ≤ f) (h : m < 8) : zenc f m = bitsN 4 (0 + m % 8) := by
  obtain ⟨g, rfl⟩ : ∃ g, f = g + 1 := ⟨f - 1, by omega⟩
  rw [zenc, if_neg (by omega), if_neg (by omega), List.append_nil]
theorem zenc_more {f : Nat} {m : Int} (hf : 1 ≤ f) (h : 8 ≤ m) : zenc f m = bitsN 4 (8 + m % 8) ++ zenc (f - 1) (m / 8) := by
  obtain ⟨g, rfl⟩ : ∃ g, f = g + 1 := ⟨f - 1, by omega⟩
  rw [zenc, if_pos h, if_pos h]; rfl
theorem zenc_len : ∀ (f : Nat) (m : Int), (zenc f m).length ≤ 4 * f
  | 0, _ => by simp [zenc]
  | f + 1, m => by
    have := zenc_len f (m / 8)
    rw [zenc, List.length_append, bitsN_len]
    split
    · omega
    · simp; omega
theorem div8_lt {m : Int} {f : Nat} (h : m < 8 ^ f) (h8 : 8 ≤ m) : 2 ≤ f ∧ m / 8 < 8 ^ (f - 1) := by
  match f, h with
  | 0, h => simp at h; omega
  | 1, h => simp at h; omega
  | f + 2, h =>
    refine ⟨by omega, ?_⟩
    rw [Int.pow_succ] at h
    show m / 8 < 8 ^ (f + 1)
    omega
def zputR (l : List Bool) (v : Int) : List Bool × Int := if v < -4000000 ∨ v > 4000000 then ([], 3) else (l ++ zenc 8 (foldN v), 0)
theorem put4 (k : List Bool) {n : Int} (h0 : 0 ≤ n) (h1 : n < 16) : putR k n 4 = (k ++ bitsN 4 n, 0) := by
  unfold putR
  rw [if_pos ⟨by omega, by omega, h0, by simpa using h1⟩]; rfl
theorem putm {k : List Bool} {m : Int} (h : 0 ≤ m) : putR k (8 + m % 8) 4 = (k ++ bitsN 4 (8 + m % 8), 0) ∧ putR k (0 + m % 8) 4 = (k ++ bitsN 4 (0 + m % 8), 0) :=
  ⟨put4 k (by omega) (by omega), put4 k (by omega) (by omega)⟩
/-! ### Reading -/
def zread : Nat → Nat → Int → Int → List Bool → Int × Int × Int
  | 0, _, _, _, _ => (0, 0, 3)
  | f + 1, k, n, sc, l =>
    if l.length < 4 then (0, 0, 8) else
    if (readR l 4).1 = 0 ∧ k > 0 then (0, 0, 4) else
    if n + (readR l 4).1 % 8 * sc > 8000000 then (0, 0, 3) else
    if (readR l 4).1 < 8 then (unf (n + (readR l 4).1 % 8 * sc), 4 * (k : Int) + 4, 0) else zread f (k + 1) (n + (readR l 4).1 % 8 * sc) (sc * 8) (l.drop 4)
def zreadR (l : List Bool) : Int × Int × Int := zread 8 0 0 1 l
theorem rd4 (d : List Bool) : (d.length < 4 ∧ (readR d 4).1 = 0 ∧ (readR d 4).2 = 8) ∨ (4 ≤ d.length ∧ (readR d 4).1 = val (d.take 4) ∧ (readR d 4).2 = 0 ∧ 0 ≤ (readR d 4).1 ∧ (readR d 4).1 < 16) := by
  unfold readR
  rw [if_neg (by omega)]
  by_cases h : (d.length : Int) < 4
  · rw [if_pos h]; left; exact ⟨by omega, rfl, rfl⟩
  · rw [if_neg h]
    have h1 := val_bound (d.take 4)
    rw [List.length_take, Nat.min_eq_left (by omega)] at h1
    right; exact ⟨by omega, rfl, rfl, h1.1, by simpa using h1.2⟩
section
variable {f k : Nat} {n sc : Int} {l : List Bool}
theorem zr_torn (hf : 1 ≤ f) (h : l.length < 4) : zread f k n sc l = (0, 0, 8) := by
  obtain ⟨g, rfl⟩ : ∃ g, f = g + 1 := ⟨f - 1, by omega⟩
  rw [zread, if_pos h]
theorem zr_form (hf : 1 ≤ f) (h : 4 ≤ l.length) (h0 : (readR l 4).1 = 0) (hk : 0 < k) : zread f k n sc l = (0, 0, 4) := by
  obtain ⟨g, rfl⟩ : ∃ g, f = g + 1 := ⟨f - 1, by omega⟩
  rw [zread, if_neg (by omega), if_pos ⟨h0, hk⟩]
theorem zr_range (hf : 1 ≤ f) (h : 4 ≤ l.length) (h0 : ¬ ((readR l 4).1 = 0 ∧ 0 < k)) (h1 : n + (readR l 4).1 % 8 * sc > 8000000) : zread f k n sc l = (0, 0, 3) := by
  obtain ⟨g, rfl⟩ : ∃ g, f = g + 1 := ⟨f - 1, by omega⟩
  rw [zread, if_neg (by omega), if_neg h0, if_pos h1]
theorem zr_done (hf : 1 ≤ f) (h : 4 ≤ l.length) (h0 : ¬ ((readR l 4).1 = 0 ∧ 0 < k)) (h1 : ¬ n + (readR l 4).1 % 8 * sc > 8000000) (h2 : (readR l 4).1 < 8) : zread f k n sc l = (unf (n + (readR l 4).1 % 8 * sc), 4 * (k : Int) + 4, 0) := by
  obtain ⟨g, rfl⟩ : ∃ g, f = g + 1 := ⟨f - 1, by omega⟩
  rw [zread, if_neg (by omega), if_neg h0, if_neg h1, if_pos h2]
theorem zr_next (hf : 1 ≤ f) (h : 4 ≤ l.length) (h0 : ¬ ((readR l 4).1 = 0 ∧ 0 < k)) (h1 : ¬ n + (readR l 4).1 % 8 * sc > 8000000) (h2 : ¬ (readR l 4).1 < 8) : zread f k n sc l = zread (f - 1) (k + 1) (n + (readR l 4).1 % 8 * sc) (sc * 8) (l.drop 4) := by
  obtain ⟨g, rfl⟩ : ∃ g, f = g + 1 := ⟨f - 1, by omega⟩
  rw [zread, if_neg (by omega), if_neg h0, if_neg h1, if_neg h2]; rfl
end
theorem mul_bd {a b c : Int} (h0 : 0 ≤ a) (h1 : a ≤ 7) (h2 : 0 ≤ b) (h3 : b ≤ c) : 0 ≤ a * b ∧ a * b ≤ 7 * c := by
  refine ⟨Int.mul_nonneg h0 h2, ?_⟩
  have h4 : a * b ≤ 7 * b := Int.mul_le_mul_of_nonneg_right h1 h2
  omega
theorem zread_ok : ∀ (f k : Nat) (n sc : Int) (l : List Bool), (zread f k n sc l).2.2 = 0 → 4 * (k : Int) ≤ (zread f k n sc l).2.1 ∧ (zread f k n sc l).2.1 ≤ 4 * (k : Int) + l.length
  | 0, k, n, sc, l, h => by simp [zread] at h
  | f + 1, k, n, sc, l, h => by
    by_cases h1 : l.length < 4
    · rw [zr_torn (by omega) h1] at h; simp at h
    · by_cases h2 : (readR l 4).1 = 0 ∧ 0 < k
      · rw [zr_form (by omega) (by omega) h2.1 h2.2] at h; simp at h
      · by_cases h3 : n + (readR l 4).1 % 8 * sc > 8000000
        · rw [zr_range (by omega) (by omega) h2 h3] at h; simp at h
        · by_cases h4 : (readR l 4).1 < 8
          · rw [zr_done (by omega) (by omega) h2 h3 h4]; simp only; omega
          · rw [zr_next (by omega) (by omega) h2 h3 h4] at h ⊢
            have := zread_ok _ _ _ _ _ h
            rw [List.length_drop] at this
            simp only [Nat.add_sub_cancel] at this ⊢
            push_cast at this
            omega
theorem zread_bad : ∀ (f k : Nat) (n sc : Int) (l : List Bool), ¬ (zread f k n sc l).2.2 = 0 → (zread f k n sc l).1 = 0 ∧ (zread f k n sc l).2.1 = 0
  | 0, k, n, sc, l, h => ⟨rfl, rfl⟩
  | f + 1, k, n, sc, l, h => by
    by_cases h1 : l.length < 4
    · rw [zr_torn (by omega) h1]; exact ⟨rfl, rfl⟩
    · by_cases h2 : (readR l 4).1 = 0 ∧ 0 < k
      · rw [zr_form (by omega) (by omega) h2.1 h2.2]; exact ⟨rfl, rfl⟩
      · by_cases h3 : n + (readR l 4).1 % 8 * sc > 8000000
        · rw [zr_range (by omega) (by omega) h2 h3]; exact ⟨rfl, rfl⟩
        · by_cases h4 : (readR l 4).1 < 8
          · rw [zr_done (by omega) (by omega) h2 h3 h4] at h; simp at h
          · rw [zr_next (by omega) (by omega) h2 h3 h4] at h ⊢
            exact zread_bad _ _ _ _ _ h
theorem zreadR_ok {l : List Bool} (h : (zreadR l).2.2 = 0) : 0 ≤ (zreadR l).2.1 ∧ (zreadR l).2.1 ≤ l.length := by
  have := zread_ok 8 0 0 1 l h
  unfold zreadR
  omega
theorem zreadR_bad {l : List Bool} (h : ¬ (zreadR l).2.2 = 0) : (zreadR l).1 = 0 ∧ (zreadR l).2.1 = 0 := zread_bad 8 0 0 1 l h
def ztakeR (l : List Bool) : Int × List Bool × Int := ((zreadR l).1, (if (zreadR l).2.2 = 0 then l.drop (zreadR l).2.1.toNat else []), (zreadR l).2.2)
/-! ### The document's way -/
/-! A group as the document takes it apart. -/
end Go.Rb
namespace Go.Rb
theorem read4 {x : Int} (h0 : 0 ≤ x) (h1 : x < 16) (r : List Bool) : (readR (bitsN 4 x ++ r) 4).1 = x ∧ 4 ≤ (bitsN 4 x ++ r).length ∧ (bitsN 4 x ++ r).drop 4 = r := by
  have hl : (bitsN 4 x).length = 4 := bitsN_len 4 x
  have h2 : 4 ≤ (bitsN 4 x ++ r).length := by rw [List.length_append, hl]; omega
  refine ⟨?_, h2, ?_⟩
  · have h3 := rd4 (bitsN 4 x ++ r)
    have h4 : (bitsN 4 x ++ r).take 4 = bitsN 4 x := by rw [List.take_append_of_le_length (by omega), List.take_of_length_le (by omega)]
    rw [h4, val_bitsN 4 x h0 (by simpa using h1)] at h3
    omega
  · rw [List.drop_append_of_le_length (by omega), List.drop_of_length_le (by omega), List.nil_append]
theorem split8 (m sc : Int) : m % 8 * sc + m / 8 * (sc * 8) = m * sc := by
  have h1 : m / 8 * (sc * 8) = 8 * (m / 8) * sc := by rw [Int.mul_comm sc 8, ← Int.mul_assoc, Int.mul_comm (m / 8) 8]
  rw [h1, ← Int.add_mul]
  congr 1
  omega
theorem zread_enc : ∀ (f k : Nat) (n sc m : Int) (r : List Bool), 1 ≤ f → 0 ≤ m → m < 8 ^ f → 0 ≤ n → 1 ≤ sc → n + m * sc ≤ 8000000 → (0 < k → 1 ≤ m) →
    zread f k n sc (zenc f m ++ r) = (unf (n + m * sc), 4 * (k : Int) + (zenc f m).length, 0)
  | 0, k, n, sc, m, r, hf, _, _, _, _, _, _ => by omega
  | f + 1, k, n, sc, m, r, hf, h0, h1, hn, hsc, hb, hk => by
    by_cases h8 : m < 8
    · rw [zenc_last hf h8]
      have hr := read4 (x := 0 + m % 8) (by omega) (by omega) r
      have hx : (readR (bitsN 4 (0 + m % 8) ++ r) 4).1 % 8 = m := by rw [hr.1]; omega
      rw [zr_done hf hr.2.1 (by rw [hr.1]; omega) (by rw [hx]; omega) (by rw [hr.1]; omega), hx, bitsN_len]
      rfl
    · have h2 := div8_lt h1 (by omega)
      rw [zenc_more hf (by omega), List.append_assoc]
      have hr := read4 (x := 8 + m % 8) (by omega) (by omega) (zenc (f + 1 - 1) (m / 8) ++ r)
      have hx : (readR (bitsN 4 (8 + m % 8) ++ (zenc (f + 1 - 1) (m / 8) ++ r)) 4).1 % 8 = m % 8 := by rw [hr.1]; omega
      have hs := split8 m sc
      have hp1 : 0 ≤ m % 8 * sc := Int.mul_nonneg (by omega) (by omega)
      have hp2 : 0 ≤ m / 8 * (sc * 8) := Int.mul_nonneg (by omega) (by omega)
      rw [zr_next hf hr.2.1 (by rw [hr.1]; omega) (by rw [hx]; omega) (by rw [hr.1]; omega), hx, hr.2.2]
      simp only [Nat.add_sub_cancel] at h2 ⊢
      rw [zread_enc f (k + 1) _ _ (m / 8) r (by omega) (by omega) h2.2 (by omega) (by omega) (by omega) (by omega), List.length_append, bitsN_len]
      rw [show n + m % 8 * sc + m / 8 * (sc * 8) = n + m * sc from by omega]
      refine Prod.ext rfl (Prod.ext ?_ rfl)
      push_cast
      omega
theorem zread_inv : ∀ (f k : Nat) (n sc : Int) (l : List Bool), 0 ≤ n → 1 ≤ sc → (zread f k n sc l).2.2 = 0 →
    ∃ m, 0 ≤ m ∧ m < 8 ^ f ∧ (0 < k → 1 ≤ m) ∧ n + m * sc ≤ 8000000 ∧ (zread f k n sc l).1 = unf (n + m * sc) ∧ (zread f k n sc l).2.1 = 4 * (k : Int) + (zenc f m).length ∧ l = zenc f m ++ l.drop (zenc f m).length
  | 0, k, n, sc, l, _, _, h => by simp [zread] at h
  | f + 1, k, n, sc, l, hn, hsc, h => by
    by_cases h1 : l.length < 4
    · rw [zr_torn (by omega) h1] at h; simp at h
    have hrd := rd4 l
    have hlt : (l.take 4).length = 4 := by rw [List.length_take]; omega
    have htk : bitsN 4 (readR l 4).1 = l.take 4 := by
      have h9 := bitsN_val (l.take 4)
      rw [hlt] at h9
      rw [show (readR l 4).1 = val (l.take 4) from by omega]
      exact h9
    by_cases h2 : (readR l 4).1 = 0 ∧ 0 < k
    · rw [zr_form (by omega) (by omega) h2.1 h2.2] at h; simp at h
    by_cases h3 : n + (readR l 4).1 % 8 * sc > 8000000
    · rw [zr_range (by omega) (by omega) h2 h3] at h; simp at h
    by_cases h4 : (readR l 4).1 < 8
    · have hx : (readR l 4).1 % 8 = (readR l 4).1 := by omega
      have hp : (1 : Int) ≤ 8 ^ f := by have : (0 : Int) < 8 ^ f := Int.pow_pos (by omega); omega
      refine ⟨(readR l 4).1, by omega, by rw [Int.pow_succ]; omega, by omega, by rw [← hx]; omega, ?_, ?_, ?_⟩
      · rw [zr_done (by omega) (by omega) h2 h3 h4, hx]
      · rw [zr_done (by omega) (by omega) h2 h3 h4, zenc_last (by omega) h4, bitsN_len]; rfl
      · rw [zenc_last (by omega) h4, Int.zero_add, hx, htk, hlt, List.take_append_drop]
    · rw [zr_next (by omega) (by omega) h2 h3 h4] at h ⊢
      have hp1 : 0 ≤ (readR l 4).1 % 8 * sc := Int.mul_nonneg (by omega) (by omega)
      simp only [Nat.add_sub_cancel] at h ⊢
      obtain ⟨m, g1, g2, g3, g4, g5, g6, g7⟩ := zread_inv f (k + 1) _ _ _ (by omega) (by omega) h
      have g3' := g3 (by omega)
      have hs := split8 ((readR l 4).1 % 8 + 8 * m) sc
      rw [show ((readR l 4).1 % 8 + 8 * m) % 8 = (readR l 4).1 % 8 from by omega, show ((readR l 4).1 % 8 + 8 * m) / 8 = m from by omega] at hs
      have hz : zenc (f + 1) ((readR l 4).1 % 8 + 8 * m) = l.take 4 ++ zenc f m := by
        rw [zenc_more (by omega) (by omega), ← htk]
        rw [show 8 + ((readR l 4).1 % 8 + 8 * m) % 8 = (readR l 4).1 from by omega, show ((readR l 4).1 % 8 + 8 * m) / 8 = m from by omega]
        rfl
      refine ⟨(readR l 4).1 % 8 + 8 * m, by omega, by rw [Int.pow_succ]; omega, by omega, by omega, ?_, ?_, ?_⟩
      · rw [g5]; congr 1; omega
      · rw [g6, hz, List.length_append, hlt]; push_cast; omega
      · rw [hz, List.length_append, hlt, List.append_assoc, ← List.drop_drop, ← g7, List.take_append_drop]
theorem zput_nil {v : Int} (h : -4000000 ≤ v ∧ v ≤ 4000000) (l : List Bool) : zputR l v = (l ++ zenc 8 (foldN v), 0) := by
  unfold zputR
  rw [if_neg (by omega)]
theorem zig_take {v : Int} (h : -4000000 ≤ v ∧ v ≤ 4000000) (r : List Bool) : ztakeR (zenc 8 (foldN v) ++ r) = (v, r, 0) := by
  have h1 := foldN_or v
  have h2 := zread_enc 8 0 0 1 (foldN v) r (by omega) (by omega) (by show _ < (16777216 : Int); omega) (by omega) (by omega) (by omega) (by omega)
  unfold ztakeR zreadR
  rw [h2]
  simp only [Int.zero_add, Int.mul_one, unf_fold, if_true]
  refine Prod.ext rfl (Prod.ext ?_ rfl)
  simp
theorem zig_again {l : List Bool} (h : (ztakeR l).2.2 = 0) : zputR [] (ztakeR l).1 = ((zputR [] (ztakeR l).1).1, 0) ∧ (zputR [] (ztakeR l).1).1 ++ (ztakeR l).2.1 = l := by
  have h' : (zread 8 0 0 1 l).2.2 = 0 := h
  obtain ⟨m, g1, g2, g3, g4, g5, g6, g7⟩ := zread_inv 8 0 0 1 l (by omega) (by omega) h'
  rw [Int.zero_add, Int.mul_one] at g4 g5
  have hu := unf_or g1
  have hv : (ztakeR l).1 = unf m := g5
  have hr : (ztakeR l).2.1 = l.drop (zenc 8 m).length := by
    show (if (zread 8 0 0 1 l).2.2 = 0 then l.drop (zread 8 0 0 1 l).2.1.toNat else []) = _
    rw [if_pos h', g6]
    congr 1
    omega
  rw [hv, hr, zput_nil (by omega), fold_unf g1]
  exact ⟨rfl, by rw [List.nil_append]; exact g7.symm⟩
end Go.Rb
namespace Go.Rb
def PtIn (p : Pt) : Prop := 0 ≤ p.1 ∧ p.1 ≤ 100000 ∧ -1000000 ≤ p.2 ∧ p.2 ≤ 1000000
def chk : Int → List Pt → Int
  | _, [] => 0
  | last, p :: r => if p.1 < 0 ∨ p.1 > 100000 ∨ p.2 < -1000000 ∨ p.2 > 1000000 then 3 else if last ≥ p.1 then 7 else chk p.1 r
def checkL (l : List Pt) : Int := if l.length > 40 then 2 else chk (-1) l
def lastT (l : List Pt) (i : Nat) : Int := if i = 0 then -1 else (l.getD (i - 1) default).1
theorem drop_cons {α : Type} [Inhabited α] {l : List α} {i : Nat} (h : i < l.length) : l.drop i = l.getD i default :: l.drop (i + 1) := by
  rw [List.drop_eq_getElem_cons h]; simp [List.getD, List.getElem?_eq_getElem h]
theorem chk_step {l : List Pt} {i : Nat} (h : i < l.length) : chk (lastT l i) (l.drop i) =
    if (l.getD i default).1 < 0 ∨ (l.getD i default).1 > 100000 ∨ (l.getD i default).2 < -1000000 ∨ (l.getD i default).2 > 1000000 then 3 else if lastT l i ≥ (l.getD i default).1 then 7 else chk (lastT l (i + 1)) (l.drop (i + 1)) := by
  rw [drop_cons h, chk]
  simp [lastT]
theorem chk_all : ∀ {l : List Pt} {last : Int}, chk last l = 0 → ∀ p ∈ l, PtIn p
  | [], _, _, p, hp => by cases hp
  | q :: l, last, h, p, hp => by
    rw [chk] at h
    split at h
    · cases h
    · split at h
      · cases h
      · rcases List.mem_cons.1 hp with rfl | hp
        · unfold PtIn; omega
        · exact chk_all h p hp
theorem checkL_len {l : List Pt} (h : checkL l = 0) : l.length ≤ 40 := by
  unfold checkL at h
  split at h
  · cases h
  · omega
theorem checkL_chk {l : List Pt} (h : checkL l = 0) : chk (-1) l = 0 := by
  unfold checkL at h
  split at h
  · cases h
  · exact h
theorem checkL_all {l : List Pt} (h : checkL l = 0) : ∀ p ∈ l, PtIn p := chk_all (checkL_chk h)
theorem getD_mem {α : Type} [Inhabited α] {l : List α} {i : Nat} (h : i < l.length) : l.getD i default ∈ l := by
  have : l.getD i default = l[i] := by simp [List.getD, List.getElem?_eq_getElem h]
  rw [this]; exact List.getElem_mem h
end Go.Rb
namespace Go.Rb
abbrev badP (p : Pt) : Prop := p.1 < 0 ∨ p.1 > 100000 ∨ p.2 < -1000000 ∨ p.2 > 1000000
def lastP (l : List Pt) (i : Nat) : Pt := if i = 0 then ⟨0, 0⟩ else l.getD (i - 1) default
def stepP (l : List Pt) (i : Nat) : Int := if i = 0 then 0 else (l.getD (i - 1) default).1 - (lastP l (i - 1)).1
theorem lastP_next (l : List Pt) (i : Nat) : lastP l (i + 1) = l.getD i default := by simp [lastP]
theorem stepP_next (l : List Pt) (i : Nat) : stepP l (i + 1) = (l.getD i default).1 - (lastP l i).1 := by simp [stepP]
def itemB (last : Pt) (step : Int) (p : Pt) : List Bool := zenc 8 (foldN (p.1 - last.1 - step)) ++ zenc 8 (foldN (p.2 - last.2))
def packAt (l : List Pt) (i : Nat) : List Bool := ((List.range i).map fun j => itemB (lastP l j) (stepP l j) (l.getD j default)).flatten
theorem packAt_next (l : List Pt) (i : Nat) : packAt l (i + 1) = packAt l i ++ itemB (lastP l i) (stepP l i) (l.getD i default) := by simp [packAt, List.range_succ]
theorem itemB_len (a : Pt) (s : Int) (p : Pt) : (itemB a s p).length ≤ 64 := by
  have h1 := zenc_len 8 (foldN (p.1 - a.1 - s))
  have h2 := zenc_len 8 (foldN (p.2 - a.2))
  unfold itemB; rw [List.length_append]; omega
theorem packAt_len (l : List Pt) (i : Nat) : (packAt l i).length ≤ 64 * i := by
  induction i with
  | zero => simp [packAt]
  | succ i ih =>
    have := itemB_len (lastP l i) (stepP l i) (l.getD i default)
    rw [packAt_next, List.length_append]; omega
def packP (l : List Pt) : List Bool × Int := if checkL l = 0 then (packAt l l.length, 0) else ([], checkL l)
theorem second {l : List Pt} {i : Nat} : (i = 0 → (lastP l i).1 = 0 ∧ (lastP l i).2 = 0 ∧ stepP l i = 0) ∧ (0 < i → (lastP l i) = l.getD (i - 1) default) ∧ (i = 1 → stepP l i = (l.getD (i - 1) default).1) ∧
    (1 < i → stepP l i = (l.getD (i - 1) default).1 - (l.getD (i - 2) default).1) := by
  refine ⟨?_, ?_, ?_, ?_⟩
  · rintro rfl; simp [lastP, stepP, ]
  · intro h; unfold lastP; rw [if_neg (by omega)]
  · rintro rfl; simp [lastP, stepP, ]
  · intro h
    unfold stepP lastP
    rw [if_neg (by omega), if_neg (by omega), show i - 1 - 1 = i - 2 from by omega]
/-! ### Unpacking -/
def stepE (k : Nat) (last p : Pt) : Int := if badP p then 3 else if 0 < k ∧ last.1 ≥ p.1 then 7 else 0
def nxt (last : Pt) (step : Int) (b : List Bool) : Pt := ⟨last.1 + step + (zreadR b).1, last.2 + (zreadR (b.drop (zreadR b).2.1.toNat)).1⟩
def bits1 (b : List Bool) : List Bool := b.drop (zreadR b).2.1.toNat
def bits2 (b : List Bool) : List Bool := (bits1 b).drop (zreadR (bits1 b)).2.1.toNat
def unpk : Nat → Nat → Pt → Int → List Pt → List Bool → List Pt × Int
  | 0, _, _, _, acc, b => if b.length > 0 then ([], 8) else (acc, 0)
  | f + 1, k, last, step, acc, b =>
    if ¬ (zreadR b).2.2 = 0 then ([], (zreadR b).2.2) else
    if ¬ (zreadR (bits1 b)).2.2 = 0 then ([], (zreadR (bits1 b)).2.2) else
    if ¬ stepE k last (nxt last step b) = 0 then ([], stepE k last (nxt last step b)) else
    unpk f (k + 1) (nxt last step b) ((nxt last step b).1 - last.1) (acc ++ [nxt last step b]) (bits2 b)
def unpackR (b : List Bool) (n : Int) : List Pt × Int := if n < 0 ∨ n > 40 then ([], 2) else unpk n.toNat 0 ⟨0, 0⟩ 0 [] b
section
variable {f k : Nat} {last : Pt} {step : Int} {acc : List Pt} {b : List Bool}
theorem un_a (hf : 1 ≤ f) (h : ¬ (zreadR b).2.2 = 0) : unpk f k last step acc b = ([], (zreadR b).2.2) := by
  obtain ⟨g, rfl⟩ : ∃ g, f = g + 1 := ⟨f - 1, by omega⟩
  rw [unpk, if_pos h]
theorem un_b (hf : 1 ≤ f) (h : (zreadR b).2.2 = 0) (h1 : ¬ (zreadR (bits1 b)).2.2 = 0) : unpk f k last step acc b = ([], (zreadR (bits1 b)).2.2) := by
  obtain ⟨g, rfl⟩ : ∃ g, f = g + 1 := ⟨f - 1, by omega⟩
  rw [unpk, if_neg (by omega), if_pos h1]
theorem un_c (hf : 1 ≤ f) (h : (zreadR b).2.2 = 0) (h1 : (zreadR (bits1 b)).2.2 = 0) (h2 : ¬ stepE k last (nxt last step b) = 0) : unpk f k last step acc b = ([], stepE k last (nxt last step b)) := by
  obtain ⟨g, rfl⟩ : ∃ g, f = g + 1 := ⟨f - 1, by omega⟩
  rw [unpk, if_neg (by omega), if_neg (by omega), if_pos h2]
theorem un_d (hf : 1 ≤ f) (h : (zreadR b).2.2 = 0) (h1 : (zreadR (bits1 b)).2.2 = 0) (h2 : stepE k last (nxt last step b) = 0) :
    unpk f k last step acc b = unpk (f - 1) (k + 1) (nxt last step b) ((nxt last step b).1 - last.1) (acc ++ [nxt last step b]) (bits2 b) := by
  obtain ⟨g, rfl⟩ : ∃ g, f = g + 1 := ⟨f - 1, by omega⟩
  rw [unpk, if_neg (by omega), if_neg (by omega), if_neg (by omega)]; rfl
theorem un_e (h : b.length > 0) : unpk 0 k last step acc b = ([], 8) := by rw [unpk, if_pos h]
theorem un_f (h : ¬ b.length > 0) : unpk 0 k last step acc b = (acc, 0) := by rw [unpk, if_neg h]
end
theorem stepE_or (k : Nat) (last p : Pt) : (badP p ∧ stepE k last p = 3) ∨ (PtIn p ∧ 0 < k ∧ p.1 ≤ last.1 ∧ stepE k last p = 7) ∨ (PtIn p ∧ (k = 0 ∨ last.1 < p.1) ∧ stepE k last p = 0) := by
  unfold stepE
  by_cases h : badP p
  · left; exact ⟨h, if_pos h⟩
  · have hp : PtIn p := by unfold badP at h; unfold PtIn; omega
    right
    rw [if_neg h]
    by_cases h2 : 0 < k ∧ last.1 ≥ p.1
    · left; rw [if_pos h2]; exact ⟨hp, h2.1, h2.2, rfl⟩
    · right; rw [if_neg h2]; exact ⟨hp, by omega, rfl⟩
theorem check_two {acc : List Pt} {last p : Pt} {k : Nat} (hk : acc.length = k) (hl : PtIn last) (hlast : 0 < k → acc.getD (k - 1) default = last) : checkL (acc.drop (acc.length - 1) ++ [p]) = stepE k last p := by
  by_cases h0 : k = 0
  · have : acc = [] := List.eq_nil_of_length_eq_zero (by omega)
    subst this
    subst h0
    simp only [List.drop_nil, List.nil_append, checkL, List.length_cons, List.length_nil, chk, stepE, badP]
    unfold PtIn at hl
    rw [if_neg (by omega)]
    by_cases hb : p.1 < 0 ∨ p.1 > 100000 ∨ p.2 < -1000000 ∨ p.2 > 1000000
    · rw [if_pos hb, if_pos hb]
    · rw [if_neg hb, if_neg hb, if_neg (by omega), if_neg (by omega)]
  · have hd : acc.drop (acc.length - 1) = [last] := by
      rw [drop_cons (by omega), List.drop_of_length_le (by omega), hk, hlast (by omega)]
    rw [hd]
    simp only [List.cons_append, List.nil_append, checkL, List.length_cons, List.length_nil, chk, stepE, badP]
    unfold PtIn at hl
    rw [if_neg (by omega), if_neg (by omega), if_neg (by omega)]
    by_cases hb : p.1 < 0 ∨ p.1 > 100000 ∨ p.2 < -1000000 ∨ p.2 > 1000000
    · rw [if_pos hb, if_pos hb]
    · rw [if_neg hb, if_neg hb]
      by_cases hc : last.1 ≥ p.1
      · rw [if_pos hc, if_pos ⟨by omega, hc⟩]
      · rw [if_neg hc, if_neg (by omega)]
theorem zreadR_in (l : List Bool) : -4000001 ≤ (zreadR l).1 ∧ (zreadR l).1 ≤ 4000000 := by
  by_cases h : (zreadR l).2.2 = 0
  · obtain ⟨m, g1, g2, g3, g4, g5, _⟩ := zread_inv 8 0 0 1 l (by omega) (by omega) h
    rw [Int.zero_add, Int.mul_one] at g4 g5
    have hu := unf_or g1
    have hv : (zreadR l).1 = unf m := g5
    omega
  · rw [(zreadR_bad h).1]; omega
theorem ztakeR_rest {b : List Bool} (h : (zreadR b).2.2 = 0) : (ztakeR b).2.1 = bits1 b := by unfold ztakeR bits1; exact if_pos h
theorem bits1_len (b : List Bool) : (bits1 b).length ≤ b.length := by unfold bits1; rw [List.length_drop]; omega
theorem bits2_len (b : List Bool) : (bits2 b).length ≤ b.length := by
  have := bits1_len b
  unfold bits2; rw [List.length_drop]; omega
theorem bits2_eq {b : List Bool} (h : (zreadR b).2.2 = 0) (h1 : (zreadR (bits1 b)).2.2 = 0) : b.drop ((zreadR b).2.1 + (zreadR (bits1 b)).2.1).toNat = bits2 b := by
  have g1 := zreadR_ok h
  have g2 := zreadR_ok h1
  unfold bits2 bits1
  unfold bits1 at g2
  rw [List.drop_drop]
  congr 1
  omega
theorem unpk_len : ∀ (f k : Nat) (last : Pt) (step : Int) (acc : List Pt) (b : List Bool), (unpk f k last step acc b).1.length ≤ acc.length + f
  | 0, k, last, step, acc, b => by
    by_cases h : b.length > 0
    · rw [un_e h]; simp
    · rw [un_f h]; simp
  | f + 1, k, last, step, acc, b => by
    by_cases h1 : (zreadR b).2.2 = 0
    · by_cases h2 : (zreadR (bits1 b)).2.2 = 0
      · by_cases h3 : stepE k last (nxt last step b) = 0
        · rw [un_d (by omega) h1 h2 h3]
          have := unpk_len (f + 1 - 1) (k + 1) (nxt last step b) ((nxt last step b).1 - last.1) (acc ++ [nxt last step b]) (bits2 b)
          rw [List.length_append] at this
          simp only [List.length_cons, List.length_nil] at this
          omega
        · rw [un_c (by omega) h1 h2 h3]; simp
      · rw [un_b (by omega) h1 h2]; simp
    · rw [un_a (by omega) h1]; simp
theorem unpackR_len (b : List Bool) (n : Int) : (unpackR b n).1.length ≤ 40 := by
  unfold unpackR
  split
  · simp
  · have := unpk_len n.toNat 0 ⟨0, 0⟩ 0 [] b
    simp only [List.length_nil] at this
    omega
end Go.Rb
namespace Go.Rb
def packL : Pt → Int → List Pt → List Bool
  | _, _, [] => []
  | last, st, p :: r => itemB last st p ++ packL p (p.1 - last.1) r
theorem packL_at (l : List Pt) : ∀ (d i : Nat), i + d = l.length → packAt l i ++ packL (lastP l i) (stepP l i) (l.drop i) = packAt l l.length
  | 0, i, h => by
    rw [List.drop_of_length_le (by omega), show i = l.length from by omega]
    simp [packL]
  | d + 1, i, h => by
    rw [← packL_at l d (i + 1) (by omega), packAt_next, drop_cons (show i < l.length by omega), packL, lastP_next, stepP_next, List.append_assoc]
theorem packL_all (l : List Pt) : packL ⟨0, 0⟩ 0 l = packAt l l.length := by
  have h := packL_at l l.length 0 (by omega)
  simpa [packAt, lastP, stepP] using h
theorem zenc_ge (m : Int) : 4 ≤ (zenc 8 m).length := by
  rw [zenc, List.length_append, bitsN_len]; omega
theorem itemB_ge (a : Pt) (s : Int) (p : Pt) : 8 ≤ (itemB a s p).length := by
  have h1 := zenc_ge (p.1 - a.1 - s |> foldN)
  have h2 := zenc_ge (foldN (p.2 - a.2))
  unfold itemB; rw [List.length_append]; omega
theorem zreadR_enc {v : Int} (h : -4000000 ≤ v ∧ v ≤ 4000000) (r : List Bool) : (zreadR (zenc 8 (foldN v) ++ r)).1 = v ∧ (zreadR (zenc 8 (foldN v) ++ r)).2.2 = 0 ∧ bits1 (zenc 8 (foldN v) ++ r) = r := by
  have h1 := zig_take h r
  refine ⟨congrArg Prod.fst h1, congrArg (fun x => x.2.2) h1, ?_⟩
  have h2 : (ztakeR (zenc 8 (foldN v) ++ r)).2.1 = r := congrArg (fun x => x.2.1) h1
  rw [← ztakeR_rest (congrArg (fun x => x.2.2) h1), h2]
theorem zreadR_split {b : List Bool} (h : (zreadR b).2.2 = 0) : b = zenc 8 (foldN (zreadR b).1) ++ bits1 b ∧ -4000000 ≤ (zreadR b).1 ∧ (zreadR b).1 ≤ 4000000 := by
  have h1 := zig_again (l := b) h
  have hr : -4000000 ≤ (zreadR b).1 ∧ (zreadR b).1 ≤ 4000000 := by
    apply Classical.byContradiction
    intro hc
    have h2 : (zputR [] (ztakeR b).1).2 = 3 := by
      unfold zputR
      rw [if_pos (by show (zreadR b).1 < _ ∨ (zreadR b).1 > _; omega)]
    rw [h1.1] at h2
    simp at h2
  refine ⟨?_, hr⟩
  have h3 := h1.2
  rw [zput_nil (v := (ztakeR b).1) hr, ztakeR_rest h, List.nil_append] at h3
  exact h3.symm
def L0 (k : Nat) (last : Pt) : Int := if k = 0 then -1 else last.1
theorem chk_cons {L : Int} {p : Pt} {r : List Pt} (h : chk L (p :: r) = 0) : PtIn p ∧ L < p.1 ∧ chk p.1 r = 0 := by
  rw [chk] at h
  split at h
  · cases h
  · split at h
    · cases h
    · exact ⟨by unfold PtIn; omega, by omega, h⟩
theorem chk_mk {L : Int} {p : Pt} {r : List Pt} (h1 : PtIn p) (h2 : L < p.1) (h3 : chk p.1 r = 0) : chk L (p :: r) = 0 := by
  unfold PtIn at h1
  rw [chk, if_neg (by omega), if_neg (by omega)]; exact h3
theorem stepE_zero {k : Nat} {last p : Pt} (h1 : PtIn p) (h2 : L0 k last < p.1) : stepE k last p = 0 := by
  have h := stepE_or k last p
  unfold L0 at h2
  unfold badP at h
  unfold PtIn at h h1
  split at h2 <;> omega
theorem item_read {last p : Pt} {st : Int} (hl : PtIn last) (hs : -100000 ≤ st ∧ st ≤ 100000) (hp : PtIn p) (rest : List Bool) :
    (zreadR (itemB last st p ++ rest)).2.2 = 0 ∧ (zreadR (bits1 (itemB last st p ++ rest))).2.2 = 0 ∧ nxt last st (itemB last st p ++ rest) = p ∧ bits2 (itemB last st p ++ rest) = rest := by
  unfold PtIn at hl hp
  have h1 := zreadR_enc (v := p.1 - last.1 - st) (by omega) (zenc 8 (foldN (p.2 - last.2)) ++ rest)
  have h2 := zreadR_enc (v := p.2 - last.2) (by omega) rest
  have e : itemB last st p ++ rest = zenc 8 (foldN (p.1 - last.1 - st)) ++ (zenc 8 (foldN (p.2 - last.2)) ++ rest) := by unfold itemB; rw [List.append_assoc]
  have hb : bits1 (itemB last st p ++ rest) = zenc 8 (foldN (p.2 - last.2)) ++ rest := by rw [e, h1.2.2]
  refine ⟨by rw [e]; exact h1.2.1, by rw [hb]; exact h2.2.1, ?_, ?_⟩
  · show (⟨last.1 + st + (zreadR (itemB last st p ++ rest)).1, last.2 + (zreadR (bits1 (itemB last st p ++ rest))).1⟩ : Pt) = p
    rw [hb, h2.1, e, h1.1]
    cases p
    simp only [Prod.mk.injEq, ]
    omega
  · show bits1 (bits1 (itemB last st p ++ rest)) = rest
    rw [hb, h2.2.2]
theorem unpk_pack : ∀ (r : List Pt) (k : Nat) (last : Pt) (st : Int) (acc : List Pt) (more : List Bool), PtIn last → (-100000 ≤ st ∧ st ≤ 100000) → chk (L0 k last) r = 0 →
    unpk r.length k last st acc (packL last st r ++ more) = if more.length > 0 then ([], 8) else (acc ++ r, 0)
  | [], k, last, st, acc, more, _, _, _ => by simp [packL, unpk]
  | p :: r, k, last, st, acc, more, hl, hs, hc => by
    obtain ⟨h1, h2, h3⟩ := chk_cons hc
    have hi := item_read hl hs h1 (packL p (p.1 - last.1) r ++ more)
    rw [packL, List.append_assoc, List.length_cons, un_d (by omega) hi.1 hi.2.1 (by rw [hi.2.2.1]; exact stepE_zero h1 h2), hi.2.2.1, hi.2.2.2, Nat.add_sub_cancel]
    have hl' := hl
    have h1' := h1
    unfold PtIn at hl' h1'
    rw [unpk_pack r (k + 1) p (p.1 - last.1) (acc ++ [p]) more h1 (by omega) (by unfold L0; rw [if_neg (by omega)]; exact h3), List.append_assoc]
    rfl
theorem packL_append : ∀ (r1 r2 : List Pt) (last : Pt) (st : Int), ∃ last' st', packL last st (r1 ++ r2) = packL last st r1 ++ packL last' st' r2
  | [], r2, last, st => ⟨last, st, rfl⟩
  | p :: r1, r2, last, st => by
    obtain ⟨a, b, h⟩ := packL_append r1 r2 p (p.1 - last.1)
    exact ⟨a, b, by rw [List.cons_append, packL, h, packL, List.append_assoc]⟩
theorem chk_take : ∀ (l : List Pt) (L : Int) (k : Nat), chk L l = 0 → chk L (l.take k) = 0
  | [], _, _, _ => by simp [chk]
  | p :: l, L, 0, _ => rfl
  | p :: l, L, k + 1, h => by
    obtain ⟨h1, h2, h3⟩ := chk_cons h
    rw [List.take_succ_cons]
    exact chk_mk h1 h2 (chk_take l p.1 k h3)
theorem checkL_take {l : List Pt} (h : checkL l = 0) (k : Nat) : checkL (l.take k) = 0 := by
  have h1 := checkL_len h
  unfold checkL
  rw [if_neg (by rw [List.length_take]; omega)]
  exact chk_take l (-1) k (checkL_chk h)
theorem zero_in : PtIn ⟨0, 0⟩ := by unfold PtIn; decide
theorem line_back {l : List Pt} (h : checkL l = 0) : packP l = (packAt l l.length, 0) ∧ unpackR (packAt l l.length) l.length = (l, 0) ∧ (0 < l.length → ¬ (unpackR (packAt l l.length) (l.length - 1)).2 = 0) := by
  have hl := checkL_len h
  refine ⟨by unfold packP; rw [if_pos h], ?_, ?_⟩
  · unfold unpackR
    rw [if_neg (by omega)]
    have h1 := unpk_pack l 0 ⟨0, 0⟩ 0 [] [] zero_in (by omega) (checkL_chk h)
    rw [List.append_nil, packL_all] at h1
    rw [show ((l.length : Int)).toNat = l.length from by omega, h1]
    simp
  · intro h0
    unfold unpackR
    rw [if_neg (by omega), show ((l.length : Int) - 1).toNat = (l.take (l.length - 1)).length from by rw [List.length_take]; omega]
    obtain ⟨a, b, hab⟩ := packL_append (l.take (l.length - 1)) (l.drop (l.length - 1)) ⟨0, 0⟩ 0
    rw [List.take_append_drop] at hab
    rw [← packL_all, hab, unpk_pack _ 0 ⟨0, 0⟩ 0 [] _ zero_in (by omega) (checkL_chk (checkL_take h _))]
    rw [if_pos]
    · decide
    · rw [drop_cons (by omega), packL, List.length_append]
      have := itemB_ge a b (l.getD (l.length - 1) default)
      omega
theorem unpk_inv : ∀ (f k : Nat) (last : Pt) (st : Int) (acc : List Pt) (b : List Bool), PtIn last → (unpk f k last st acc b).2 = 0 →
    ∃ r, r.length = f ∧ (unpk f k last st acc b).1 = acc ++ r ∧ b = packL last st r ∧ chk (L0 k last) r = 0
  | 0, k, last, st, acc, b, _, h => by
    by_cases hb : b.length > 0
    · rw [un_e hb] at h; simp at h
    · rw [un_f hb]
      exact ⟨[], rfl, by simp, by simpa [packL] using hb, rfl⟩
  | f + 1, k, last, st, acc, b, hl, h => by
    by_cases h1 : (zreadR b).2.2 = 0
    · by_cases h2 : (zreadR (bits1 b)).2.2 = 0
      · by_cases h3 : stepE k last (nxt last st b) = 0
        · rw [un_d (by omega) h1 h2 h3, Nat.add_sub_cancel] at h ⊢
          have hse := stepE_or k last (nxt last st b)
          have hp : PtIn (nxt last st b) ∧ (k = 0 ∨ last.1 < (nxt last st b).1) := by
            rcases hse with g | g | g
            · omega
            · omega
            · exact ⟨g.1, g.2.1⟩
          obtain ⟨r, g1, g2, g3, g4⟩ := unpk_inv f (k + 1) _ _ _ _ hp.1 h
          have s1 := zreadR_split h1
          have s2 := zreadR_split h2
          refine ⟨nxt last st b :: r, by simp [g1], by rw [g2, List.append_assoc]; rfl, ?_, ?_⟩
          · rw [packL, ← g3]
            show b = (zenc 8 (foldN (last.1 + st + (zreadR b).1 - last.1 - st)) ++ zenc 8 (foldN (last.2 + (zreadR (bits1 b)).1 - last.2))) ++ bits1 (bits1 b)
            rw [show last.1 + st + (zreadR b).1 - last.1 - st = (zreadR b).1 from by omega, show last.2 + (zreadR (bits1 b)).1 - last.2 = (zreadR (bits1 b)).1 from by omega, List.append_assoc, ← s2.1]
            exact s1.1
          · refine chk_mk hp.1 ?_ ?_
            · have := hp.1
              unfold PtIn at this
              unfold L0
              split <;> omega
            · unfold L0 at g4
              rw [if_neg (by omega)] at g4
              exact g4
        · rw [un_c (by omega) h1 h2 h3] at h; exact absurd h h3
      · rw [un_b (by omega) h1 h2] at h; exact absurd h h2
    · rw [un_a (by omega) h1] at h; exact absurd h h1
theorem line_again {b : List Bool} {n : Int} (h : (unpackR b n).2 = 0) : packP (unpackR b n).1 = (b, 0) ∧ ((unpackR b n).1.length : Int) = n ∧ checkL (unpackR b n).1 = 0 := by
  unfold unpackR at h ⊢
  by_cases hn : n < 0 ∨ n > 40
  · rw [if_pos hn] at h; simp at h
  · rw [if_neg hn] at h ⊢
    obtain ⟨r, g1, g2, g3, g4⟩ := unpk_inv _ _ _ _ _ _ zero_in h
    rw [g2, List.nil_append]
    have hc : checkL r = 0 := by
      unfold checkL
      rw [if_neg (by omega)]
      exact g4
    refine ⟨?_, by omega, hc⟩
    unfold packP
    rw [if_pos hc, ← packL_all, ← g3]
/-! ### Beginnings -/
/-! ### Steady points -/
end Go.Rb
namespace Go.Rb
def zeroBk : Bk := ⟨0, 0, 0, []⟩
def mkB (l : List Pt) : Bk := ⟨l.length, (l.getD 0 default).1, (l.getD (l.length - 1) default).1, packAt l l.length⟩
def makeR (l : List Pt) : Bk × Int := if ¬ (packP l).2 = 0 then (zeroBk, (packP l).2) else if l.length = 0 then (zeroBk, 4) else (⟨l.length, (l.getD 0 default).1, (l.getD (l.length - 1) default).1, (packP l).1⟩, 0)
def ptsR (x : Bk) : List Pt × Int :=
  if ¬ (unpackR x.2.2.2 x.1).2 = 0 then ([], (unpackR x.2.2.2 x.1).2) else
  if (unpackR x.2.2.2 x.1).1.length = 0 ∨ ¬ ((unpackR x.2.2.2 x.1).1.getD 0 default).1 = x.2.1 ∨ ¬ ((unpackR x.2.2.2 x.1).1.getD ((unpackR x.2.2.2 x.1).1.length - 1) default).1 = x.2.2.1 then ([], 4) else ((unpackR x.2.2.2 x.1).1, 0)
def mergeR (x y : Bk) : Bk × Int := if ¬ (ptsR x).2 = 0 then (zeroBk, (ptsR x).2) else if ¬ (ptsR y).2 = 0 then (zeroBk, (ptsR y).2) else makeR ((ptsR x).1 ++ (ptsR y).1)
theorem ptsR_len (x : Bk) : (ptsR x).1.length ≤ 40 := by
  have := unpackR_len x.2.2.2 x.1
  unfold ptsR
  split
  · simp
  · split
    · simp
    · exact this
theorem mkB_bits {l : List Pt} (h : l.length ≤ 40) : (mkB l).2.2.2.length ≤ 2560 := by
  have := packAt_len l l.length
  show (packAt l l.length).length ≤ 2560
  omega
theorem makeR_ok {l : List Pt} (h : checkL l = 0) (h0 : 0 < l.length) : makeR l = (mkB l, 0) ∧ ptsR (mkB l) = (l, 0) := by
  have hb := line_back h
  refine ⟨?_, ?_⟩
  · unfold makeR
    rw [hb.1, if_neg (by simp), if_neg (by omega)]; rfl
  · have hu : unpackR (mkB l).2.2.2 (mkB l).1 = (l, 0) := hb.2.1
    unfold ptsR
    rw [hu, if_neg (by simp), if_neg (not_or.2 ⟨by show ¬ l.length = 0; omega, not_or.2 ⟨fun h => h rfl, fun h => h rfl⟩⟩)]
theorem mergeR_ok {a b : List Pt} (ha : checkL a = 0) (hb : checkL b = 0) (ha0 : 0 < a.length) (hb0 : 0 < b.length) (h : checkL (a ++ b) = 0) : mergeR (mkB a) (mkB b) = (mkB (a ++ b), 0) := by
  unfold mergeR
  rw [(makeR_ok ha ha0).2, (makeR_ok hb hb0).2, if_neg (by simp), if_neg (by simp)]
  exact (makeR_ok h (by rw [List.length_append]; omega)).1
end Go.Rb
namespace Go.Proofs.Y
open Go.Rb Go.Kx
theorem cloneB_eq {a : List Bool} (h : a.length ≤ 140737488355328) : F_cloneB a = some a := clone_gen 1 a (by omega) (by omega)
theorem equalB_eq {a b : List Bool} (h : a.length < 4611686018427387904) : F_equalB a b = some (decide (a = b)) := equal_gen eqB (fun x y => by cases x <;> cases y <;> rfl) a b h
theorem wshr_eq {n k : Int} (h0 : 0 ≤ n) (hk : 0 ≤ k ∧ k ≤ 40) : wshr .i64 n k = n / 2 ^ k.toNat := by
  unfold wshr
  rw [show min k.toNat IntKind.i64.bits = k.toNat from by show min k.toNat 64 = _; omega, fdiv_pow h0]
theorem bit_eq {n k : Int} (h0 : 0 ≤ n) (h1 : n ≤ 9223372036854775807) (hk : 0 ≤ k ∧ k ≤ 40) : eqI (wand .i64 (wshr .i64 n k) 1) 1 = bitAt n k.toNat := by
  have h2 := div_pow_le h0 k.toNat
  rw [wshr_eq h0 hk]
  unfold wand eqI bitAt
  rw [and_oneI h2.1 (by omega)]
theorem put_eq (l : List Bool) (n w : Int) (hl : l.length ≤ 140737488355200) (hn : n ≤ 9223372036854775807) : F_bits_Put l n w = some (putR l n w) := by
  unfold F_bits_Put putR
  rw [ifB_ltI, ifB_gtI, ifB_ltI, ifB_ltI, ifB_neI, cloneB_eq (by omega), bindO_some]
  by_cases hw0 : w < 0
  · rw [if_pos hw0, if_neg (by unfold putOk; omega)]
  rw [if_neg hw0]
  by_cases hw1 : 40 < w
  · rw [if_pos hw1, if_neg (by unfold putOk; omega)]
  rw [if_neg hw1]
  by_cases hn0 : n < 0
  · rw [if_pos hn0, if_neg (by unfold putOk; omega)]
  rw [if_neg hn0, if_neg hw0, wshr_eq (by omega) ⟨by omega, by omega⟩]
  by_cases hs : n / 2 ^ w.toNat = 0
  · rw [if_pos hs, if_pos ⟨by omega, by omega, by omega, (shr_zero (by omega)).1 hs⟩]
    have hws : wsub .i64 w 1 = w - 1 := wsub_in ⟨by omega, by omega⟩
    rw [hws]
    have key := loop_ind (f := fun (x : Int × List Bool) => ifB (geI (Prod.fst x) 0) (ifB (ltI (Prod.fst x) 0) none (ifB (roomA 1 (Prod.snd x) [eqI (wand IntKind.i64 (wshr IntKind.i64 n (Prod.fst x)) 1) 1])
        (some (Sum.inl (wsub IntKind.i64 (Prod.fst x) 1, cat (Prod.snd x) [eqI (wand IntKind.i64 (wshr IntKind.i64 n (Prod.fst x)) 1) 1]))) none)) (mapO Sum.inr (some (Prod.snd x, (0 : Int)))))
      (G := fun x => some (x.2 ++ (bitsN w.toNat n).drop (w - 1 - x.1).toNat, 0)) (P := fun x => -1 ≤ x.1 ∧ x.1 ≤ w - 1 ∧ (x.2.length : Int) ≤ l.length + (w - 1 - x.1)) (μ := fun x => (x.1 + 1).toNat) ?_ maxR (w - 1, l) ⟨by show -1 ≤ w - 1; omega, by show w - 1 ≤ w - 1; omega, by show (l.length : Int) ≤ l.length + (w - 1 - (w - 1)); omega⟩ (by show (w - 1 + 1).toNat < maxR; unfold maxR; omega)
    · rw [key]
      simp
    · rintro ⟨k, acc⟩ ⟨h0, h1, h2⟩ K hk
      simp only at h0 h1 h2
      simp only [stepK_none, stepK_inl, stepK_inr, stepK_map, stepK_if, stepK_bind, ifB_t, ifB_f, ifB_same, ifB_ltI, ifB_leI, ifB_gtI, ifB_geI, ifB_eqI, ifB_neI, ifB_not, ifB_and, ifB_eqB, ifB_isE, ifB_in1, ifB_in2, ifB_in1N, ifB_in2N, ifB_in1C, ifB_in2C, ifB_inN, ifB_ltL, ifB_ltN, ifB_roomA, ifB_roomI, ifB_roomZ, ifB_roomS, ifB_eqS, ifB_eqL, ifB_fits, bindO_some, bindO_none, mapO_some, mapO_none, lenI_eq, lenN_eq, cat_eq, takeI_eq, dropI_eq, sliI_eq, setN_eq, natI_eq, intN_eq, List.length_cons, List.length_nil]
      by_cases hk0 : 0 ≤ k
      · rw [if_pos hk0, if_neg (by omega), if_pos ⟨by omega, by omega⟩, bit_eq (by omega) hn ⟨hk0, by omega⟩, wsub_in ⟨by omega, by omega⟩]
        rw [hk _ ⟨by show -1 ≤ k - 1; omega, by show k - 1 ≤ w - 1; omega, by show (((acc ++ [bitAt n k.toNat]).length : Nat) : Int) ≤ l.length + (w - 1 - (k - 1)); rw [List.length_append, List.length_cons, List.length_nil]; omega⟩ (by show (k - 1 + 1).toNat < (k + 1).toNat; omega)]
        have hlt : (w - 1 - k).toNat < (bitsN w.toNat n).length := by rw [bitsN_len]; omega
        show some (acc ++ [bitAt n k.toNat] ++ (bitsN w.toNat n).drop (w - 1 - (k - 1)).toNat, (0 : Int)) = some (acc ++ (bitsN w.toNat n).drop (w - 1 - k).toNat, 0)
        rw [drop_cons hlt, bitsN_get (by omega), show (w - 1 - (k - 1)).toNat = (w - 1 - k).toNat + 1 by omega, show w.toNat - 1 - (w - 1 - k).toNat = k.toNat by omega]
        simp
      · rw [if_neg hk0, List.drop_of_length_le (by rw [bitsN_len]; omega), List.append_nil]
  · rw [if_neg hs, if_neg (by intro hc; exact hs ((shr_zero (by omega)).2 hc.2.2.2))]
theorem read_eq (l : List Bool) (w : Int) (hl : l.length ≤ 140737488355328) : F_bits_Read l w = some (readR l w) := by
  unfold F_bits_Read readR
  rw [ifB_ltI, ifB_gtI, ifB_ltI, ifB_in1, lenI_eq]
  by_cases hw0 : w < 0
  · rw [if_pos hw0, if_pos (by omega)]
  rw [if_neg hw0]
  by_cases hw1 : 40 < w
  · rw [if_pos hw1, if_pos (by omega)]
  rw [if_neg hw1, if_neg (show ¬ (w < 0 ∨ w > 40) by omega)]
  by_cases hw2 : (l.length : Int) < w
  · rw [if_pos hw2, if_pos hw2]
  rw [if_neg hw2, if_neg hw2, if_pos ⟨by omega, by omega⟩, takeI_eq]
  have hlen : (l.take w.toNat).length = w.toNat := by rw [List.length_take]; omega
  generalize l.take w.toNat = a at hlen
  show _ = some (a.foldl (fun n b => 2 * n + (if b then 1 else 0)) (0 : Int), (0 : Int))
  refine loop_range a (fun j (s : Int) => (s, (j : Int))) (G := fun rest (s : Int) => some (rest.foldl (fun (n : Int) b => 2 * n + (if b then 1 else 0)) s, (0 : Int))) (P := fun j s => 0 ≤ s ∧ s < 2 ^ j) ?_ ?_ (s0 := 0) ⟨by omega, by decide⟩ (by omega)
  · rintro j s hj ⟨h0, h1⟩ k hk
    have h2 := (pow40 (k := j) (by omega)).2
    have h3 : (2 : Int) ^ (j + 1) = 2 ^ j * 2 := Int.pow_succ _ _
    simp only [stepK_none, stepK_inl, stepK_inr, stepK_map, stepK_if, stepK_bind, ifB_t, ifB_f, ifB_same, ifB_ltI, ifB_leI, ifB_gtI, ifB_geI, ifB_eqI, ifB_neI, ifB_not, ifB_and, ifB_eqB, ifB_isE, ifB_in1, ifB_in2, ifB_in1N, ifB_in2N, ifB_in1C, ifB_in2C, ifB_inN, ifB_ltL, ifB_ltN, ifB_roomA, ifB_roomI, ifB_roomZ, ifB_roomS, ifB_eqS, ifB_eqL, ifB_fits, bindO_some, bindO_none, mapO_some, mapO_none, lenI_eq, lenN_eq, cat_eq, takeI_eq, dropI_eq, sliI_eq, setN_eq, natI_eq, intN_eq, stepK_ifB]
    rw [if_pos (by omega), atI_nat hj, bindO_some, wadd_nat (by omega), wmul_in ⟨by omega, by omega⟩]
    rw [wadd_in ⟨by omega, by omega⟩, hk _ ⟨by omega, by omega⟩, hk _ ⟨by omega, by omega⟩, List.foldl_cons, ifB_if]
    cases a.getD j default <;> simp [Int.mul_comm]
  · rintro s ⟨h0, h1⟩ k
    simp only [stepK_none, stepK_inl, stepK_inr, stepK_map, stepK_if, stepK_bind, ifB_t, ifB_f, ifB_same, ifB_ltI, ifB_leI, ifB_gtI, ifB_geI, ifB_eqI, ifB_neI, ifB_not, ifB_and, ifB_eqB, ifB_isE, ifB_in1, ifB_in2, ifB_in1N, ifB_in2N, ifB_in1C, ifB_in2C, ifB_inN, ifB_ltL, ifB_ltN, ifB_roomA, ifB_roomI, ifB_roomZ, ifB_roomS, ifB_eqS, ifB_eqL, ifB_fits, bindO_some, bindO_none, mapO_some, mapO_none, lenI_eq, lenN_eq, cat_eq, takeI_eq, dropI_eq, sliI_eq, setN_eq, natI_eq, intN_eq]
    rw [if_neg (by omega)]
    rfl
end Go.Proofs.Y
namespace Go.Proofs.Y
open Go.Rb Go.Kx
theorem wrem8 {n : Int} (h : 0 ≤ n) : wrem n 8 = n % 8 := by unfold wrem; exact Int.tmod_eq_emod_of_nonneg h
theorem wrem2 {n : Int} (h : 0 ≤ n) : wrem n 2 = n % 2 := by unfold wrem; exact Int.tmod_eq_emod_of_nonneg h
theorem wquo8 {n : Int} (h : 0 ≤ n) (h1 : n ≤ 9223372036854775807) : wquo .i64 n 8 = n / 8 := by
  unfold wquo; rw [Int.tdiv_eq_ediv_of_nonneg h]; exact wr_id (by omega) (by omega)
theorem fold_eq {v : Int} (h : -4000000 ≤ v ∧ v ≤ 4000000) : F_zig_fold v = some (foldN v) := by
  unfold F_zig_fold foldN
  rw [ifB_ltI]
  split
  · rw [wmul_in ⟨by omega, by omega⟩, wsub_in ⟨by omega, by omega⟩]
  · rw [wmul_in ⟨by omega, by omega⟩]
theorem zenc_up : ∀ (f : Nat) (m : Int), 1 ≤ f → 0 ≤ m → m < 8 ^ f → zenc (f + 1) m = zenc f m
  | 0, m, h, _, _ => absurd h (by omega)
  | f + 1, m, _, h0, h1 => by
    by_cases h8 : m < 8
    · rw [zenc_last (by omega) h8, zenc_last (by omega) h8]
    · have h2 := div8_lt (f := f + 1) h1 (by omega)
      rw [zenc_more (f := f + 2) (by omega) (by omega), zenc_more (f := f + 1) (by omega) (by omega)]
      exact congrArg _ (zenc_up f (m / 8) (by omega) (by omega) h2.2)
theorem zput_eq (l : List Bool) (v : Int) (hl : l.length ≤ 140737488355100) : F_zig_Put l v = some (zputR l v) := by
  unfold F_zig_Put zputR
  rw [ifB_ltI, ifB_gtI]
  by_cases h0 : v < -4000000
  · rw [if_pos h0, if_pos (.inl h0)]
  rw [if_neg h0]
  by_cases h1 : 4000000 < v
  · rw [if_pos h1, if_pos (.inr h1)]
  rw [if_neg h1, if_neg (show ¬ (v < -4000000 ∨ v > 4000000) by omega), fold_eq ⟨by omega, by omega⟩, bindO_some]
  have hf := foldN_or v
  refine loop_ind (G := fun x => some (x.1 ++ zenc 8 x.2, (0 : Int))) (P := fun (x : List Bool × Int) => 0 ≤ x.2 ∧ ∃ f, 1 ≤ f ∧ f ≤ 8 ∧ x.2 < 8 ^ f ∧ x.1.length ≤ l.length + 4 * (8 - f)) (μ := fun x => x.2.toNat) ?_ maxR (l, foldN v) ⟨by show 0 ≤ foldN v; omega, 8, by omega, by omega, by show foldN v < 8 ^ 8; omega, by show l.length ≤ _; omega⟩ (by show (foldN v).toNat < maxR; unfold maxR; omega)
  rintro ⟨acc, n⟩ ⟨g0, f, g1, g2, g3, g4⟩ k hk
  simp only at g0 g3 g4
  have h8 := (pow8 g2).2
  simp only [stepK_none, stepK_inl, stepK_inr, stepK_map, stepK_if, stepK_bind, ifB_t, ifB_f, ifB_same, ifB_ltI, ifB_leI, ifB_gtI, ifB_geI, ifB_eqI, ifB_neI, ifB_not, ifB_and, ifB_eqB, ifB_isE, ifB_in1, ifB_in2, ifB_in1N, ifB_in2N, ifB_in1C, ifB_in2C, ifB_inN, ifB_ltL, ifB_ltN, ifB_roomA, ifB_roomI, ifB_roomZ, ifB_roomS, ifB_eqS, ifB_eqL, ifB_fits, bindO_some, bindO_none, mapO_some, mapO_none, lenI_eq, lenN_eq, cat_eq, takeI_eq, dropI_eq, sliI_eq, setN_eq, natI_eq, intN_eq]
  rw [wrem8 g0, wadd_in ⟨by omega, by omega⟩, wadd_in ⟨by omega, by omega⟩, put_eq _ _ _ (by omega) (by omega), put_eq _ _ _ (by omega) (by omega), bindO_some, bindO_some, (putm g0).1, (putm g0).2, wquo8 g0 (by omega)]
  split
  · rename_i hge
    have hd := div8_lt g3 hge
    rw [hk _ ⟨by show 0 ≤ n / 8; omega, f - 1, by omega, by omega, hd.2, by show (acc ++ bitsN 4 (8 + n % 8)).length ≤ _; rw [List.length_append, bitsN_len]; omega⟩ (by show (n / 8).toNat < n.toNat; omega)]
    show some (acc ++ bitsN 4 (8 + n % 8) ++ zenc 8 (n / 8), (0 : Int)) = _
    rw [zenc_more (f := 8) (m := n) (by omega) hge, List.append_assoc]
    congr 4
    refine (zenc_up 7 (n / 8) (by omega) (by omega) ?_).trans rfl
    have : n < 8 ^ 8 := by have : (8 : Int) ^ 8 = 16777216 := by decide
                           omega
    show n / 8 < 8 ^ 7
    omega
  · rename_i hlt
    show some (acc ++ bitsN 4 (0 + n % 8), (0 : Int)) = _
    rw [zenc_last (f := 8) (m := n) (by omega) (by omega)]
theorem zread_eq (l : List Bool) (hl : l.length ≤ 140737488355328) : F_zig_Read l = some (zreadR l) := by
  unfold F_zig_Read zreadR
  refine loop_ind (G := fun (x : Int × Int × Int) => some (zread (8 - x.2.2.toNat) x.2.2.toNat x.1 x.2.1 (l.drop (4 * x.2.2.toNat)))) (P := fun (x : Int × Int × Int) => 0 ≤ x.2.2 ∧ x.2.2 ≤ 8 ∧ 0 ≤ x.1 ∧ x.1 ≤ 8000000 ∧ x.2.1 = 8 ^ x.2.2.toNat) (μ := fun x => 8 - x.2.2.toNat) ?_ maxR (0, 1, 0) ⟨by decide, by decide, by decide, by decide, by decide⟩ (by decide)
  rintro ⟨n, sc, kk⟩ ⟨g0, g1, g2, g3, g4⟩ K hk
  simp only at g0 g1 g2 g3 g4
  obtain ⟨k, rfl⟩ : ∃ k : Nat, kk = k := ⟨kk.toNat, by omega⟩
  rw [Int.toNat_natCast] at g4
  have hp := pow8 (k := k) (by omega)
  have hmin : minI (lenI l) (wmul .i64 4 (k : Int)) = min (l.length : Int) (4 * k) := by
    rw [wmul_in ⟨by omega, by omega⟩]; rfl
  have hdrop : dropI l (minI (lenI l) (wmul .i64 4 (k : Int))) = l.drop (4 * k) := by
    rw [hmin, dropI_eq]
    by_cases h : (l.length : Int) ≤ 4 * k
    · rw [List.drop_of_length_le (by omega), List.drop_of_length_le (by omega)]
    · congr 1; omega
  have hin : in1 l (minI (lenI l) (wmul .i64 4 (k : Int))) = true := by
    rw [hmin, in1, ← Bool.decide_and]; exact decide_eq_true ⟨by omega, by omega⟩
  have hrd := read_eq (l.drop (4 * k)) 4 (by rw [List.length_drop]; omega)
  have h4 : wadd .i64 (wmul .i64 4 (k : Int)) 4 = 4 * (k : Int) + 4 := by rw [wmul_in ⟨by omega, by omega⟩, wadd_in ⟨by omega, by omega⟩]
  simp only [hin, hdrop, hrd, h4, ifB_t, bindO_some, Int.toNat_natCast]
  simp only [stepK_ifB, stepK_map, stepK_inl, stepK_bind]
  rw [ifB_ltI]
  by_cases h8 : (k : Int) < 8
  · rw [if_pos h8]
    rcases rd4 (l.drop (4 * k)) with ⟨r1, r2, r3⟩ | ⟨r1, r2, r3, r4, r5⟩
    · rw [ifB_neI, r3, if_neg (by decide), zr_torn (by omega) r1]
    · rw [ifB_neI, r3, if_pos rfl]
      generalize hx : (readR (List.drop (4 * k) l) 4).fst = x at *
      have hm := mul_bd (a := x % 8) (b := sc) (c := 16777216) (by omega) (by omega) (by omega) (by omega)
      have hsc : sc ≤ 2097152 := by
        rw [g4]
        exact (by decide : ∀ k : Fin 8, (8 : Int) ^ k.val ≤ 2097152) ⟨k, by omega⟩
      rw [wrem8 r4, wmul_in ⟨by omega, by omega⟩, wadd_in ⟨by omega, by omega⟩, wmul_in (a := sc) (b := 8) ⟨by omega, by omega⟩, wadd_nat (by omega)]
      have hmm := mul_bd (a := x % 8) (b := sc) (c := 2097152) (by omega) (by omega) (by omega) hsc
      generalize hN : n + x % 8 * sc = N at *
      have hwa : wadd .i64 N 1 = N + 1 := wadd_in ⟨by omega, by omega⟩
      have hwn : wneg .i64 (N + 1) = 0 - (N + 1) := wneg_in ⟨by omega, by omega⟩
      rw [hwa, hwn, wrem2 (by omega)]
      -- what is read
      have tail : ¬ (x = 0 ∧ 0 < k) → ifB (gtI N 8000000) (some (0, 0, 3)) (ifB (ltI x 8) (ifB (eqI (N % 2) 1) (some (wquo IntKind.i64 (0 - (N + 1)) 2, 4 * (k : Int) + 4, 0)) (some (wquo IntKind.i64 N 2, 4 * (k : Int) + 4, 0))) (K (N, sc * 8, ((k + 1 : Nat) : Int)))) =
          some (zread (8 - k) k n sc (List.drop (4 * k) l)) := by
        intro hnf
        rw [ifB_gtI]
        by_cases hr : 8000000 < N
        · rw [if_pos hr, zr_range (by omega) r1 (by rw [hx]; exact hnf) (by rw [hx, hN]; exact hr)]
        rw [if_neg hr, ifB_ltI]
        by_cases hd : x < 8
        · rw [if_pos hd, zr_done (by omega) r1 (by rw [hx]; exact hnf) (by rw [hx, hN]; omega) (by rw [hx]; exact hd), hx, hN, ifB_eqI]
          rcases unf_or (n := N) (by omega) with ⟨u1, u2, u3⟩ | ⟨u1, u2, u3⟩
          · rw [if_pos u1]
            unfold wquo
            rw [u3, wr_id (by omega) (by omega)]
          · rw [if_neg (by omega)]
            unfold wquo
            rw [u3, wr_id (by omega) (by omega)]
        · rw [if_neg hd, zr_next (by omega) r1 (by rw [hx]; exact hnf) (by rw [hx, hN]; omega) (by rw [hx]; exact hd), hx, hN]
          rw [hk _ ⟨by show (0 : Int) ≤ ((k + 1 : Nat) : Int); omega, by show ((k + 1 : Nat) : Int) ≤ 8; omega, by show 0 ≤ N; omega, by show N ≤ 8000000; omega, by show sc * 8 = 8 ^ (((k + 1 : Nat) : Int)).toNat; rw [Int.toNat_natCast, g4, Int.pow_succ]⟩ (by show 8 - (((k + 1 : Nat) : Int)).toNat < 8 - ((k : Int)).toNat; omega)]
          simp only [Int.toNat_natCast, List.drop_drop]
          rfl
      rw [ifB_eqI]
      by_cases h0 : x = 0
      · rw [if_pos h0, ifB_gtI]
        by_cases hk0 : (0 : Int) < k
        · rw [if_pos hk0, zr_form (by omega) r1 (by rw [hx]; exact h0) (by omega)]
        · rw [if_neg hk0]; exact tail (by omega)
      · rw [if_neg h0]; exact tail (by omega)
  · rw [if_neg h8]
    have : k = 8 := by omega
    subst this
    rfl
end Go.Proofs.Y
namespace Go.Proofs.Y
open Go.Rb Go.Kx
end Go.Proofs.Y
namespace Go.Proofs.Y
open Go.Rb Go.Kx
theorem check_eq (l : List Pt) (hl : l.length < 4611686018427387904) : F_line_Check l = some (checkL l) := by
  unfold F_line_Check checkL
  rw [ifB_gtI, lenI_eq]
  by_cases h40 : (40 : Int) < l.length
  · rw [if_pos h40, if_pos (by omega)]
  · rw [if_neg h40, if_neg (by omega)]
    refine loop_ind (G := fun (i : Int) => some (chk (lastT l i.toNat) (l.drop i.toNat))) (P := fun i => 0 ≤ i ∧ i ≤ l.length) (μ := fun i => l.length - i.toNat) ?_ maxR 0 ⟨by omega, by omega⟩ (by unfold maxR; omega)
    rintro i ⟨h0, h1⟩ k hk
    obtain ⟨j, rfl⟩ : ∃ j : Nat, i = j := ⟨i.toNat, by omega⟩
    simp only [stepK_none, stepK_inl, stepK_inr, stepK_map, stepK_if, stepK_bind, ifB_t, ifB_f, ifB_same, ifB_ltI, ifB_leI, ifB_gtI, ifB_geI, ifB_eqI, ifB_neI, ifB_not, ifB_and, ifB_eqB, ifB_isE, ifB_in1, ifB_in2, ifB_in1N, ifB_in2N, ifB_in1C, ifB_in2C, ifB_inN, ifB_ltL, ifB_ltN, ifB_roomA, ifB_roomI, ifB_roomZ, ifB_roomS, ifB_eqS, ifB_eqL, ifB_fits, bindO_some, bindO_none, mapO_some, mapO_none, lenI_eq, lenN_eq, cat_eq, takeI_eq, dropI_eq, sliI_eq, setN_eq, natI_eq, intN_eq, Int.toNat_natCast]
    by_cases hj : j < l.length
    · have hw := wadd_nat (j := j) (by omega)
      have hn := hk ((j + 1 : Nat) : Int) ⟨by omega, by omega⟩ (by omega)
      rw [if_pos (by omega), atI_nat hj, bindO_some, hw, hn, chk_step hj, Int.toNat_natCast]
      by_cases h0 : j = 0
      · subst h0
        rw [if_neg (show ¬ (0 : Int) < ((0 : Nat) : Int) by omega)]
        have hl0 : lastT l 0 = -1 := rfl
        rw [hl0]
        repeat' split
        all_goals first | rfl | (exfalso; omega)
      · have e1 : wsub .i64 (j : Int) 1 = ((j - 1 : Nat) : Int) := by rw [wsub_in ⟨by omega, by omega⟩]; omega
        have hl0 : lastT l j = (l.getD (j - 1) default).1 := by unfold lastT; rw [if_neg h0]
        rw [if_pos (show (0 : Int) < (j : Int) by omega), e1, atI_nat (by omega), bindO_some, hl0]
        repeat' split
        all_goals first | rfl | (exfalso; omega)
    · rw [if_neg (by omega), List.drop_of_length_le (by omega)]
      rfl
theorem pack_eq (l : List Pt) (hl : l.length < 4611686018427387904) : F_line_Pack l = some (packP l) := by
  unfold F_line_Pack packP
  rw [check_eq l hl, bindO_some, ifB_neI]
  by_cases hc : checkL l = 0
  · have hall := checkL_all hc
    have hlen := checkL_len hc
    rw [if_pos hc, if_pos hc, ← packL_all]
    refine loop_range l (fun j (s : List Bool × Int × Int × Int) => (s.1, s.2.1, (j : Int), s.2.2.1, s.2.2.2)) (G := fun rest s => some (s.1 ++ packL (s.2.2.1, s.2.2.2) s.2.1 rest, (0 : Int))) (P := fun j s => PtIn (s.2.2.1, s.2.2.2) ∧ -100000 ≤ s.2.1 ∧ s.2.1 ≤ 100000 ∧ s.1.length ≤ 64 * j) ?_ ?_ (s0 := ([], 0, 0, 0)) ⟨zero_in, by show (-100000 : Int) ≤ 0; omega, by show (0 : Int) ≤ 100000; omega, by simp⟩ (by omega)
    · rintro j ⟨out, step, lt, lv⟩ hj ⟨h0, h1, h2, h3⟩ k hk
      have hp := hall _ (getD_mem hj)
      have hat := atI_nat hj
      generalize l.getD j default = p at *
      simp only at h0 h1 h2 h3
      unfold PtIn at h0 hp
      simp only at h0
      simp only [stepK_none, stepK_inl, stepK_inr, stepK_map, stepK_if, stepK_bind, ifB_t, ifB_f, ifB_same, ifB_ltI, ifB_leI, ifB_gtI, ifB_geI, ifB_eqI, ifB_neI, ifB_not, ifB_and, ifB_eqB, ifB_isE, ifB_in1, ifB_in2, ifB_in1N, ifB_in2N, ifB_in1C, ifB_in2C, ifB_inN, ifB_ltL, ifB_ltN, ifB_roomA, ifB_roomI, ifB_roomZ, ifB_roomS, ifB_eqS, ifB_eqL, ifB_fits, bindO_some, bindO_none, mapO_some, mapO_none, lenI_eq, lenN_eq, cat_eq, takeI_eq, dropI_eq, sliI_eq, setN_eq, natI_eq, intN_eq]
      rw [if_pos (by omega), hat, bindO_some, wsub_in (a := p.1) (b := lt) ⟨by omega, by omega⟩, wsub_in (a := p.1 - lt) (b := step) ⟨by omega, by omega⟩, wsub_in (a := p.2) (b := lv) ⟨by omega, by omega⟩, wadd_nat (by omega)]
      rw [zput_eq _ _ (by omega), zput_nil ⟨by omega, by omega⟩, bindO_some]
      have hz1 := zenc_len 8 (foldN (p.1 - lt - step))
      have hz2 := zenc_len 8 (foldN (p.2 - lv))
      rw [zput_eq _ _ (by simp only [List.length_append]; omega), zput_nil ⟨by omega, by omega⟩, bindO_some]
      rw [hk (_, _, _, _) ⟨by unfold PtIn; exact hp, by show -100000 ≤ p.1 - lt; omega, by show p.1 - lt ≤ 100000; omega, by simp only [List.length_append]; omega⟩]
      simp only [packL, itemB, List.append_assoc]
    · rintro s _ k
      simp only [stepK_none, stepK_inl, stepK_inr, stepK_map, stepK_if, stepK_bind, ifB_t, ifB_f, ifB_same, ifB_ltI, ifB_leI, ifB_gtI, ifB_geI, ifB_eqI, ifB_neI, ifB_not, ifB_and, ifB_eqB, ifB_isE, ifB_in1, ifB_in2, ifB_in1N, ifB_in2N, ifB_in1C, ifB_in2C, ifB_inN, ifB_ltL, ifB_ltN, ifB_roomA, ifB_roomI, ifB_roomZ, ifB_roomS, ifB_eqS, ifB_eqL, ifB_fits, bindO_some, bindO_none, mapO_some, mapO_none, lenI_eq, lenN_eq, cat_eq, takeI_eq, dropI_eq, sliI_eq, setN_eq, natI_eq, intN_eq]
      rw [if_neg (by omega)]
      simp [packL]
  · rw [if_neg hc, if_neg hc]
end Go.Proofs.Y
namespace Go.Proofs.Y
open Go.Rb Go.Kx
end Go.Proofs.Y
namespace Go.Proofs.Y
open Go.Rb Go.Kx
theorem nxt_in {k : Nat} {last : Pt} {step : Int} {b : List Bool} (h : stepE k last (nxt last step b) = 0) : PtIn (nxt last step b) := by
  rcases stepE_or k last (nxt last step b) with ⟨_, h1⟩ | ⟨_, _, _, h1⟩ | ⟨h1, _⟩
  · rw [h1] at h; cases h
  · rw [h1] at h; cases h
  · exact h1
theorem unpack_eq (a : List Bool) (n : Int) (ha : a.length ≤ 140737488355200) : F_line_Unpack a n = some (unpackR a n) := by
  unfold F_line_Unpack unpackR
  rw [ifB_ltI, ifB_gtI]
  by_cases h0 : n < 0
  · rw [if_pos h0, if_pos (.inl h0)]
  by_cases h1 : 40 < n
  · rw [if_neg h0, if_pos h1, if_pos (.inr h1)]
  rw [if_neg h0, if_neg h1, if_neg (show ¬ (n < 0 ∨ n > 40) by omega)]
  refine (loop_ind (G := fun (x : List Bool × Int × Int × Int × Int × List Pt) => some (unpk (n - x.2.2.1).toNat x.2.2.1.toNat (x.2.2.2.1, x.2.2.2.2.1) x.2.1 x.2.2.2.2.2 x.1))
    (P := fun (x : List Bool × Int × Int × Int × Int × List Pt) => 0 ≤ x.2.2.1 ∧ x.2.2.1 ≤ n ∧ PtIn (x.2.2.2.1, x.2.2.2.2.1) ∧ -100000 ≤ x.2.1 ∧ x.2.1 ≤ 100000 ∧ x.2.2.2.2.2.length = x.2.2.1.toNat ∧ (0 < x.2.2.1 → x.2.2.2.2.2.getD (x.2.2.1.toNat - 1) default = (x.2.2.2.1, x.2.2.2.2.1)) ∧ x.1.length ≤ 140737488355200)
    (μ := fun x => (n - x.2.2.1).toNat) ?_ maxR (a, 0, 0, 0, 0, []) ⟨Int.le_refl 0, by show 0 ≤ n; omega, zero_in, by show (-100000 : Int) ≤ 0; omega, by show (0 : Int) ≤ 100000; omega, rfl, fun h => absurd h (Int.lt_irrefl 0), ha⟩ (by show (n - 0).toNat < maxR; unfold maxR; omega)).trans (by simp)
  rintro ⟨b, step, i, lt, lv, out⟩ ⟨g0, g1, g2, g3, g4, g5, g6, g7⟩ K hk
  simp only at g0 g1 g2 g3 g4 g5 g6 g7
  obtain ⟨k, rfl⟩ : ∃ k : Nat, i = k := ⟨i.toNat, by omega⟩
  simp only [Int.toNat_natCast] at g5 g6 ⊢
  rw [stepK_ifB, ifB_ltI]
  by_cases hi : (k : Int) < n
  · obtain ⟨f, hf⟩ : ∃ f, (n - (k : Int)).toNat = f + 1 := ⟨(n - (k : Int)).toNat - 1, by omega⟩
    have hzi := zreadR_in b
    rw [if_pos hi, hf, zread_eq b (by omega), bindO_some, stepK_ifB, stepK_map, ifB_neI]
    by_cases hz : (zreadR b).2.2 = 0
    · obtain ⟨hz1, hz2⟩ := zreadR_ok hz
      have hzj := zreadR_in (bits1 b)
      rw [if_pos hz, stepK_ifB, stepK_none, ifB_in1, if_pos ⟨hz1, hz2⟩, dropI_eq]
      rw [show b.drop (zreadR b).2.1.toNat = bits1 b from rfl]
      have hbl := bits1_len b
      rw [zread_eq (bits1 b) (by omega), bindO_some, stepK_ifB, stepK_map, ifB_neI]
      by_cases hy : (zreadR (bits1 b)).2.2 = 0
      · obtain ⟨hy1, hy2⟩ := zreadR_ok hy
        have hbl1 : (bits1 b).length = b.length - (zreadR b).2.1.toNat := by unfold bits1; rw [List.length_drop]
        have hs : wadd .i64 (zreadR b).2.1 (zreadR (bits1 b)).2.1 = (zreadR b).2.1 + (zreadR (bits1 b)).2.1 := wadd_in ⟨by omega, by omega⟩
        unfold PtIn at g2
        simp only at g2
        have hP : (wadd .i64 (wadd .i64 lt step) (zreadR b).1, wadd .i64 lv (zreadR (bits1 b)).1) = nxt (lt, lv) step b := by
          rw [wadd_in (a := lt) ⟨by omega, by omega⟩, wadd_in ⟨by omega, by omega⟩, wadd_in ⟨by omega, by omega⟩]; rfl
        have hp1 : wadd .i64 (wadd .i64 lt step) (zreadR b).1 = (nxt (lt, lv) step b).1 := congrArg Prod.fst hP
        have hp2 : wadd .i64 lv (zreadR (bits1 b)).1 = (nxt (lt, lv) step b).2 := congrArg Prod.snd hP
        simp only [hs, hp1, hp2]
        generalize hp : nxt (lt, lv) step b = p at *
        have hm : maxI 0 (wsub .i64 (lenI out) 1) = ((k - 1 : Nat) : Int) := by
          rw [lenI_eq, g5, wsub_in ⟨by omega, by omega⟩]
          show max (0 : Int) (k - 1) = _
          omega
        have hsub : subN out (k - 1) (subI ((k - 1 : Nat) : Int) (lenI out)) = out.drop (out.length - 1) := by
          have : (out.drop (k - 1)).length ≤ (lenI out).toNat - ((k - 1 : Nat) : Int).toNat := by rw [List.length_drop, lenI_eq]; omega
          unfold subN subI
          rw [List.take_of_length_le this, g5]
        have hck := check_two (acc := out) (last := (lt, lv)) (p := p) (k := k) g5 (by unfold PtIn; exact g2) (fun h => g6 (by omega))
        have hdl : (out.drop (out.length - 1)).length ≤ 1 := by rw [List.length_drop]; omega
        rw [if_pos hy, stepK_ifB, stepK_none, ifB_in1, if_pos ⟨by omega, by omega⟩]
        rw [hm, natI_eq, Int.toNat_natCast, hsub]
        rw [stepK_ifB, stepK_none, ifB_and, ifB_in2, if_pos ⟨by omega, by rw [lenI_eq, g5]; omega, by rw [lenI_eq]; omega⟩, ifB_eqI, if_pos rfl]
        rw [stepK_ifB, stepK_none, ifB_and, ifB_inN, if_pos (by unfold subI; rw [lenI_eq]; omega), ifB_roomA, if_pos (by simp only [List.length_cons, List.length_nil]; omega)]
        rw [stepK_ifB, stepK_none, ifB_fits, if_neg (by unfold subI capN; rw [lenI_eq, lenN_eq]; simp only [List.length_cons, List.length_nil, reduceCtorEq, false_or]; omega)]
        rw [cat_eq, check_eq _ (by simp only [List.length_append, List.length_cons, List.length_nil]; omega), stepK_bind, bindO_some, show ((p.1, p.2) : Pt) = p from rfl, hck, stepK_ifB, stepK_map, ifB_neI]
        by_cases hst : stepE k (lt, lv) p = 0
        · have hpin : PtIn p := by rw [← hp]; exact nxt_in (by rw [hp]; exact hst)
          unfold PtIn at hpin
          rw [if_pos hst, stepK_ifB, stepK_none, stepK_inl, ifB_roomA, if_pos (by simp only [List.length_cons, List.length_nil]; omega), dropI_eq, bits2_eq hz hy, wsub_in ⟨by omega, by omega⟩, wadd_nat (by omega), cat_eq]
          have hb2 := bits2_len b
          rw [hk _ ⟨by show (0 : Int) ≤ ((k + 1 : Nat) : Int); omega, by show ((k + 1 : Nat) : Int) ≤ n; omega, by show PtIn (p.1, p.2); unfold PtIn; exact hpin, by show -100000 ≤ p.1 - lt; omega, by show p.1 - lt ≤ 100000; omega, by show (out ++ [p]).length = ((k + 1 : Nat) : Int).toNat; simp only [List.length_append, List.length_cons, List.length_nil]; omega, fun _ => by
              show (out ++ [p]).getD (((k + 1 : Nat) : Int).toNat - 1) default = p
              rw [Int.toNat_natCast, Nat.add_sub_cancel, ← g5]; simp [List.getD], by show (bits2 b).length ≤ _; omega⟩ (by show (n - ((k + 1 : Nat) : Int)).toNat < (n - (k : Int)).toNat; omega)]
          simp only [Int.toNat_natCast]
          rw [show (n - ((k + 1 : Nat) : Int)).toNat = f by omega, un_d (f := f + 1) (by omega) hz hy (by rw [hp]; exact hst), hp]
          rfl
        · rw [if_neg hst, un_c (f := f + 1) (by omega) hz hy (by rw [hp]; exact hst), hp]
      · rw [if_neg hy, un_b (f := f + 1) (by omega) hz hy]
    · rw [if_neg hz, un_a (f := f + 1) (by omega) hz]
  · have hkn : (n - (k : Int)).toNat = 0 := by omega
    rw [if_neg hi, stepK_map, hkn, ifB_gtI, lenI_eq]
    by_cases hb : (0 : Int) < b.length
    · rw [if_pos hb, un_e (by omega)]
    · rw [if_neg hb, un_f (by omega)]
end Go.Proofs.Y
namespace Go.Proofs.Y
open Go.Rb Go.Kx
end Go.Proofs.Y
namespace Go.Proofs.Y
open Go.Rb Go.Kx
theorem cloneP_eq {a : List Pt} (h : a.length ≤ 8796093022208) : F_cloneP a = some a := clone_gen 16 a (by omega) (by omega)
theorem eqP_dec (x y : Pt) : eqL [x.1, x.2] [y.1, y.2] = decide (x = y) := by
  obtain ⟨a, b⟩ := x; obtain ⟨c, d⟩ := y
  unfold eqL; exact decide_eq_decide.2 (by simp)
theorem equalP_eq {a b : List Pt} (h : a.length < 4611686018427387904) : F_equalP a b = some (decide (a = b))  := by
  have h9 := equal_gen (α := Int × Int) (fun x y => eqL [x.1, x.2] [y.1, y.2]) eqP_dec a b h
  exact h9
theorem concatP_eq {a : List (List Pt)} (h : a.length < 4611686018427387904) (h2 : a.flatten.length ≤ 8796093022208) : F_concatP a = some a.flatten := by
  have h3 : a.flatten.length * 16 ≤ 140737488355328 := by omega
  have h9 := concat_gen (α := Int × Int) 16 (0, 0) a h (by decide) h3 (by decide)
  exact h9
theorem lenPred {l : List Pt} (h0 : 0 < l.length) (h : l.length < 4611686018427387904) : wsub .i64 (lenI l) 1 = ((l.length - 1 : Nat) : Int) := by rw [lenI_eq, wsub_in ⟨by omega, by omega⟩]; omega
theorem at0 {l : List Pt} (h0 : 0 < l.length) : atI l 0 = some (l.getD 0 default) := atI_nat (j := 0) h0
theorem make_eq (l : List Pt) (hl : l.length < 4611686018427387904) : F_block_Make l = some (makeR l) := by
  unfold F_block_Make makeR
  rw [pack_eq l hl, bindO_some, ifB_neI, ifB_eqI, lenI_eq]
  by_cases h : (packP l).2 = 0
  · rw [if_pos h, if_neg (not_not_intro h)]
    by_cases h0 : l.length = 0
    · rw [if_pos (by omega), if_pos h0]; rfl
    · rw [if_neg (by omega), if_neg h0, at0 (by omega), bindO_some, ← lenI_eq, lenPred (by omega) hl, atI_nat (by omega), bindO_some]
  · rw [if_neg h, if_pos h]; rfl
theorem points_eq (x : Bk) (hx : x.2.2.2.length ≤ 140737488355200) : F_block_Points x = some (ptsR x) := by
  unfold F_block_Points ptsR
  have hl := unpackR_len x.2.2.2 x.1
  rw [unpack_eq _ _ hx, bindO_some]
  generalize unpackR x.2.2.2 x.1 = u at *
  simp only [ifB_neI, ifB_eqI, lenI_eq]
  by_cases h : u.2 = 0
  · rw [if_pos h, if_neg (not_not_intro h)]
    by_cases h0 : u.1.length = 0
    · rw [if_pos (by omega), if_pos (.inl h0)]
    · rw [if_neg (by omega), at0 (by omega), bindO_some, ← lenI_eq, lenPred (by omega) (by omega), atI_nat (by omega), bindO_some]
      by_cases h1 : (u.1.getD 0 default).1 = x.2.1
      · rw [if_pos h1]
        by_cases h2 : (u.1.getD (u.1.length - 1) default).1 = x.2.2.1
        · rw [if_pos h2, if_neg (by simp only [h0, h1, h2, not_true_eq_false, or_self, not_false_eq_true])]
        · rw [if_neg h2, if_pos (.inr (.inr h2))]
      · rw [if_neg h1, if_pos (.inr (.inl h1))]
  · rw [if_neg h, if_pos h]
theorem merge_eq (x y : Bk) (hx : x.2.2.2.length ≤ 140737488355200) (hy : y.2.2.2.length ≤ 140737488355200) : F_block_Merge x y = some (mergeR x y) := by
  unfold F_block_Merge mergeR
  have hlx := ptsR_len x
  have hly := ptsR_len y
  rw [show ((x.1, x.2.1, x.2.2.1, x.2.2.2) : Bk) = x from rfl, show ((y.1, y.2.1, y.2.2.1, y.2.2.2) : Bk) = y from rfl, points_eq x hx, points_eq y hy, bindO_some, bindO_some, ifB_neI, ifB_neI]
  by_cases h : (ptsR x).2 = 0
  · rw [if_pos h, if_neg (not_not_intro h)]
    by_cases h1 : (ptsR y).2 = 0
    · rw [if_pos h1, if_neg (not_not_intro h1), concatP_eq (by simp) (by rw [flatten2, List.length_append]; omega), flatten2, bindO_some, make_eq _ (by rw [List.length_append]; omega), bindO_some]
    · rw [if_neg h1, if_pos h1]; rfl
  · rw [if_neg h, if_pos h]; rfl
theorem copy_eq (x : Bk) (hx : x.2.2.2.length ≤ 140737488355200) : F_block_Copy x = some x := by
  unfold F_block_Copy
  rw [cloneB_eq (by omega), bindO_some]
theorem same_eq (x y : Bk) (hx : x.2.2.2.length ≤ 140737488355200) : F_block_Same x y = some (decide (x = y)) := by
  unfold F_block_Same
  rw [equalB_eq (by omega), bindO_some]
  obtain ⟨a, b, c, d⟩ := x; obtain ⟨a', b', c', d'⟩ := y
  simp only [ifB_eqI]
  by_cases h1 : a = a' <;> by_cases h2 : b = b' <;> by_cases h3 : c = c' <;> simp [h1, h2, h3]
end Go.Proofs.Y
namespace Go.Rb
def rp : List Bk → List Pt → List Pt × Int
  | [], acc => (acc, 0)
  | b :: r, acc => if (ptsR b).2 = 0 then rp r (acc ++ (ptsR b).1) else ([], (ptsR b).2)
def allR (r : Rowd) : List Pt × Int := if r.1.length > 8 then ([], 2) else if (rp r.1 []).2 = 0 then ((rp r.1 []).1 ++ r.2, checkL ((rp r.1 []).1 ++ r.2)) else ([], (rp r.1 []).2)
def rowsE : List Rowd → Int
  | [] => 0
  | r :: rs => if (allR r).2 = 0 then rowsE rs else (allR r).2
def chkS (s : Shf) : Int := if s.length = 4 then rowsE s else 4
def allS (s : Shf) (i : Int) : List Pt × Int := if chkS s = 0 then (if i < 0 ∨ (s.length : Int) ≤ i then ([], 5) else allR (s.getD i.toNat default)) else ([], chkS s)
def okB (b : Bk) : Prop := b.2.2.2.length ≤ 140737488355200
def okR (r : Rowd) : Prop := (∀ b ∈ r.1, okB b) ∧ r.1.length < 4611686018427387904 ∧ r.2.length ≤ 8796093022100
def okS (s : Shf) : Prop := s.length < 4611686018427387904 ∧ ∀ r ∈ s, okR r
theorem rowsE_zero : ∀ {s : List Rowd}, rowsE s = 0 ↔ ∀ r ∈ s, (allR r).2 = 0
  | [] => by simp [rowsE]
  | r :: s => by
    rw [rowsE]
    split
    · rename_i h; rw [rowsE_zero]; simp [h]
    · rename_i h; simp [h]
theorem chkS_zero {s : Shf} : chkS s = 0 ↔ s.length = 4 ∧ ∀ r ∈ s, (allR r).2 = 0 := by
  unfold chkS
  split
  · rename_i h; rw [rowsE_zero]; simp [h]
  · rename_i h; simp [h]
theorem allR_ok {r : Rowd} (h : (allR r).2 = 0) : r.1.length ≤ 8 ∧ (rp r.1 []).2 = 0 ∧ (allR r).1 = (rp r.1 []).1 ++ r.2 ∧ checkL ((rp r.1 []).1 ++ r.2) = 0 := by
  unfold allR at h ⊢
  split at h
  · cases h
  · rename_i h8
    split at h
    · rename_i h0
      rw [if_neg h8, if_pos h0]
      exact ⟨by omega, h0, rfl, h⟩
    · rename_i h0; exact absurd h h0
theorem allS_of {s : Shf} {i : Int} (h : chkS s = 0) (h0 : 0 ≤ i) (h1 : i < 4) : (allS s i).2 = 0 := by
  obtain ⟨h4, hr⟩ := chkS_zero.1 h
  unfold allS
  rw [if_pos h, if_neg (by omega)]
  exact hr _ (getD_mem (by omega))
/-! ### Rising points -/
def Rise (l : List Pt) : Prop := l.Pairwise fun p q => p.1 < q.1
theorem chk_rise : ∀ {l : List Pt} {L : Int}, chk L l = 0 → Rise l ∧ ∀ p ∈ l, L < p.1
  | [], _, _ => ⟨.nil, by simp⟩
  | p :: l, L, h => by
    obtain ⟨h1, h2, h3⟩ := chk_cons h
    obtain ⟨h4, h5⟩ := chk_rise h3
    refine ⟨List.pairwise_cons.2 ⟨h5, h4⟩, fun q hq => ?_⟩
    rcases List.mem_cons.1 hq with rfl | hq
    · exact h2
    · have := h5 q hq; omega
theorem checkL_rise {l : List Pt} (h : checkL l = 0) : Rise l := (chk_rise (checkL_chk h)).1
end Go.Rb
namespace Go.Proofs.Y
open Go.Rb Go.Kx
theorem okB_get {r : Rowd} (h : okR r) {i : Nat} (hi : i < r.1.length) : okB (r.1.getD i default) := h.1 _ (getD_mem hi)
theorem all_eq (r : Rowd) (hr : okR r) : F_shelf_all r = some (allR r) := by
  unfold F_shelf_all allR
  have hok := hr
  obtain ⟨h1, h2, h3⟩ := hr
  rw [ifB_gtI, lenI_eq]
  by_cases h8 : (8 : Int) < r.1.length
  · rw [if_pos h8, if_pos (by omega)]
  · rw [if_neg h8, if_neg (by omega)]
    refine loop_range r.1 (fun j (s : List Pt) => ((j : Int), s)) (G := fun rest s => some (if (rp rest s).2 = 0 then ((rp rest s).1 ++ r.2, checkL ((rp rest s).1 ++ r.2)) else ([], (rp rest s).2))) (P := fun j s => s.length ≤ 40 * j) ?_ ?_ (s0 := []) (by simp) (by omega)
    · rintro j s hj hp k hk
      have hb := okB_get hok hj
      have hat := atI_nat hj
      generalize r.1.getD j default = b at *
      have hpl := ptsR_len b
      simp only [stepK_none, stepK_inl, stepK_inr, stepK_map, stepK_if, stepK_bind, ifB_t, ifB_f, ifB_same, ifB_ltI, ifB_leI, ifB_gtI, ifB_geI, ifB_eqI, ifB_neI, ifB_not, ifB_and, ifB_eqB, ifB_isE, ifB_in1, ifB_in2, ifB_in1N, ifB_in2N, ifB_in1C, ifB_in2C, ifB_inN, ifB_ltL, ifB_ltN, ifB_roomA, ifB_roomI, ifB_roomZ, ifB_roomS, ifB_eqS, ifB_eqL, ifB_fits, bindO_some, bindO_none, mapO_some, mapO_none, lenI_eq, lenN_eq, cat_eq, takeI_eq, dropI_eq, sliI_eq, setN_eq, natI_eq, intN_eq]
      rw [if_pos (by omega), hat, bindO_some, show ((b.1, b.2.1, b.2.2.1, b.2.2.2) : Bk) = b from rfl, points_eq b hb, bindO_some, wadd_nat (by omega)]
      by_cases hz : (ptsR b).2 = 0
      · rw [if_pos hz, if_pos (by omega), hk _ (by simp only [List.length_append]; omega)]
        simp only [rp, if_pos hz]
      · rw [if_neg hz]
        simp only [rp, if_neg hz]
    · rintro s hp k
      simp only [stepK_none, stepK_inl, stepK_inr, stepK_map, stepK_if, stepK_bind, ifB_t, ifB_f, ifB_same, ifB_ltI, ifB_leI, ifB_gtI, ifB_geI, ifB_eqI, ifB_neI, ifB_not, ifB_and, ifB_eqB, ifB_isE, ifB_in1, ifB_in2, ifB_in1N, ifB_in2N, ifB_in1C, ifB_in2C, ifB_inN, ifB_ltL, ifB_ltN, ifB_roomA, ifB_roomI, ifB_roomZ, ifB_roomS, ifB_eqS, ifB_eqL, ifB_fits, bindO_some, bindO_none, mapO_some, mapO_none, lenI_eq, lenN_eq, cat_eq, takeI_eq, dropI_eq, sliI_eq, setN_eq, natI_eq, intN_eq]
      rw [if_neg (by omega), if_pos (by omega), check_eq _ (by simp only [List.length_append]; omega), bindO_some]
      simp [rp]
theorem checkS_eq (s : Shf) (hs : okS s) : F_shelf_Check s = some (chkS s) := by
  unfold F_shelf_Check chkS
  obtain ⟨h1, h2⟩ := hs
  rw [ifB_neI, lenI_eq]
  by_cases h4 : (s.length : Int) = 4
  · rw [if_pos h4, if_pos (by omega)]
    refine loop_range s (fun j (_ : Unit) => (j : Int)) (G := fun rest _ => some (rowsE rest)) (P := fun _ _ => True) ?_ ?_ (s0 := ()) trivial (by omega)
    · rintro j _ hj _ k hk
      have hr := h2 _ (getD_mem hj)
      have hat := atI_nat hj
      generalize s.getD j default = r at *
      simp only [stepK_none, stepK_inl, stepK_inr, stepK_map, stepK_if, stepK_bind, ifB_t, ifB_f, ifB_same, ifB_ltI, ifB_leI, ifB_gtI, ifB_geI, ifB_eqI, ifB_neI, ifB_not, ifB_and, ifB_eqB, ifB_isE, ifB_in1, ifB_in2, ifB_in1N, ifB_in2N, ifB_in1C, ifB_in2C, ifB_inN, ifB_ltL, ifB_ltN, ifB_roomA, ifB_roomI, ifB_roomZ, ifB_roomS, ifB_eqS, ifB_eqL, ifB_fits, bindO_some, bindO_none, mapO_some, mapO_none, lenI_eq, lenN_eq, cat_eq, takeI_eq, dropI_eq, sliI_eq, setN_eq, natI_eq, intN_eq]
      rw [if_pos (by omega), hat, bindO_some, show ((r.1, r.2) : Rowd) = r from rfl, all_eq r hr, bindO_some, wadd_nat (by omega), hk () trivial, rowsE]
      split <;> rfl
    · rintro _ _ k
      simp only [stepK_none, stepK_inl, stepK_inr, stepK_map, stepK_if, stepK_bind, ifB_t, ifB_f, ifB_same, ifB_ltI, ifB_leI, ifB_gtI, ifB_geI, ifB_eqI, ifB_neI, ifB_not, ifB_and, ifB_eqB, ifB_isE, ifB_in1, ifB_in2, ifB_in1N, ifB_in2N, ifB_in1C, ifB_in2C, ifB_inN, ifB_ltL, ifB_ltN, ifB_roomA, ifB_roomI, ifB_roomZ, ifB_roomS, ifB_eqS, ifB_eqL, ifB_fits, bindO_some, bindO_none, mapO_some, mapO_none, lenI_eq, lenN_eq, cat_eq, takeI_eq, dropI_eq, sliI_eq, setN_eq, natI_eq, intN_eq]
      rw [if_neg (by omega)]; rfl
  · rw [if_neg h4, if_neg (by omega)]
theorem allS_eq (s : Shf) (i : Int) (hs : okS s) : F_shelf_All s i = some (allS s i) := by
  unfold F_shelf_All allS
  rw [checkS_eq s hs, bindO_some, ifB_neI, ifB_ltI, ifB_geI, lenI_eq]
  by_cases hc : chkS s = 0
  · rw [if_pos hc, if_pos hc]
    by_cases h0 : i < 0
    · rw [if_pos h0, if_pos (.inl h0)]
    · rw [if_neg h0]
      by_cases h1 : (s.length : Int) ≤ i
      · rw [if_pos h1, if_pos (.inr h1)]
      · have hr := hs.2 _ (getD_mem (l := s) (i := i.toNat) (by omega))
        rw [if_neg h1, if_neg (by omega), atI_int (by omega) (by omega), bindO_some]
        generalize s.getD i.toNat default = r at *
        rw [show ((r.1, r.2) : Rowd) = r from rfl, all_eq r hr, bindO_some]
  · rw [if_neg hc, if_neg hc]
end Go.Proofs.Y
namespace Go.Proofs.Y
open Go.Rb Go.Kx
theorem set_take {α : Type} {l : List α} {i : Nat} {x : α} (h : i < l.length) : (l.set i x).take (i + 1) = l.take i ++ [x] := by
  have hl : (l.take i).length = i := by rw [List.length_take]; omega
  rw [List.set_eq_take_append_cons_drop, if_pos h, List.take_append, hl, List.take_of_length_le (by omega), Nat.add_sub_cancel_left]
  rfl
theorem set_drop {α : Type} {l : List α} {i j : Nat} {x : α} (h : i < j) : (l.set i x).drop j = l.drop j := by
  rw [List.drop_set, if_pos h]
theorem getD_drop {α : Type} [Inhabited α] {a b : List α} {j : Nat} (h : a.drop j = b.drop j) (ha : j < a.length) (hb : j < b.length) : a.getD j default = b.getD j default := by
  rw [drop_cons ha, drop_cons hb] at h
  exact (List.cons.inj h).1
theorem drop_succ_of {α : Type} {a b : List α} {j : Nat} (h : a.drop j = b.drop j) : a.drop (j + 1) = b.drop (j + 1) := by
  rw [← List.drop_drop, ← List.drop_drop, h]
theorem filter_take {α : Type} [Inhabited α] (f : α → Bool) {l : List α} {j : Nat} (h : j < l.length) : (l.take (j + 1)).filter f = (l.take j).filter f ++ (if f (l.getD j default) = true then [l.getD j default] else []) := by
  rw [take_next h, List.filter_append]
  congr 1
  rw [List.filter_cons, List.filter_nil]
theorem clear_end {α : Type} (rows : List α) (i : Nat) (z : α) (h : i ≤ rows.length) {β : Type} (e : List α → Option β) :
    ifB (in1 rows (i : Int)) (ifB (inN rows (addN 0 (natI (i : Int))) (subNI (lenN rows) (i : Int))) (ifB (in1 (overN rows (addN 0 (natI (i : Int))) (repN (subNI (lenN rows) (i : Int)) z)) (i : Int))
      (ifB (inN (overN rows (addN 0 (natI (i : Int))) (repN (subNI (lenN rows) (i : Int)) z)) 0 (natI (i : Int))) (e (subN (overN rows (addN 0 (natI (i : Int))) (repN (subNI (lenN rows) (i : Int)) z)) 0 (natI (i : Int)))) none) none) none) none = e (rows.take i) := by
  have e1 : addN 0 (natI (i : Int)) = i := by simp [addN, natI]
  have e2 : subNI (lenN rows) (i : Int) = rows.length - i := by simp [subNI, lenN]
  have e3 : natI (i : Int) = i := rfl
  rw [e1, e2, e3]
  have hl : (overN rows i (repN (rows.length - i) z)).length = rows.length := by simp [overN, repN]; omega
  have hs : subN (overN rows i (repN (rows.length - i) z)) 0 i = rows.take i := by
    unfold subN overN
    rw [List.drop_zero, List.append_assoc, List.take_append_of_le_length (by simp; omega), List.take_take, Nat.min_self]
  rw [ifB_in1, if_pos ⟨by omega, by omega⟩, ifB_inN, if_pos (by omega), ifB_in1, if_pos ⟨by omega, by omega⟩, ifB_inN, if_pos (by omega), hs]
end Go.Proofs.Y
namespace Go.Rb
open Go.Kx
end Go.Rb
namespace Go.Proofs.Y
open Go.Rb Go.Kx
end Go.Proofs.Y
namespace Go.Proofs.Y
open Go.Rb Go.Kx
end Go.Proofs.Y
namespace Go.Proofs.Y
open Go.Rb Go.Kx
end Go.Proofs.Y
namespace Go.Proofs.Y
open Go.Rb Go.Kx
end Go.Proofs.Y
namespace Go.Rb
open Go.Kx
/-! ### Twice as wide -/
/-! ### They rise -/
end Go.Rb
namespace Go.Rb
open Go.Kx
instance decRowd : DecidableEq Rowd := instDecidableEqProd
theorem chk_of : ∀ {l : List Pt} {L : Int}, Rise l → (∀ p ∈ l, PtIn p) → (∀ p ∈ l, L < p.1) → chk L l = 0
  | [], _, _, _, _ => rfl
  | p :: l, L, hr, hi, hL => chk_mk (hi p List.mem_cons_self) (hL p List.mem_cons_self) (chk_of (List.pairwise_cons.1 hr).2 (fun q hq => hi q (List.mem_cons_of_mem _ hq)) (List.pairwise_cons.1 hr).1)
theorem checkL_iff {l : List Pt} : checkL l = 0 ↔ l.length ≤ 40 ∧ Rise l ∧ ∀ p ∈ l, PtIn p := by
  constructor
  · intro h; exact ⟨checkL_len h, checkL_rise h, checkL_all h⟩
  · rintro ⟨h1, h2, h3⟩
    unfold checkL; rw [if_neg (by omega)]
    exact chk_of h2 h3 fun p hp => by have := h3 p hp; unfold PtIn at this; omega
theorem checkL_sub {l m : List Pt} (h : checkL m = 0) (hs : l.Sublist m) : checkL l = 0 := by
  rw [checkL_iff] at h ⊢
  exact ⟨by have := hs.length_le; omega, h.2.1.sublist hs, fun p hp => h.2.2 p (hs.subset hp)⟩
def okBs (bs : List Bk) : Prop := ∀ b ∈ bs, (ptsR b).2 = 0
def ptsBs (bs : List Bk) : List Pt := (bs.map fun b => (ptsR b).1).flatten
theorem ptsBs_app (a b : List Bk) : ptsBs (a ++ b) = ptsBs a ++ ptsBs b := by simp [ptsBs]
theorem ptsBs_cons (a : Bk) (b : List Bk) : ptsBs (a :: b) = (ptsR a).1 ++ ptsBs b := by simp [ptsBs]
theorem ptsBs_one (a : Bk) : ptsBs [a] = (ptsR a).1 := by simp [ptsBs]
theorem rp_ok : ∀ {bs : List Bk} {acc : List Pt}, okBs bs → rp bs acc = (acc ++ ptsBs bs, 0)
  | [], acc, _ => by simp [rp, ptsBs]
  | b :: r, acc, h => by
    rw [rp, if_pos (h b List.mem_cons_self), rp_ok fun c hc => h c (List.mem_cons_of_mem _ hc), ptsBs_cons, List.append_assoc]
theorem rp_zero : ∀ {bs : List Bk} {acc : List Pt}, (rp bs acc).2 = 0 → okBs bs
  | [], _, _ => fun b hb => by cases hb
  | b :: r, acc, h => by
    rw [rp] at h
    split at h
    · rename_i h0
      intro c hc
      rcases List.mem_cons.1 hc with rfl | hc
      · exact h0
      · exact rp_zero h c hc
    · rename_i h0; exact absurd h h0
theorem allR_of {r : Rowd} (h1 : r.1.length ≤ 8) (h2 : okBs r.1) (h3 : checkL (ptsBs r.1 ++ r.2) = 0) : allR r = (ptsBs r.1 ++ r.2, 0) := by
  unfold allR
  rw [if_neg (by omega), rp_ok h2, if_pos rfl, List.nil_append, h3]
theorem allR_is {r : Rowd} (h : (allR r).2 = 0) : r.1.length ≤ 8 ∧ okBs r.1 ∧ checkL (ptsBs r.1 ++ r.2) = 0 ∧ allR r = (ptsBs r.1 ++ r.2, 0) := by
  obtain ⟨h1, h2, h3, h4⟩ := allR_ok h
  have hb := rp_zero h2
  rw [rp_ok hb, List.nil_append] at h4
  exact ⟨h1, hb, h4, allR_of h1 hb h4⟩
theorem ptsR_is {b : Bk} (h : (ptsR b).2 = 0) : 0 < (ptsR b).1.length ∧ checkL (ptsR b).1 = 0 ∧ b = mkB (ptsR b).1 := by
  unfold ptsR at h
  split at h
  · rename_i h0; exact absurd h h0
  · rename_i h0
    split at h
    · cases h
    · rename_i h1
      have hp : ptsR b = ((unpackR b.2.2.2 b.1).1, 0) := by unfold ptsR; rw [if_neg h0, if_neg h1]
      have h0' : (unpackR b.2.2.2 b.1).2 = 0 := by rwa [Classical.not_not] at h0
      obtain ⟨g1, g2, g3⟩ := line_again h0'
      rw [not_or, not_or, Classical.not_not, Classical.not_not] at h1
      rw [hp]
      refine ⟨by have := h1.1; show 0 < (unpackR b.2.2.2 b.1).1.length; omega, g3, ?_⟩
      have hk := (line_back g3).1
      rw [g1] at hk
      obtain ⟨n, f, t, bits⟩ := b
      simp only at *
      unfold mkB
      rw [← (Prod.mk.inj hk).1, h1.2.1, h1.2.2, g2]
theorem ptsR_bits {b : Bk} (h : (ptsR b).2 = 0) : b.2.2.2.length ≤ 2560 := by
  obtain ⟨h1, h2, h3⟩ := ptsR_is h
  rw [h3]; exact mkB_bits (checkL_len h2)
theorem okR_of {r : Rowd} (h : (allR r).2 = 0) : okR r := by
  obtain ⟨h1, h2, h3, _⟩ := allR_is h
  have := checkL_len h3
  rw [List.length_append] at this
  exact ⟨fun b hb => by have := ptsR_bits (h2 b hb); unfold okB; omega, by omega, by omega⟩
theorem okS_of {s : Shf} (h : chkS s = 0) : okS s := by
  obtain ⟨h1, h2⟩ := chkS_zero.1 h
  exact ⟨by omega, fun r hr => okR_of (h2 r hr)⟩
theorem chkS_set {s : Shf} (h : chkS s = 0) {r : Rowd} (hr : (allR r).2 = 0) (i : Nat) : chkS (s.set i r) = 0 := by
  obtain ⟨h1, h2⟩ := chkS_zero.1 h
  refine chkS_zero.2 ⟨by rw [List.length_set]; exact h1, fun q hq => ?_⟩
  rcases List.mem_or_eq_of_mem_set hq with hq | rfl
  · exact h2 q hq
  · exact hr
theorem chkS_row {s : Shf} (h : chkS s = 0) {i : Nat} (hi : i < 4) : (allR (s.getD i default)).2 = 0 := by
  obtain ⟨h1, h2⟩ := chkS_zero.1 h
  exact h2 _ (getD_mem (by omega))
theorem allS_is {s : Shf} (h : chkS s = 0) {i : Int} (h0 : 0 ≤ i) (h1 : i < 4) : allS s i = (ptsBs (s.getD i.toNat default).1 ++ (s.getD i.toNat default).2, 0) := by
  have h4 := (chkS_zero.1 h).1
  unfold allS
  rw [if_pos h, if_neg (by omega)]
  exact (allR_is (chkS_row h (by omega))).2.2.2
theorem set_getD {α : Type} [Inhabited α] {l : List α} {i : Nat} {x : α} (h : i < l.length) (j : Nat) : (l.set i x).getD j default = if j = i then x else l.getD j default := by
  simp only [List.getD, List.getElem?_set]
  by_cases hj : i = j
  · subst hj; simp [h]
  · rw [if_neg hj, if_neg (fun h => hj h.symm)]
/-! ### One row -/
def sealR (n : Int) (r : Rowd) : Rowd × Int :=
  if n < 1 ∨ (r.2.length : Int) < n then (r, 3) else if r.1.length = 8 then (r, 2) else if ¬ (makeR (r.2.take n.toNat)).2 = 0 then (r, (makeR (r.2.take n.toNat)).2)
  else ((r.1 ++ [(makeR (r.2.take n.toNat)).1], r.2.drop n.toNat), 0)
def mergeW (k : Int) (r : Rowd) : Rowd × Int :=
  if k < 0 ∨ (r.1.length : Int) - 1 ≤ k then (r, 3) else
  if ¬ (mergeR (r.1.getD k.toNat default) (r.1.getD (k.toNat + 1) default)).2 = 0 then (r, (mergeR (r.1.getD k.toNat default) (r.1.getD (k.toNat + 1) default)).2)
  else ((r.1.take k.toNat ++ (mergeR (r.1.getD k.toNat default) (r.1.getD (k.toNat + 1) default)).1 :: r.1.drop (k.toNat + 2), r.2), 0)
def dropR (n : Int) (r : Rowd) : Rowd := (r.1.filter fun b => decide (n ≤ b.2.2.1), r.2)
def putW (x : Ent) (r : Rowd) : Rowd := (r.1, r.2 ++ [(x.2.1, x.2.2)])
def onRow (s : Shf) (i : Int) (q : Rowd → Rowd × Int) : Shf × Int :=
  if i < 0 ∨ (s.length : Int) ≤ i then ([], 5) else if (q (s.getD i.toNat default)).2 = 0 then (s.set i.toNat (q (s.getD i.toNat default)).1, 0) else ([], (q (s.getD i.toNat default)).2)
def sealS (s : Shf) (i n : Int) : Shf × Int := if chkS s = 0 then onRow s i (sealR n) else ([], chkS s)
def mergeS (s : Shf) (i k : Int) : Shf × Int := if chkS s = 0 then onRow s i (mergeW k) else ([], chkS s)
def dropS (s : Shf) (n : Int) : Shf × Int := if chkS s = 0 then (if n < 0 ∨ 100001 < n then ([], 3) else (s.map (dropR n), 0)) else ([], chkS s)
def putE : Shf → List Ent → Shf × Int
  | s, [] => (s, 0)
  | s, x :: l => if x.1 < 0 ∨ 4 ≤ x.1 then ([], 5) else if (allR (putW x (s.getD x.1.toNat default))).2 = 0 then putE (s.set x.1.toNat (putW x (s.getD x.1.toNat default))) l else ([], (allR (putW x (s.getD x.1.toNat default))).2)
def putS (s : Shf) (l : List Ent) : Shf × Int := if chkS s = 0 then (if 10 < l.length then ([], 2) else putE s l) else ([], chkS s)
theorem sealR_is {r : Rowd} (h : (allR r).2 = 0) {n : Int} (hn : 1 ≤ n) (hl : n ≤ r.2.length) : makeR (r.2.take n.toNat) = (mkB (r.2.take n.toNat), 0) ∧ ptsR (mkB (r.2.take n.toNat)) = (r.2.take n.toNat, 0) := by
  obtain ⟨_, _, h3, _⟩ := allR_is h
  exact makeR_ok (checkL_sub h3 ((List.take_sublist _ _).trans (List.sublist_append_right _ _))) (by rw [List.length_take]; omega)
theorem sealR_ok {r : Rowd} (h : (allR r).2 = 0) {n : Int} (he : (sealR n r).2 = 0) : allR (sealR n r).1 = allR r := by
  obtain ⟨h1, h2, h3, h4⟩ := allR_is h
  unfold sealR at he ⊢
  split at he
  · cases he
  · rename_i hn
    split at he
    · cases he
    · rename_i h8
      obtain ⟨g1, g2⟩ := sealR_is h (n := n) (by omega) (by omega)
      rw [g1] at he ⊢
      rw [if_neg hn, if_neg h8, if_neg (by simp)]
      have hp : ptsBs (r.1 ++ [mkB (r.2.take n.toNat)]) ++ r.2.drop n.toNat = ptsBs r.1 ++ r.2 := by
        rw [ptsBs_app, ptsBs_one, g2, List.append_assoc, List.take_append_drop]
      rw [h4, ← hp]
      refine allR_of (r := (r.1 ++ [mkB (r.2.take n.toNat)], r.2.drop n.toNat)) ?_ ?_ ?_
      · show (r.1 ++ [mkB (r.2.take n.toNat)]).length ≤ 8
        rw [List.length_append, List.length_singleton]; omega
      · intro b hb
        rcases List.mem_append.1 hb with hb | hb
        · exact h2 b hb
        · rw [List.mem_singleton] at hb; subst hb; rw [g2]
      · show checkL (ptsBs (r.1 ++ [mkB (r.2.take n.toNat)]) ++ r.2.drop n.toNat) = 0
        rw [hp]; exact h3
theorem two_split {α : Type} [Inhabited α] {l : List α} {k : Nat} (h : k + 1 < l.length) : l = l.take k ++ (l.getD k default :: l.getD (k + 1) default :: l.drop (k + 2)) := by
  have h1 := drop_cons (l := l) (i := k) (by omega)
  have h2 := drop_cons (l := l) (i := k + 1) (by omega)
  conv => lhs; rw [← List.take_append_drop k l, h1, h2]
theorem mergeW_is {r : Rowd} (h : (allR r).2 = 0) {k : Nat} (hk : k + 1 < r.1.length) : ∃ m, mergeR (r.1.getD k default) (r.1.getD (k + 1) default) = (m, 0) ∧ (ptsR m).2 = 0 ∧ (ptsR m).1 = (ptsR (r.1.getD k default)).1 ++ (ptsR (r.1.getD (k + 1) default)).1 := by
  obtain ⟨h1, h2, h3, h4⟩ := allR_is h
  have hs := two_split hk
  have a1 := h2 _ (getD_mem (l := r.1) (i := k) (by omega))
  have a2 := h2 _ (getD_mem (l := r.1) (i := k + 1) (by omega))
  generalize r.1.getD k default = x at *
  generalize r.1.getD (k + 1) default = y at *
  rw [hs, ptsBs_app, ptsBs_cons, ptsBs_cons] at h3
  obtain ⟨x1, x2, x3⟩ := ptsR_is a1
  obtain ⟨y1, y2, y3⟩ := ptsR_is a2
  have hc : checkL ((ptsR x).1 ++ (ptsR y).1) = 0 := by
    refine checkL_sub h3 ?_
    rw [← List.append_assoc (ptsR x).1]
    exact ((List.sublist_append_left _ _).trans (List.sublist_append_right _ _)).trans (List.sublist_append_left _ _)
  have hm := mergeR_ok x2 y2 x1 y1 hc
  rw [← x3, ← y3] at hm
  have hp := (makeR_ok hc (by rw [List.length_append]; omega)).2
  exact ⟨_, hm, by rw [hp], by rw [hp]⟩
theorem mergeW_ok {r : Rowd} (h : (allR r).2 = 0) {k : Int} (he : (mergeW k r).2 = 0) : allR (mergeW k r).1 = allR r := by
  obtain ⟨h1, h2, h3, h4⟩ := allR_is h
  unfold mergeW at he ⊢
  split at he
  · cases he
  · rename_i hk
    obtain ⟨m, g1, g2, g3⟩ := mergeW_is h (k := k.toNat) (by omega)
    rw [g1] at he ⊢
    rw [if_neg hk, if_neg (by simp)]
    have hs := two_split (l := r.1) (k := k.toNat) (by omega)
    have hp : ptsBs (r.1.take k.toNat ++ m :: r.1.drop (k.toNat + 2)) = ptsBs r.1 := by
      conv => rhs; rw [hs]
      rw [ptsBs_app, ptsBs_app, ptsBs_cons, ptsBs_cons, ptsBs_cons, g3, List.append_assoc]
    have hle : (r.1.take k.toNat ++ m :: r.1.drop (k.toNat + 2)).length ≤ 8 := by
      rw [List.length_append, List.length_take, List.length_cons, List.length_drop]; omega
    have := allR_of (r := (r.1.take k.toNat ++ m :: r.1.drop (k.toNat + 2), r.2)) hle (fun b hb => ?_) (by show checkL (ptsBs _ ++ r.2) = 0; rw [hp]; exact h3)
    · rw [h4]; rw [this]; simp only; rw [hp]
    · rcases List.mem_append.1 hb with hb | hb
      · exact h2 b (List.mem_of_mem_take hb)
      · rcases List.mem_cons.1 hb with rfl | hb
        · exact g2
        · exact h2 b (List.mem_of_mem_drop hb)
theorem block_to {b : Bk} (h : (ptsR b).2 = 0) : (∀ p ∈ (ptsR b).1, p.1 ≤ b.2.2.1) ∧ ∃ p ∈ (ptsR b).1, p.1 = b.2.2.1 := by
  obtain ⟨h1, h2, h3⟩ := ptsR_is h
  have hr := checkL_rise h2
  have ht : b.2.2.1 = ((ptsR b).1.getD ((ptsR b).1.length - 1) default).1 := congrArg (fun c : Bk => c.2.2.1) h3
  refine ⟨fun p hp => ?_, _, getD_mem (l := (ptsR b).1) (i := (ptsR b).1.length - 1) (by omega), ht.symm⟩
  rw [ht]
  obtain ⟨i, hi, rfl⟩ := List.mem_iff_getElem.1 hp
  by_cases hlt : i < (ptsR b).1.length - 1
  · have := List.pairwise_iff_getElem.1 hr i ((ptsR b).1.length - 1) hi (by omega) hlt
    simp [List.getD, List.getElem?_eq_getElem (show (ptsR b).1.length - 1 < (ptsR b).1.length by omega)]; omega
  · have : i = (ptsR b).1.length - 1 := by omega
    subst this
    simp [List.getD, List.getElem?_eq_getElem hi]
theorem filter_drop (n : Int) : ∀ {bs : List Bk}, okBs bs → Rise (ptsBs bs) → ∃ j, bs.filter (fun b => decide (n ≤ b.2.2.1)) = bs.drop j ∧ ∀ b ∈ bs.take j, b.2.2.1 < n
  | [], _, _ => ⟨0, rfl, fun b hb => by cases hb⟩
  | b :: bs, hk, hr => by
    have hb := hk b List.mem_cons_self
    have hbs : okBs bs := fun c hc => hk c (List.mem_cons_of_mem _ hc)
    rw [ptsBs_cons] at hr
    unfold Rise at hr
    rw [List.pairwise_append] at hr
    obtain ⟨_, hr2, hr3⟩ := hr
    by_cases h : n ≤ b.2.2.1
    · refine ⟨0, ?_, fun c hc => by cases hc⟩
      rw [List.drop_zero, List.filter_eq_self]
      intro c hc
      rcases List.mem_cons.1 hc with rfl | hc
      · simpa using h
      · obtain ⟨_, p, hp, hp2⟩ := block_to hb
        obtain ⟨hq, q, hq1, hq2⟩ := block_to (hbs c hc)
        have hm : q ∈ ptsBs bs := by
          unfold ptsBs
          rw [List.mem_flatten]
          exact ⟨_, List.mem_map.2 ⟨c, hc, rfl⟩, hq1⟩
        have := hr3 p hp q hm
        simp; omega
    · obtain ⟨j, g1, g2⟩ := filter_drop n hbs hr2
      refine ⟨j + 1, ?_, fun c hc => ?_⟩
      · rw [List.filter_cons, if_neg (by simpa using h), g1]; rfl
      · rw [List.take_succ_cons] at hc
        rcases List.mem_cons.1 hc with rfl | hc
        · omega
        · exact g2 c hc
theorem dropR_ok {r : Rowd} (h : (allR r).2 = 0) (n : Int) : (allR (dropR n r)).2 = 0 ∧ ∃ k, (allR (dropR n r)).1 = (allR r).1.drop k ∧ k ≤ (allR r).1.length ∧ ∀ p ∈ (allR r).1.take k, p.1 < n := by
  obtain ⟨h1, h2, h3, h4⟩ := allR_is h
  have hrise : Rise (ptsBs r.1) := (List.pairwise_append.1 (checkL_rise h3)).1
  obtain ⟨j, g1, g2⟩ := filter_drop n h2 hrise
  have hd : dropR n r = (r.1.drop j, r.2) := by unfold dropR; rw [g1]
  have hsp : ptsBs r.1 = ptsBs (r.1.take j) ++ ptsBs (r.1.drop j) := by rw [← ptsBs_app, List.take_append_drop]
  have h5 := allR_of (r := (r.1.drop j, r.2)) (by show (r.1.drop j).length ≤ 8; rw [List.length_drop]; omega) (fun b hb => h2 b (List.mem_of_mem_drop hb))
    (by
      show checkL (ptsBs (r.1.drop j) ++ r.2) = 0
      rw [hsp, List.append_assoc] at h3
      exact checkL_sub h3 (List.sublist_append_right _ _))
  rw [hd, h5, h4]
  refine ⟨rfl, (ptsBs (r.1.take j)).length, ?_, ?_, ?_⟩
  · rw [hsp, List.append_assoc, List.drop_left]
  · simp only; rw [hsp, List.append_assoc, List.length_append]; omega
  · rw [hsp, List.append_assoc, List.take_left]
    intro p hp
    unfold ptsBs at hp
    rw [List.mem_flatten] at hp
    obtain ⟨l, hl, hp⟩ := hp
    obtain ⟨b, hb, rfl⟩ := List.mem_map.1 hl
    have := (block_to (h2 b (List.mem_of_mem_take hb))).1 p hp
    have := g2 b hb
    omega
theorem putW_ok {r : Rowd} {x : Ent} (h : (allR (putW x r)).2 = 0) : (allR r).2 = 0 ∧ (allR (putW x r)).1 = (allR r).1 ++ [(x.2.1, x.2.2)] := by
  obtain ⟨h1, h2, h3, h4⟩ := allR_is h
  have h3' : checkL ((ptsBs r.1 ++ r.2) ++ [(x.2.1, x.2.2)]) = 0 := by rw [List.append_assoc]; exact h3
  have h5 := allR_of (r := r) h1 h2 (checkL_sub h3' (List.sublist_append_left _ _))
  rw [h5, h4]
  exact ⟨rfl, by show ptsBs r.1 ++ (r.2 ++ _) = _; rw [List.append_assoc]⟩
/-! ### Shelves -/
theorem onRow_ok {s : Shf} (h : chkS s = 0) {i : Int} {q : Rowd → Rowd × Int} (hq : ∀ r, (allR r).2 = 0 → (q r).2 = 0 → allR (q r).1 = allR r) (he : (onRow s i q).2 = 0) : chkS (onRow s i q).1 = 0 ∧ ∀ j, allS (onRow s i q).1 j = allS s j := by
  have h4 := (chkS_zero.1 h).1
  unfold onRow at he ⊢
  split at he
  · cases he
  · rename_i hi
    split at he
    · rename_i hz
      rw [if_neg hi, if_pos hz]
      have h0 := chkS_row h (i := i.toNat) (by omega)
      have h1 := hq _ h0 hz
      have hc := chkS_set h (r := (q (s.getD i.toNat default)).1) (by rw [h1]; exact h0) i.toNat
      refine ⟨hc, fun j => ?_⟩
      unfold allS
      simp only [hc, h, if_true, List.length_set]
      split
      · rfl
      · rw [set_getD (by omega)]
        split
        · rename_i hj; rw [h1, hj]
        · rfl
    · rename_i hz; exact absurd he hz
theorem sealS_ok {s : Shf} {i n : Int} (he : (sealS s i n).2 = 0) : chkS s = 0 ∧ chkS (sealS s i n).1 = 0 ∧ ∀ j, allS (sealS s i n).1 j = allS s j := by
  unfold sealS at he ⊢
  split at he
  · rename_i h
    rw [if_pos h]
    exact ⟨h, onRow_ok h (fun r hr hq => sealR_ok hr hq) he⟩
  · rename_i h; exact absurd he h
theorem mergeS_ok {s : Shf} {i n : Int} (he : (mergeS s i n).2 = 0) : chkS s = 0 ∧ chkS (mergeS s i n).1 = 0 ∧ ∀ j, allS (mergeS s i n).1 j = allS s j := by
  unfold mergeS at he ⊢
  split at he
  · rename_i h
    rw [if_pos h]
    exact ⟨h, onRow_ok h (fun r hr hq => mergeW_ok hr hq) he⟩
  · rename_i h; exact absurd he h
theorem dropS_ok {s : Shf} {n : Int} (he : (dropS s n).2 = 0) : chkS s = 0 ∧ (0 ≤ n ∧ n ≤ 100001) ∧ chkS (dropS s n).1 = 0 ∧ ∀ j : Int, 0 ≤ j → j < 4 → ∃ k, (allS (dropS s n).1 j).1 = (allS s j).1.drop k ∧ k ≤ (allS s j).1.length ∧ ∀ p ∈ (allS s j).1.take k, p.1 < n := by
  unfold dropS at he ⊢
  split at he
  · rename_i h
    obtain ⟨h4, hr⟩ := chkS_zero.1 h
    split at he
    · cases he
    · rename_i hn
      rw [if_pos h, if_neg hn]
      have hc : chkS (s.map (dropR n)) = 0 := chkS_zero.2 ⟨by rw [List.length_map]; exact h4, fun r hr' => by
        obtain ⟨q, hq, rfl⟩ := List.mem_map.1 hr'
        exact (dropR_ok (hr q hq) n).1⟩
      refine ⟨h, by omega, hc, fun j h0 h1 => ?_⟩
      have hg : (s.map (dropR n)).getD j.toNat default = dropR n (s.getD j.toNat default) := by
        simp [List.getD, List.getElem?_map, List.getElem?_eq_getElem (show j.toNat < s.length by omega)]
      unfold allS
      rw [if_pos hc, if_pos h, List.length_map, if_neg (by omega), if_neg (by omega), hg]
      exact (dropR_ok (chkS_row h (by omega)) n).2
  · rename_i h; exact absurd he h
def entP (j : Int) (l : List Ent) : List Pt := (l.filter fun x => decide (x.1 = j)).map fun x => (x.2.1, x.2.2)
theorem putE_ok : ∀ {l : List Ent} {s : Shf}, chkS s = 0 → (putE s l).2 = 0 → chkS (putE s l).1 = 0 ∧ ∀ j : Int, 0 ≤ j → j < 4 → (allS (putE s l).1 j).1 = (allS s j).1 ++ entP j l
  | [], s, h, _ => ⟨h, fun j _ _ => by simp [putE, entP]⟩
  | x :: l, s, h, he => by
    have h4 := (chkS_zero.1 h).1
    rw [putE] at he ⊢
    split at he
    · cases he
    · rename_i hx
      split at he
      · rename_i hz
        rw [if_neg hx, if_pos hz]
        have hs := chkS_set h hz x.1.toNat
        obtain ⟨g1, g2⟩ := putE_ok hs he
        refine ⟨g1, fun j h0 h1 => ?_⟩
        rw [g2 j h0 h1]
        unfold allS entP
        rw [if_pos hs, if_pos h, List.length_set, if_neg (by omega), if_neg (by omega), set_getD (by omega), List.filter_cons]
        by_cases hj : x.1 = j
        · subst hj
          rw [if_pos rfl, if_pos (by simp), (putW_ok hz).2]
          simp
        · rw [if_neg (by omega), if_neg (by simpa using hj)]
      · rename_i hz; exact absurd he hz
theorem putS_ok {s : Shf} {l : List Ent} (he : (putS s l).2 = 0) : chkS s = 0 ∧ l.length ≤ 10 ∧ chkS (putS s l).1 = 0 ∧ ∀ j : Int, 0 ≤ j → j < 4 → (allS (putS s l).1 j).1 = (allS s j).1 ++ entP j l := by
  unfold putS at he ⊢
  split at he
  · rename_i h
    split at he
    · cases he
    · rename_i hl
      rw [if_pos h, if_neg hl]
      exact ⟨h, by omega, putE_ok h he⟩
  · rename_i h; exact absurd he h
end Go.Rb
namespace Go.Proofs.Y
open Go.Rb Go.Kx
theorem cloneRw_eq {a : Shf} (h : a.length ≤ 4000000000000) : F_cloneRw a = some a := clone_gen 48 a (by omega) (by omega)
theorem cloneBk_eq {a : List Bk} (h : a.length ≤ 4000000000000) : F_cloneBk a = some a := clone_gen 48 a (by omega) (by omega)
noncomputable def cpy {β : Type} (B : List Bk) (x : Int × List Bk) : Option (Sum (Int × List Bk) β) :=
  bindO (atI B (Prod.fst x)) fun (y : Int × Int × Int × List Bool) => bindO (F_block_Copy (Prod.fst y, Prod.fst (Prod.snd y), Prod.fst (Prod.snd (Prod.snd y)), Prod.snd (Prod.snd (Prod.snd y)))) fun (y : Int × Int × Int × List Bool) =>
    ifB (ltL (Prod.fst x) (Prod.snd x)) (bindO (atN (Prod.snd x) (natI (Prod.fst x))) fun (_ : Int × Int × Int × List Bool) =>
      some (Sum.inl (wadd IntKind.i64 (Prod.fst x) 1, setN (Prod.snd x) (natI (Prod.fst x)) (Prod.fst y, Prod.fst (Prod.snd y), Prod.fst (Prod.snd (Prod.snd y)), Prod.snd (Prod.snd (Prod.snd y)))))) none
theorem set_self {α : Type} [Inhabited α] {l : List α} {j : Nat} (h : j < l.length) : l.set j (l.getD j default) = l := by
  apply List.ext_getElem
  · simp
  · intro i h1 h2
    rw [List.getElem_set]
    split
    · rename_i he; subst he; simp [List.getD, List.getElem?_eq_getElem h]
    · rfl
theorem copyLoop {α : Type} (B : List Bk) (hB : ∀ b ∈ B, okB b) (hl : B.length < 4611686018427387904) (K : Int × List Bk → Option α) :
    loopN maxR (fun (x : Int × List Bk) => ifB (ltI (Prod.fst x) (lenI B)) (cpy B x) (mapO Sum.inr (K x))) (0, B) = K ((B.length : Int), B) := by
  refine loop_range B (fun j (s : List Bk) => ((j : Int), s)) (G := fun _ _ => K ((B.length : Int), B)) (P := fun _ s => s = B) ?_ ?_ (s0 := B) rfl (by omega)
  · rintro j s hj rfl k hk
    have hb := hB _ (getD_mem hj)
    have hat := atI_nat hj
    have hss := set_self hj
    have han := atN_nat hj
    unfold cpy
    generalize s.getD j default = b at *
    simp only [stepK_ifB, stepK_bind, stepK_map, stepK_none, stepK_inl]
    rw [ifB_ltI, lenI_eq, if_pos (by omega), hat, bindO_some, show ((b.1, b.2.1, b.2.2.1, b.2.2.2) : Bk) = b from rfl, copy_eq _ hb, bindO_some, ifB_ltL, if_pos ⟨by omega, by omega⟩, natI_eq, Int.toNat_natCast, han, bindO_some, setN_eq, hss, wadd_nat (by omega)]
    exact hk _ rfl
  · rintro s rfl k
    simp only [stepK_ifB, stepK_map]
    rw [ifB_ltI, lenI_eq, if_neg (by omega)]
theorem len4 {α : Type} {s : List α} (h : s.length = 4) : ∃ a b c d, s = [a, b, c, d] := by
  match s, h with
  | [a, b, c, d], _ => exact ⟨a, b, c, d, rfl⟩
theorem copy4 {α : Type} (r0 r1 r2 r3 : Rowd) (h0 : okR r0) (h1 : okR r1) (h2 : okR r2) (h3 : okR r3) (g0 : r0.1.length ≤ 8) (g1 : r1.1.length ≤ 8) (g2 : r2.1.length ≤ 8) (g3 : r3.1.length ≤ 8)
    (K : List Pt → List Pt → List Pt → List Pt → (Int × List Bk) → (Int × List Bk) → (Int × List Bk) → (Int × List Bk) → Option α) :
    (bindO (F_cloneRw [r0, r1, r2, r3]) fun (y : List (List (Int × Int × Int × List Bool) × List (Int × Int))) => bindO (four y) fun (y : (List (Int × Int × Int × List Bool) × List (Int × Int)) × (List (Int × Int × Int × List Bool) × List (Int × Int)) × (List (Int × Int × Int × List Bool) × List (Int × Int)) × List (Int × Int × Int × List Bool) × List (Int × Int)) =>
      bindO (F_cloneBk (Prod.fst (Prod.fst y))) fun (y_1 : List (Int × Int × Int × List Bool)) => bindO (F_cloneP (Prod.snd (Prod.fst y))) fun (y_2 : List (Int × Int)) =>
      loopN maxR (fun (x : Int × List (Int × Int × Int × List Bool)) => ifB (ltI (Prod.fst x) (lenI (Prod.fst (Prod.fst y)))) (cpy (Prod.fst (Prod.fst y)) x) (mapO Sum.inr
        (bindO (F_cloneBk (Prod.fst (Prod.fst (Prod.snd y)))) fun (y_3 : List (Int × Int × Int × List Bool)) => bindO (F_cloneP (Prod.snd (Prod.fst (Prod.snd y)))) fun (y_4 : List (Int × Int)) =>
        loopN maxR (fun (x_1 : Int × List (Int × Int × Int × List Bool)) => ifB (ltI (Prod.fst x_1) (lenI (Prod.fst (Prod.fst (Prod.snd y))))) (cpy (Prod.fst (Prod.fst (Prod.snd y))) x_1) (mapO Sum.inr
          (bindO (F_cloneBk (Prod.fst (Prod.fst (Prod.snd (Prod.snd y))))) fun (y_5 : List (Int × Int × Int × List Bool)) => bindO (F_cloneP (Prod.snd (Prod.fst (Prod.snd (Prod.snd y))))) fun (y_6 : List (Int × Int)) =>
          loopN maxR (fun (x_2 : Int × List (Int × Int × Int × List Bool)) => ifB (ltI (Prod.fst x_2) (lenI (Prod.fst (Prod.fst (Prod.snd (Prod.snd y)))))) (cpy (Prod.fst (Prod.fst (Prod.snd (Prod.snd y)))) x_2) (mapO Sum.inr
            (bindO (F_cloneBk (Prod.fst (Prod.snd (Prod.snd (Prod.snd y))))) fun (y_7 : List (Int × Int × Int × List Bool)) => bindO (F_cloneP (Prod.snd (Prod.snd (Prod.snd (Prod.snd y))))) fun (y_8 : List (Int × Int)) =>
            loopN maxR (fun (x_3 : Int × List (Int × Int × Int × List Bool)) => ifB (ltI (Prod.fst x_3) (lenI (Prod.fst (Prod.snd (Prod.snd (Prod.snd y)))))) (cpy (Prod.fst (Prod.snd (Prod.snd (Prod.snd y)))) x_3) (mapO Sum.inr (K y_2 y_4 y_6 y_8 x x_1 x_2 x_3))) (0, y_7)))) (0, y_5)))) (0, y_3)))) (0, y_1))
      = K r0.2 r1.2 r2.2 r3.2 ((r0.1.length : Int), r0.1) ((r1.1.length : Int), r1.1) ((r2.1.length : Int), r2.1) ((r3.1.length : Int), r3.1) := by
  rw [cloneRw_eq (by simp), bindO_some, show four [r0, r1, r2, r3] = some (r0, r1, r2, r3) from rfl, bindO_some]
  simp only
  rw [cloneBk_eq (by omega), bindO_some, cloneP_eq (by have := h0.2.2; omega), bindO_some]
  refine (copyLoop r0.1 h0.1 h0.2.1 _).trans ?_
  rw [cloneBk_eq (by omega), bindO_some, cloneP_eq (by have := h1.2.2; omega), bindO_some]
  refine (copyLoop r1.1 h1.1 h1.2.1 _).trans ?_
  rw [cloneBk_eq (by omega), bindO_some, cloneP_eq (by have := h2.2.2; omega), bindO_some]
  refine (copyLoop r2.1 h2.1 h2.2.1 _).trans ?_
  rw [cloneBk_eq (by omega), bindO_some, cloneP_eq (by have := h3.2.2; omega), bindO_some]
  exact copyLoop r3.1 h3.1 h3.2.1 _
theorem compact_gen {α : Type} [Inhabited α] (z : α) (gone : α → Bool) (w : α → α) (hw : ∀ y, w y = y) (l : List α) (x : Nat) (hx : x < l.length) (hl : l.length < 4611686018427387904) (hpre : ∀ p ∈ l.take x, (!gone p) = true) (hnot : (!gone (l.getD x default)) = false) :
    loopN maxR (fun (x : Int × Int × List α) => ifB (ltI (Prod.fst (Prod.snd x)) (lenI (Prod.snd (Prod.snd x)))) (ifB (ltL (Prod.fst (Prod.snd x)) (Prod.snd (Prod.snd x)))
        (bindO (atN (Prod.snd (Prod.snd x)) (natI (Prod.fst (Prod.snd x)))) fun (y : α) => ifB (notB (gone y)) (ifB (ltL (Prod.fst x) (Prod.snd (Prod.snd x))) (bindO (atN (Prod.snd (Prod.snd x)) (natI (Prod.fst x))) fun (y_2 : α) =>
              some (Sum.inl (wadd IntKind.i64 (Prod.fst x) 1, wadd IntKind.i64 (Prod.fst (Prod.snd x)) 1, setN (Prod.snd (Prod.snd x)) (natI (Prod.fst x)) (w y)))) none)
            (some (Sum.inl (Prod.fst x, wadd IntKind.i64 (Prod.fst (Prod.snd x)) 1, Prod.snd (Prod.snd x))))) none)
      (mapO Sum.inr (ifB (in1 (Prod.snd (Prod.snd x)) (Prod.fst x)) (ifB (inN (Prod.snd (Prod.snd x)) (addN 0 (natI (Prod.fst x))) (subNI (lenN (Prod.snd (Prod.snd x))) (Prod.fst x)))
        (ifB (in1 (overN (Prod.snd (Prod.snd x)) (addN 0 (natI (Prod.fst x))) (repN (subNI (lenN (Prod.snd (Prod.snd x))) (Prod.fst x)) z)) (Prod.fst x))
          (ifB (inN (overN (Prod.snd (Prod.snd x)) (addN 0 (natI (Prod.fst x))) (repN (subNI (lenN (Prod.snd (Prod.snd x))) (Prod.fst x)) z)) 0 (natI (Prod.fst x)))
            (some (subN (overN (Prod.snd (Prod.snd x)) (addN 0 (natI (Prod.fst x))) (repN (subNI (lenN (Prod.snd (Prod.snd x))) (Prod.fst x)) z)) 0 (natI (Prod.fst x)))) none) none) none) none)))
      ((x : Int), wadd IntKind.i64 (x : Int) 1, l) = some (l.filter fun y => !gone y) := by
  rw [wadd_nat (by omega)]
  have hst : (l.take (x + 1)).filter (fun y => !gone y) = l.take x := by
    rw [filter_take _ hx, hnot, List.filter_eq_self.2 hpre]; simp
  refine loop_ind (G := fun _ => some (l.filter fun y => !gone y)) (P := fun (y : Int × Int × List α) => 0 ≤ y.1 ∧ y.1 < y.2.1 ∧ y.2.1 ≤ l.length ∧ y.2.2.length = l.length ∧ y.2.2.take y.1.toNat = (l.take y.2.1.toNat).filter (fun y => !gone y) ∧ y.2.2.drop y.2.1.toNat = l.drop y.2.1.toNat) (μ := fun y => l.length - y.2.1.toNat) ?_ maxR _ ⟨by show (0 : Int) ≤ x; omega, by show (x : Int) < ((x + 1 : Nat) : Int); omega, by show ((x + 1 : Nat) : Int) ≤ l.length; omega, rfl, hst.symm, rfl⟩ (by show l.length - ((x + 1 : Nat) : Int).toNat < maxR; unfold maxR; omega)
  rintro ⟨i0, j0, rows⟩ ⟨g0, g1, g2, g3, g4, g5⟩ K hk
  simp only at g0 g1 g2 g3 g4 g5
  obtain ⟨i, rfl⟩ : ∃ i : Nat, i0 = i := ⟨i0.toNat, by omega⟩
  obtain ⟨j, rfl⟩ : ∃ j : Nat, j0 = j := ⟨j0.toNat, by omega⟩
  simp only [Int.toNat_natCast] at g4 g5
  rw [stepK_ifB, stepK_map, ifB_ltI, lenI_eq]
  by_cases hj : (j : Int) < rows.length
  · rw [if_pos hj]
    simp only [stepK_ifB, stepK_bind, stepK_inl, stepK_none]
    rw [ifB_ltL, if_pos ⟨by omega, hj⟩, natI_eq, Int.toNat_natCast, atN_nat (by omega), bindO_some, getD_drop g5 (by omega) (by omega), wadd_nat (j := i) (by omega), wadd_nat (j := j) (by omega)]
    have hft := filter_take (fun y => !gone y) (l := l) (j := j) (by omega)
    generalize l.getD j default = p at *
    cases hg : gone p with
    | true =>
      rw [hg] at hft
      exact hk _ ⟨g0, by show (i : Int) < ((j + 1 : Nat) : Int); omega, by show ((j + 1 : Nat) : Int) ≤ l.length; omega, g3, by show rows.take i = _; rw [Int.toNat_natCast, hft, g4]; simp, by show rows.drop ((j + 1 : Nat) : Int).toNat = _; rw [Int.toNat_natCast]; exact drop_succ_of g5⟩ (by show l.length - ((j + 1 : Nat) : Int).toNat < l.length - ((j : Nat) : Int).toNat; omega)
    | false =>
      rw [hg] at hft
      rw [ifB_not, ifB_f, ifB_ltL, if_pos ⟨by omega, by omega⟩, natI_eq, Int.toNat_natCast, atN_nat (by omega), bindO_some, setN_eq, hw]
      refine hk _ ⟨by show (0 : Int) ≤ ((i + 1 : Nat) : Int); omega, by show ((i + 1 : Nat) : Int) < ((j + 1 : Nat) : Int); omega, by show ((j + 1 : Nat) : Int) ≤ l.length; omega, by show (rows.set i p).length = _; rw [List.length_set]; exact g3, ?_, ?_⟩ (by show l.length - ((j + 1 : Nat) : Int).toNat < l.length - ((j : Nat) : Int).toNat; omega)
      · show (rows.set i p).take ((i + 1 : Nat) : Int).toNat = (l.take ((j + 1 : Nat) : Int).toNat).filter (fun y => !gone y)
        rw [Int.toNat_natCast, Int.toNat_natCast, set_take (by omega), hft, g4]; simp
      · show (rows.set i p).drop ((j + 1 : Nat) : Int).toNat = l.drop ((j + 1 : Nat) : Int).toNat
        rw [Int.toNat_natCast, set_drop (by omega)]; exact drop_succ_of g5
  · rw [if_neg hj]
    have hjl : j = l.length := by omega
    rw [hjl, List.take_length] at g4
    rw [clear_end rows i z (by omega) (fun r => some r), g4]
theorem deleteFuncB_eq (a : List Bk) (n : Int) (hl : a.length < 4611686018427387904) : F_deleteFuncB a n = some (a.filter fun b => decide (n ≤ b.2.2.1)) := by
  unfold F_deleteFuncB
  have hf : (fun b : Bk => decide (n ≤ b.2.2.1)) = fun b : Bk => !(ltI b.2.2.1 n) := by
    funext b
    unfold ltI
    rw [← decide_not]
    exact decide_eq_decide.2 (by omega)
  rw [hf]
  refine loop_ind (G := fun _ => some (a.filter fun b : Bk => !(ltI b.2.2.1 n))) (P := fun (y : Int) => 0 ≤ y ∧ y ≤ a.length ∧ ∀ p ∈ a.take y.toNat, (!(ltI (Prod.fst (Prod.snd (Prod.snd p))) n)) = true) (μ := fun y => a.length - y.toNat) ?_ maxR 0 ⟨Int.le_refl 0, by omega, by simp⟩ (by show a.length - Int.toNat 0 < maxR; unfold maxR; omega)
  rintro y ⟨g0, g1, g2⟩ K hk
  obtain ⟨x, rfl⟩ : ∃ x : Nat, y = x := ⟨y.toNat, by omega⟩
  rw [Int.toNat_natCast] at g2
  rw [stepK_ifB, stepK_map, ifB_ltI, lenI_eq]
  by_cases hx : (x : Int) < a.length
  · rw [if_pos hx]
    simp only [stepK_ifB, stepK_bind, stepK_inl, stepK_none, stepK_map]
    rw [ifB_ltL, if_pos ⟨by omega, hx⟩, natI_eq, Int.toNat_natCast, atN_nat (by omega), bindO_some, ifB_eqI, if_neg (by omega)]
    have hcm := compact_gen ((0, 0, 0, []) : Bk) (fun b : Bk => ltI (Prod.fst (Prod.snd (Prod.snd b))) n) (fun b => (Prod.fst b, Prod.fst (Prod.snd b), Prod.fst (Prod.snd (Prod.snd b)), Prod.snd (Prod.snd (Prod.snd b)))) (fun _ => rfl) a x (by omega) (by omega) g2
    have hnx := take_next (l := a) (i := x) (by omega)
    generalize a.getD x default = p at *
    cases hg : ltI (Prod.fst (Prod.snd (Prod.snd p))) n with
    | true => rw [ifB_t]; exact hcm (by rw [hg]; rfl)
    | false =>
      rw [ifB_f, wadd_nat (by omega)]
      refine hk _ ⟨by omega, by omega, fun q hq => ?_⟩ (by omega)
      rw [Int.toNat_natCast, hnx, List.mem_append, List.mem_singleton] at hq
      rcases hq with hq | rfl
      · exact g2 q hq
      · rw [hg]; rfl
  · rw [if_neg hx]
    have hxl : x = a.length := by omega
    rw [hxl, List.take_length] at g2
    rw [List.filter_eq_self.2 g2]
theorem deleteB_eq (a : List Bk) (i j : Nat) (h1 : i ≤ j) (h2 : j ≤ a.length) (hl : a.length < 4611686018427387904) : F_deleteB a (i : Int) (j : Int) = some (a.take i ++ a.drop j) := by
  unfold F_deleteB
  have e0 : ∀ k : Nat, addN 0 (natI (k : Int)) = k := fun k => by simp [addN, natI]
  have e1 : subNI (lenN a) (j : Int) = a.length - j := by simp [subNI, lenN]
  have e2 : subN a j (a.length - j) = a.drop j := by unfold subN; rw [List.take_of_length_le (by simp)]
  have e3 : lenN (a.drop j) = a.length - j := by simp [lenN]
  have e4 : addN (natI (i : Int)) (a.length - j) = i + (a.length - j) := by simp [addN, natI]
  simp only [e0, e1, e2, e3, e4]
  have e5 : overN a i (a.drop j) = a.take i ++ a.drop j ++ a.drop (i + (a.length - j)) := by simp [overN]
  have e6 : (overN a i (a.drop j)).length = a.length := by rw [e5]; simp; omega
  have e7 : addN 0 (natI (intN (i + (a.length - j)))) = i + (a.length - j) := by rw [intN_eq]; exact e0 _
  have e8 : subI (intN (i + (a.length - j))) (lenI a) = a.length - (i + (a.length - j)) := by simp only [subI, intN, lenI]; omega
  simp only [e7, e8]
  have e9 : ∀ z : List Bk, z.length = a.length - (i + (a.length - j)) → subN (overN (overN a i (a.drop j)) (i + (a.length - j)) z) 0 (i + (a.length - j)) = a.take i ++ a.drop j := by
    intro z hz
    unfold subN
    rw [List.drop_zero]
    have h3 : (a.take i ++ a.drop j).length = i + (a.length - j) := by simp; omega
    have h4 : (overN a i (a.drop j)).take (i + (a.length - j)) = a.take i ++ a.drop j := by
      rw [e5, List.take_append_of_le_length (by omega), List.take_of_length_le (by omega)]
    unfold overN at h4 ⊢
    rw [h4, List.append_assoc, List.take_append_of_le_length (by omega), List.take_of_length_le (by omega)]
  have hz : (repN (a.length - (i + (a.length - j))) ((0, 0, 0, []) : Bk)).length = a.length - (i + (a.length - j)) := by simp [repN]
  have e10 : (overN (overN a i (a.drop j)) (i + (a.length - j)) (repN (a.length - (i + (a.length - j))) ((0, 0, 0, []) : Bk))).length = a.length := by
    generalize repN (a.length - (i + (a.length - j))) ((0, 0, 0, []) : Bk) = z at *
    rw [overN, List.length_append, List.length_append, List.length_take, List.length_drop, e6, hz]; omega
  have hd : (a.drop j).length = a.length - j := List.length_drop
  rw [ifB_and, ifB_in2, if_pos ⟨by omega, by omega, by omega⟩, ifB_eqI, if_pos rfl, ifB_eqI]
  by_cases hij : (i : Int) = j
  · rw [if_pos hij]
    have : i = j := by omega
    subst this
    rw [List.take_append_drop]
  · rw [if_neg hij, ifB_in1, if_pos ⟨by omega, by omega⟩, ifB_in1, if_pos ⟨by omega, by omega⟩, ifB_inN, if_pos (by omega), ifB_inN, if_pos (by omega), ifB_in2C, if_pos ?_, ifB_inN, if_pos (by omega), ifB_inN, if_pos (by omega), e9 _ hz]
    refine ⟨by rw [intN_eq]; omega, by rw [intN_eq, lenI_eq]; omega, ?_⟩
    rw [lenI_eq, capN, lenN, e6]; omega
theorem drop_eq (s : Shf) (n : Int) (hs : okS s) : F_shelf_Drop s n = some (dropS s n) := by
  unfold F_shelf_Drop dropS
  rw [checkS_eq s hs, bindO_some, ifB_neI]
  by_cases hc : chkS s = 0
  · obtain ⟨h4, hr⟩ := chkS_zero.1 hc
    rw [if_pos hc, if_pos hc, ifB_ltI, ifB_gtI]
    by_cases h0 : n < 0
    · rw [if_pos h0, if_pos (.inl h0)]
    by_cases h1 : 100001 < n
    · rw [if_neg h0, if_pos h1, if_pos (.inr h1)]
    rw [if_neg h0, if_neg h1, if_neg (by omega)]
    obtain ⟨r0, r1, r2, r3, rfl⟩ := len4 h4
    simp only [List.mem_cons, List.not_mem_nil, or_false, forall_eq_or_imp, forall_eq] at hr
    obtain ⟨a0, a1, a2, a3⟩ := hr
    have b0 := (allR_is a0).1; have b1 := (allR_is a1).1; have b2 := (allR_is a2).1; have b3 := (allR_is a3).1
    refine (copy4 r0 r1 r2 r3 (okR_of a0) (okR_of a1) (okR_of a2) (okR_of a3) b0 b1 b2 b3 _).trans ?_
    simp only
    rw [deleteFuncB_eq _ _ (by omega), bindO_some, deleteFuncB_eq _ _ (by omega), bindO_some, deleteFuncB_eq _ _ (by omega), bindO_some, deleteFuncB_eq _ _ (by omega), bindO_some]
    rfl
  · rw [if_neg hc, if_neg hc]
end Go.Proofs.Y
namespace Go.Proofs.Y
open Go.Rb Go.Kx
theorem sealRow_eq (r : Rowd) (h : (allR r).2 = 0) (c : Int) (E : List Bk → List Pt → Shf) :
    ifB (ltI c 1) (some (([] : Shf), (3 : Int))) (ifB (gtI c (lenI r.2)) (some ([], 3)) (ifB (eqI (lenI r.1) 8) (some ([], 2)) (ifB (in1 r.2 c) (ifB (inN r.2 0 (natI c))
      (bindO (F_block_Make (subN r.2 0 (natI c))) fun (y : (Int × Int × Int × List Bool) × Int) => ifB (neI (Prod.snd y) 0) (some ([], Prod.snd y))
        (ifB (roomA 48 r.1 [(Prod.fst (Prod.fst y), Prod.fst (Prod.snd (Prod.fst y)), Prod.fst (Prod.snd (Prod.snd (Prod.fst y))), Prod.snd (Prod.snd (Prod.snd (Prod.fst y))))])
          (ifB (in1 r.2 c) (some (E (cat r.1 [(Prod.fst (Prod.fst y), Prod.fst (Prod.snd (Prod.fst y)), Prod.fst (Prod.snd (Prod.snd (Prod.fst y))), Prod.snd (Prod.snd (Prod.snd (Prod.fst y))))]) (dropI r.2 c), 0)) none) none)) none) none)))
      = some (if (sealR c r).2 = 0 then (E (sealR c r).1.1 (sealR c r).1.2, 0) else ([], (sealR c r).2)) := by
  have h8 := (allR_is h).1
  have hl := (okR_of h).2.2
  rw [ifB_ltI, ifB_gtI, ifB_eqI, lenI_eq, lenI_eq]
  by_cases h1 : c < 1
  · have hv : sealR c r = (r, 3) := by unfold sealR; rw [if_pos (.inl h1)]
    rw [if_pos h1, hv]; rfl
  by_cases h2 : (r.2.length : Int) < c
  · have hv : sealR c r = (r, 3) := by unfold sealR; rw [if_pos (.inr h2)]
    rw [if_neg h1, if_pos h2, hv]; rfl
  have h12 : ¬ (c < 1 ∨ (r.2.length : Int) < c) := by omega
  rw [if_neg h1, if_neg h2]
  by_cases h3 : r.1.length = 8
  · have hv : sealR c r = (r, 2) := by unfold sealR; rw [if_neg h12, if_pos h3]
    rw [if_pos (by omega), hv]; rfl
  have hs : subN r.2 0 (natI c) = r.2.take c.toNat := rfl
  rw [if_neg (by omega), ifB_in1, if_pos ⟨by omega, by omega⟩, ifB_inN, if_pos (by rw [natI_eq]; omega), hs, make_eq _ (by rw [List.length_take]; omega), bindO_some, ifB_neI]
  by_cases h4 : (makeR (r.2.take c.toNat)).2 = 0
  · have hv : sealR c r = ((r.1 ++ [(makeR (r.2.take c.toNat)).1], r.2.drop c.toNat), 0) := by unfold sealR; rw [if_neg h12, if_neg h3, if_neg (not_not_intro h4)]
    rw [if_pos h4, ifB_roomA, if_pos (by simp only [List.length_cons, List.length_nil]; omega), ifB_in1, if_pos ⟨by omega, by omega⟩, hv]; rfl
  · have hv : sealR c r = (r, (makeR (r.2.take c.toNat)).2) := by unfold sealR; rw [if_neg h12, if_neg h3, if_pos h4]
    rw [if_neg h4, hv]
    simp only
    rw [if_neg h4]
theorem i4 {i : Int} (h0 : ¬ i < 0) (h1 : ¬ 4 ≤ i) : i = 0 ∨ i = 1 ∨ i = 2 ∨ i = 3 := by omega
theorem seal_eq (s : Shf) (i n : Int) (hs : okS s) : F_shelf_Seal s i n = some (sealS s i n) := by
  unfold F_shelf_Seal sealS
  rw [checkS_eq s hs, bindO_some, ifB_neI]
  by_cases hc : chkS s = 0
  · obtain ⟨h4, hr⟩ := chkS_zero.1 hc
    unfold onRow
    rw [if_pos hc, if_pos hc, ifB_ltI, ifB_geI, lenI_eq, h4]
    by_cases h0 : i < 0
    · rw [if_pos h0, if_pos (.inl h0)]
    by_cases h1 : ((4 : Nat) : Int) ≤ i
    · rw [if_neg h0, if_pos h1, if_pos (.inr h1)]
    rw [if_neg h0, if_neg h1, if_neg (show ¬ (i < 0 ∨ ((4 : Nat) : Int) ≤ i) by omega)]
    obtain ⟨r0, r1, r2, r3, rfl⟩ := len4 h4
    simp only [List.mem_cons, List.not_mem_nil, or_false, forall_eq_or_imp, forall_eq] at hr
    obtain ⟨a0, a1, a2, a3⟩ := hr
    have b0 := (allR_is a0).1; have b1 := (allR_is a1).1; have b2 := (allR_is a2).1; have b3 := (allR_is a3).1
    refine (copy4 r0 r1 r2 r3 (okR_of a0) (okR_of a1) (okR_of a2) (okR_of a3) b0 b1 b2 b3 _).trans ?_
    simp only
    rcases i4 h0 (by omega) with rfl | rfl | rfl | rfl
    · rw [ifB_eqI, if_pos rfl]; exact sealRow_eq r0 a0 n (fun b h => [(b, h), r1, r2, r3])
    · rw [ifB_eqI, if_neg (by decide), ifB_eqI, if_pos rfl]; exact sealRow_eq r1 a1 n (fun b h => [r0, (b, h), r2, r3])
    · rw [ifB_eqI, if_neg (by decide), ifB_eqI, if_neg (by decide), ifB_eqI, if_pos rfl]; exact sealRow_eq r2 a2 n (fun b h => [r0, r1, (b, h), r3])
    · rw [ifB_eqI, if_neg (by decide), ifB_eqI, if_neg (by decide), ifB_eqI, if_neg (by decide), ifB_eqI, if_pos rfl]; exact sealRow_eq r3 a3 n (fun b h => [r0, r1, r2, (b, h)])
  · rw [if_neg hc, if_neg hc]
theorem mergeRow_eq (r : Rowd) (h : (allR r).2 = 0) (c : Int) (E : List Bk → Shf) :
    ifB (ltI c 0) (some (([] : Shf), (3 : Int))) (ifB (geI c (wsub IntKind.i64 (lenI r.1) 1)) (some ([], 3)) (ifB (ltL c r.1) (bindO (atN r.1 (natI c)) fun (y : Int × Int × Int × List Bool) => ifB (ltL (wadd IntKind.i64 c 1) r.1)
      (bindO (atN r.1 (natI (wadd IntKind.i64 c 1))) fun (y_9 : Int × Int × Int × List Bool) => bindO (F_block_Merge (Prod.fst y, Prod.fst (Prod.snd y), Prod.fst (Prod.snd (Prod.snd y)), Prod.snd (Prod.snd (Prod.snd y))) (Prod.fst y_9, Prod.fst (Prod.snd y_9), Prod.fst (Prod.snd (Prod.snd y_9)), Prod.snd (Prod.snd (Prod.snd y_9)))) fun (y : (Int × Int × Int × List Bool) × Int) =>
        ifB (neI (Prod.snd y) 0) (some ([], Prod.snd y)) (ifB (ltL c r.1) (bindO (atN r.1 (natI c)) fun (_ : Int × Int × Int × List Bool) =>
          bindO (F_deleteB (setN r.1 (natI c) (Prod.fst (Prod.fst y), Prod.fst (Prod.snd (Prod.fst y)), Prod.fst (Prod.snd (Prod.snd (Prod.fst y))), Prod.snd (Prod.snd (Prod.snd (Prod.fst y))))) (wadd IntKind.i64 c 1) (wadd IntKind.i64 c 2)) fun (y : List (Int × Int × Int × List Bool)) => some (E y, 0)) none)) none) none))
      = some (if (mergeW c r).2 = 0 then (E (mergeW c r).1.1, 0) else ([], (mergeW c r).2)) := by
  have h8 := (allR_is h).1
  have hb := (okR_of h).1
  rw [ifB_ltI, ifB_geI, lenI_eq, wsub_in ⟨by omega, by omega⟩]
  by_cases h1 : c < 0
  · have hv : mergeW c r = (r, 3) := by unfold mergeW; rw [if_pos (.inl h1)]
    rw [if_pos h1, hv]; rfl
  by_cases h2 : (r.1.length : Int) - 1 ≤ c
  · have hv : mergeW c r = (r, 3) := by unfold mergeW; rw [if_pos (.inr h2)]
    rw [if_neg h1, if_pos h2, hv]; rfl
  obtain ⟨k, rfl⟩ : ∃ k : Nat, c = k := ⟨c.toNat, by omega⟩
  have h12 : ¬ ((k : Int) < 0 ∨ (r.1.length : Int) - 1 ≤ k) := by omega
  have hw2 : wadd .i64 (k : Int) 2 = ((k + 2 : Nat) : Int) := by rw [wadd_in ⟨by omega, by omega⟩]; rfl
  have e1 : ∀ b : Bk, ((b.1, b.2.1, b.2.2.1, b.2.2.2) : Bk) = b := fun _ => rfl
  have hmw : mergeW (k : Int) r = if ¬ (mergeR (r.1.getD k default) (r.1.getD (k + 1) default)).2 = 0 then (r, (mergeR (r.1.getD k default) (r.1.getD (k + 1) default)).2)
    else ((r.1.take k ++ (mergeR (r.1.getD k default) (r.1.getD (k + 1) default)).1 :: r.1.drop (k + 2), r.2), 0) := by unfold mergeW; rw [if_neg h12, Int.toNat_natCast]
  rw [if_neg h1, if_neg h2, ifB_ltL, if_pos ⟨by omega, by omega⟩, wadd_nat (by omega), hw2, natI_eq, natI_eq, Int.toNat_natCast, Int.toNat_natCast, atN_nat (by omega), bindO_some, ifB_ltL, if_pos ⟨by omega, by omega⟩, atN_nat (by omega), bindO_some, hmw]
  simp only [e1]
  have x1 := hb _ (getD_mem (l := r.1) (i := k) (by omega))
  have x2 := hb _ (getD_mem (l := r.1) (i := k + 1) (by omega))
  generalize r.1.getD (k + 1) default = y at *
  generalize r.1.getD k default = x at *
  rw [merge_eq x y x1 x2, bindO_some, ifB_neI]
  generalize mergeR x y = q
  by_cases h4 : q.2 = 0
  · have hd : (r.1.set k q.1).take (k + 1) ++ (r.1.set k q.1).drop (k + 2) = r.1.take k ++ q.1 :: r.1.drop (k + 2) := by
      rw [set_take (by omega), set_drop (by omega), List.append_assoc]; rfl
    rw [if_pos h4, ifB_ltL, if_pos ⟨by omega, by omega⟩, bindO_some, setN_eq, deleteB_eq _ _ _ (by omega) (by rw [List.length_set]; omega) (by rw [List.length_set]; omega), bindO_some, if_neg (not_not_intro h4), hd]
    rfl
  · rw [if_neg h4, if_pos h4]
    simp only
    rw [if_neg h4]
theorem mergeS_eq (s : Shf) (i n : Int) (hs : okS s) : F_shelf_Merge s i n = some (mergeS s i n) := by
  unfold F_shelf_Merge mergeS
  rw [checkS_eq s hs, bindO_some, ifB_neI]
  by_cases hc : chkS s = 0
  · obtain ⟨h4, hr⟩ := chkS_zero.1 hc
    unfold onRow
    rw [if_pos hc, if_pos hc, ifB_ltI, ifB_geI, lenI_eq, h4]
    by_cases h0 : i < 0
    · rw [if_pos h0, if_pos (.inl h0)]
    by_cases h1 : ((4 : Nat) : Int) ≤ i
    · rw [if_neg h0, if_pos h1, if_pos (.inr h1)]
    rw [if_neg h0, if_neg h1, if_neg (show ¬ (i < 0 ∨ ((4 : Nat) : Int) ≤ i) by omega)]
    obtain ⟨r0, r1, r2, r3, rfl⟩ := len4 h4
    simp only [List.mem_cons, List.not_mem_nil, or_false, forall_eq_or_imp, forall_eq] at hr
    obtain ⟨a0, a1, a2, a3⟩ := hr
    have b0 := (allR_is a0).1; have b1 := (allR_is a1).1; have b2 := (allR_is a2).1; have b3 := (allR_is a3).1
    refine (copy4 r0 r1 r2 r3 (okR_of a0) (okR_of a1) (okR_of a2) (okR_of a3) b0 b1 b2 b3 _).trans ?_
    simp only
    have e : ∀ r : Rowd, (mergeW n r).1.2 = r.2 := by
      intro r
      unfold mergeW
      split
      · rfl
      · split <;> rfl
    rcases i4 h0 (by omega) with rfl | rfl | rfl | rfl
    · rw [ifB_eqI, if_pos rfl]; refine (mergeRow_eq r0 a0 n (fun b => [(b, r0.2), r1, r2, r3])).trans ?_; rw [← e r0]; rfl
    · rw [ifB_eqI, if_neg (by decide), ifB_eqI, if_pos rfl]; refine (mergeRow_eq r1 a1 n (fun b => [r0, (b, r1.2), r2, r3])).trans ?_; rw [← e r1]; rfl
    · rw [ifB_eqI, if_neg (by decide), ifB_eqI, if_neg (by decide), ifB_eqI, if_pos rfl]; refine (mergeRow_eq r2 a2 n (fun b => [r0, r1, (b, r2.2), r3])).trans ?_; rw [← e r2]; rfl
    · rw [ifB_eqI, if_neg (by decide), ifB_eqI, if_neg (by decide), ifB_eqI, if_neg (by decide), ifB_eqI, if_pos rfl]; refine (mergeRow_eq r3 a3 n (fun b => [r0, r1, r2, (b, r3.2)])).trans ?_; rw [← e r3]; rfl
  · rw [if_neg hc, if_neg hc]
theorem putRow_eq {β : Type} (r : Rowd) (h : (allR r).2 = 0) (x : Ent) (E : List Pt → β) :
    ifB (roomA 16 r.2 [(Prod.fst (Prod.snd x), Prod.snd (Prod.snd x))]) (bindO (F_shelf_all (r.1, cat r.2 [(Prod.fst (Prod.snd x), Prod.snd (Prod.snd x))])) fun (y_9 : List (Int × Int) × Int) =>
      ifB (neI (Prod.snd y_9) 0) (mapO Sum.inr (some (([] : Shf), Prod.snd y_9))) (some (Sum.inl (E (cat r.2 [(Prod.fst (Prod.snd x), Prod.snd (Prod.snd x))]))))) none
      = if (allR (putW x r)).2 = 0 then some (Sum.inl (E (putW x r).2)) else some (Sum.inr ([], (allR (putW x r)).2)) := by
  have hl := (okR_of h)
  have hl2 : r.2.length ≤ 40 := by
    have := checkL_len (allR_is h).2.2.1
    rw [List.length_append] at this; omega
  have hk : okR (putW x r) := ⟨hl.1, hl.2.1, by show (r.2 ++ [_]).length ≤ _; rw [List.length_append, List.length_singleton]; omega⟩
  rw [ifB_roomA, if_pos (by simp only [List.length_cons, List.length_nil]; omega), cat_eq, show F_shelf_all (r.1, r.2 ++ [(x.2.1, x.2.2)]) = some (allR (putW x r)) from all_eq _ hk, bindO_some, ifB_neI]
  rfl
theorem shelfPut_eq (s : Shf) (l : List Ent) (hs : okS s) (hl : l.length < 4611686018427387904) : F_shelf_Put s l = some (putS s l) := by
  unfold F_shelf_Put putS
  rw [checkS_eq s hs, bindO_some, ifB_neI]
  by_cases hc : chkS s = 0
  · obtain ⟨h4, hr⟩ := chkS_zero.1 hc
    rw [if_pos hc, if_pos hc, ifB_gtI, lenI_eq]
    by_cases h10 : 10 < l.length
    · rw [if_pos (by omega), if_pos h10]
    rw [if_neg (by omega), if_neg h10]
    obtain ⟨r0, r1, r2, r3, rfl⟩ := len4 h4
    simp only [List.mem_cons, List.not_mem_nil, or_false, forall_eq_or_imp, forall_eq] at hr
    obtain ⟨a0, a1, a2, a3⟩ := hr
    have b0 := (allR_is a0).1; have b1 := (allR_is a1).1; have b2 := (allR_is a2).1; have b3 := (allR_is a3).1
    refine (copy4 r0 r1 r2 r3 (okR_of a0) (okR_of a1) (okR_of a2) (okR_of a3) b0 b1 b2 b3 _).trans ?_
    simp only
    refine loop_range l (fun j (s : List Pt × List Pt × List Pt × List Pt) => ((j : Int), s.1, s.2.1, s.2.2.1, s.2.2.2)) (G := fun rest s => some (putE [(r0.1, s.1), (r1.1, s.2.1), (r2.1, s.2.2.1), (r3.1, s.2.2.2)] rest))
      (P := fun _ s => (allR (r0.1, s.1)).2 = 0 ∧ (allR (r1.1, s.2.1)).2 = 0 ∧ (allR (r2.1, s.2.2.1)).2 = 0 ∧ (allR (r3.1, s.2.2.2)).2 = 0) ?_ ?_ (s0 := (r0.2, r1.2, r2.2, r3.2)) ⟨a0, a1, a2, a3⟩ (by omega)
    · rintro j ⟨h0, h1, h2, h3⟩ hj ⟨c0, c1, c2, c3⟩ k hk
      have hat := atI_nat hj
      simp only at c0 c1 c2 c3
      generalize l.getD j default = x at *
      simp only
      rw [stepK_ifB, stepK_map, ifB_ltI, if_pos (by omega), hat, stepK_bind, bindO_some, stepK_ifB, stepK_map, ifB_ltI, putE]
      by_cases x0 : x.1 < 0
      · rw [if_pos x0, if_pos (.inl x0)]
      rw [if_neg x0, stepK_ifB, stepK_map, ifB_geI]
      by_cases x4 : 4 ≤ x.1
      · rw [if_pos x4, if_pos (.inr x4)]
      rw [if_neg x4, if_neg (show ¬ (x.1 < 0 ∨ 4 ≤ x.1) by omega), stepK_ifB, ifB_eqI]
      simp only [wadd_nat (show (j : Int) < 4611686018427387904 by omega)]
      have f0 := putRow_eq (r0.1, h0) c0 x (fun h => (((j + 1 : Nat) : Int), h, h1, h2, h3))
      have f1 := putRow_eq (r1.1, h1) c1 x (fun h => (((j + 1 : Nat) : Int), h0, h, h2, h3))
      have f2 := putRow_eq (r2.1, h2) c2 x (fun h => (((j + 1 : Nat) : Int), h0, h1, h, h3))
      have f3 := putRow_eq (r3.1, h3) c3 x (fun h => (((j + 1 : Nat) : Int), h0, h1, h2, h))
      rcases i4 x0 x4 with e | e | e | e
      · rw [if_pos e, e]
        refine (congrArg (fun z => stepK z k) f0).trans ?_
        show _ = some (if (allR (putW x (r0.1, h0))).2 = 0 then putE [putW x (r0.1, h0), (r1.1, h1), (r2.1, h2), (r3.1, h3)] (l.drop (j + 1)) else ([], (allR (putW x (r0.1, h0))).2))
        by_cases hz : (allR (putW x (r0.1, h0))).2 = 0
        · rw [if_pos hz, if_pos hz]; exact hk (_, h1, h2, h3) ⟨hz, c1, c2, c3⟩
        · rw [if_neg hz, if_neg hz]; rfl
      · rw [if_neg (by omega), stepK_ifB, ifB_eqI, if_pos e, e]
        refine (congrArg (fun z => stepK z k) f1).trans ?_
        show _ = some (if (allR (putW x (r1.1, h1))).2 = 0 then putE [(r0.1, h0), putW x (r1.1, h1), (r2.1, h2), (r3.1, h3)] (l.drop (j + 1)) else ([], (allR (putW x (r1.1, h1))).2))
        by_cases hz : (allR (putW x (r1.1, h1))).2 = 0
        · rw [if_pos hz, if_pos hz]; exact hk (h0, _, h2, h3) ⟨c0, hz, c2, c3⟩
        · rw [if_neg hz, if_neg hz]; rfl
      · rw [if_neg (by omega), stepK_ifB, ifB_eqI, if_neg (by omega), stepK_ifB, ifB_eqI, if_pos e, e]
        refine (congrArg (fun z => stepK z k) f2).trans ?_
        show _ = some (if (allR (putW x (r2.1, h2))).2 = 0 then putE [(r0.1, h0), (r1.1, h1), putW x (r2.1, h2), (r3.1, h3)] (l.drop (j + 1)) else ([], (allR (putW x (r2.1, h2))).2))
        by_cases hz : (allR (putW x (r2.1, h2))).2 = 0
        · rw [if_pos hz, if_pos hz]; exact hk (h0, h1, _, h3) ⟨c0, c1, hz, c3⟩
        · rw [if_neg hz, if_neg hz]; rfl
      · rw [if_neg (by omega), stepK_ifB, ifB_eqI, if_neg (by omega), stepK_ifB, ifB_eqI, if_neg (by omega), stepK_ifB, ifB_eqI, if_pos e, e]
        refine (congrArg (fun z => stepK z k) f3).trans ?_
        show _ = some (if (allR (putW x (r3.1, h3))).2 = 0 then putE [(r0.1, h0), (r1.1, h1), (r2.1, h2), putW x (r3.1, h3)] (l.drop (j + 1)) else ([], (allR (putW x (r3.1, h3))).2))
        by_cases hz : (allR (putW x (r3.1, h3))).2 = 0
        · rw [if_pos hz, if_pos hz]; exact hk (h0, h1, h2, _) ⟨c0, c1, c2, hz⟩
        · rw [if_neg hz, if_neg hz]; rfl
    · rintro ⟨h0, h1, h2, h3⟩ _ k
      simp only
      rw [stepK_ifB, stepK_map, ifB_ltI, if_neg (by omega)]
      rfl
  · rw [if_neg hc, if_neg hc]
end Go.Proofs.Y
namespace Go.Proofs.Y
open Go.Rb Go.Kx
theorem eqLoop {γ α : Type} [Inhabited γ] [DecidableEq γ] (A B : List γ) (hl : A.length < 4611686018427387904) (hn : A.length = B.length) (R F : Option α) (T : Int → γ → γ → Option (Sum Int α))
    (hT : ∀ (i : Int) (x y : γ), x ∈ A → T i x y = if x = y then some (Sum.inl (wadd .i64 i 1)) else mapO Sum.inr F) :
    loopN maxR (fun (i : Int) => ifB (ltI i (lenI A)) (bindO (atI A i) fun (y : γ) => bindO (atI B i) fun (y3 : γ) => T i y y3) (mapO Sum.inr R)) 0 = if A = B then R else F := by
  refine loop_ind (G := fun _ => if A = B then R else F) (P := fun (i : Int) => 0 ≤ i ∧ i ≤ A.length ∧ ∀ j : Nat, (j : Int) < i → A.getD j default = B.getD j default) (μ := fun (i : Int) => A.length - i.toNat) ?_ maxR 0 ⟨by omega, by omega, fun j hj => by omega⟩ (by unfold maxR; omega)
  rintro i ⟨h0, h1, h2⟩ k hk
  obtain ⟨j, rfl⟩ : ∃ j : Nat, i = j := ⟨i.toNat, by omega⟩
  rw [stepK_ifB, stepK_map, ifB_ltI, lenI_eq]
  by_cases hj : j < A.length
  · rw [if_pos (by omega), atI_nat hj, atI_nat (by omega : j < B.length), bindO_some, bindO_some, hT _ _ _ (getD_mem hj), wadd_nat (by omega)]
    by_cases hq : A.getD j default = B.getD j default
    · rw [if_pos hq, stepK_inl]
      exact hk _ ⟨by omega, by omega, fun j' hj' => by
        by_cases h : j' = j
        · subst h; exact hq
        · exact h2 j' (by omega)⟩ (by omega)
    · have hne : ¬ A = B := by rintro rfl; exact hq rfl
      rw [if_neg hq, if_neg hne, stepK_map]
  · rw [if_neg (by omega)]
    have : A = B := getD_ext hn fun j' hj' => h2 j' (by omega)
    rw [if_pos this]
theorem shelfSame_eq (a b : Shf) (ha : okS a) : F_shelf_Same a b = some (decide (a = b)) := by
  unfold F_shelf_Same
  rw [ifB_neI, lenI_eq, lenI_eq]
  by_cases hn : (a.length : Int) = b.length
  · rw [if_pos hn]
    refine (eqLoop a b ha.1 (by omega) _ (some false) _ ?_).trans ?_
    · intro i x y hx
      have hok := ha.2 x hx
      rw [equalP_eq (by have := hok.2.2; omega), bindO_some, ifB_dec, ifB_neI, lenI_eq, lenI_eq]
      by_cases h2 : x.2 = y.2
      · rw [if_pos h2]
        by_cases hm : (x.1.length : Int) = y.1.length
        · rw [if_pos hm]
          refine (eqLoop x.1 y.1 hok.2.1 (by omega) _ (mapO Sum.inr (some false)) _ ?_).trans ?_
          · intro i2 u v hu
            rw [show ∀ b : Bk, ((b.1, b.2.1, b.2.2.1, b.2.2.2) : Bk) = b from fun _ => rfl, show ∀ b : Bk, ((b.1, b.2.1, b.2.2.1, b.2.2.2) : Bk) = b from fun _ => rfl, same_eq u v (hok.1 u hu), bindO_some, ifB_not, ifB_dec]
          · by_cases h1 : x.1 = y.1
            · rw [if_pos h1, if_pos (Prod.ext h1 h2)]
            · rw [if_neg h1, if_neg (fun h => h1 (congrArg Prod.fst h))]
        · rw [if_neg hm, if_neg (fun h => hm (by rw [h]))]
      · rw [if_neg h2, if_neg (fun h => h2 (congrArg Prod.snd h))]
    · by_cases h : a = b
      · simp [h]
      · simp [h]
  · have : ¬ a = b := by rintro rfl; exact hn rfl
    rw [if_neg hn, decide_eq_false this]
end Go.Proofs.Y
namespace Go.Rb
open Go.Kx
def doRec (s : Shf) (r : Rc) : Shf × Int := if r.1 = 1 then putS s r.2.2.2 else if r.1 = 2 then sealS s r.2.1 r.2.2.1 else if r.1 = 3 then mergeS s r.2.1 r.2.2.1 else dropS s r.2.2.1
def nextS (s : Shf) (r : Rc) : Shf × Int := if chkS s = 0 then (if chkRec r = 0 then doRec s r else ([], chkRec r)) else ([], chkS s)
def replayS : Shf → List Rc → Shf × Int
  | s, [] => (s, 0)
  | s, r :: l => if (nextS s r).2 = 0 then replayS (nextS s r).1 l else ([], (nextS s r).2)
def freshS : Shf := [([], []), ([], []), ([], []), ([], [])]
theorem fresh_ok : chkS freshS = 0 := by decide +kernel
def replayR (l : List Rc) : Shf × Int := if 60 < l.length then ([], 2) else replayS freshS l
theorem doRec_ok {s : Shf} {r : Rc} (h : (doRec s r).2 = 0) : chkS s = 0 ∧ chkS (doRec s r).1 = 0 := by
  unfold doRec at h ⊢
  split
  · rename_i h1; rw [if_pos h1] at h; exact ⟨(putS_ok h).1, (putS_ok h).2.2.1⟩
  · rename_i h1
    rw [if_neg h1] at h
    split
    · rename_i h2; rw [if_pos h2] at h; exact ⟨(sealS_ok h).1, (sealS_ok h).2.1⟩
    · rename_i h2
      rw [if_neg h2] at h
      split
      · rename_i h3; rw [if_pos h3] at h; exact ⟨(mergeS_ok h).1, (mergeS_ok h).2.1⟩
      · rename_i h3; rw [if_neg h3] at h; exact ⟨(dropS_ok h).1, (dropS_ok h).2.2.1⟩
theorem nextS_ok {s : Shf} {r : Rc} (h : (nextS s r).2 = 0) : chkS s = 0 ∧ chkRec r = 0 ∧ nextS s r = doRec s r ∧ chkS (nextS s r).1 = 0 := by
  unfold nextS at h ⊢
  split at h
  · rename_i h1
    split at h
    · rename_i h2
      rw [if_pos h1, if_pos h2]
      exact ⟨h1, h2, rfl, (doRec_ok h).2⟩
    · rename_i h2; exact absurd h h2
  · rename_i h1; exact absurd h h1
theorem replayS_ok : ∀ {l : List Rc} {s : Shf}, chkS s = 0 → (replayS s l).2 = 0 → chkS (replayS s l).1 = 0
  | [], _, h, _ => h
  | r :: l, s, h, he => by
    rw [replayS] at he ⊢
    split at he
    · rename_i h1
      rw [if_pos h1]
      exact replayS_ok (nextS_ok h1).2.2.2 he
    · rename_i h1; exact absurd he h1
theorem replayS_rec : ∀ {l : List Rc} {s : Shf}, (replayS s l).2 = 0 → ∀ r ∈ l, chkRec r = 0
  | [], _, _ => fun r hr => by cases hr
  | r :: l, s, he => by
    rw [replayS] at he
    split at he
    · rename_i h1
      intro q hq
      rcases List.mem_cons.1 hq with rfl | hq
      · exact (nextS_ok h1).2.1
      · exact replayS_rec he q hq
    · rename_i h1; exact absurd he h1
theorem replayR_len {l : List Rc} (he : (replayR l).2 = 0) : l.length ≤ 60 ∧ chkS (replayR l).1 = 0 ∧ ∀ r ∈ l, chkRec r = 0 := by
  unfold replayR at he ⊢
  split at he
  · cases he
  · rename_i h
    rw [if_neg h]
    exact ⟨by omega, replayS_ok fresh_ok he, replayS_rec he⟩
end Go.Rb
