/-
  What is proved: facts on the types of the program. Conditions: none.
-/
import Derived.Test.YtoihccclnkhmaaaProg
import Derived.KernelRfl
import Derived.Test.YtoihccclnkhmaaaEngV
set_option linter.unusedVariables false
set_option linter.unusedSimpArgs false
set_option maxRecDepth 4000
namespace Go.Proofs.Y
open Go.Rb
theorem sz3 : Try.prog.cellsOf 3 = 1 := by kernel_rfl
theorem if3 : (Try.prog.info? 3).isSome = true := by kernel_rfl
theorem un3 : Try.prog.underlying 3 = some (.int .i64) := Try.underlying3
theorem ag3 : isAggT Try.prog 3 = some false := by simp only [isAggT, Try.underlying3]
theorem zc3 : zc Try.prog 3 = some [.c (.int .i64 0)] := by kernel_rfl
theorem by3 : Try.prog.bytesOf 3 = 8 := by kernel_rfl
theorem sz4 : Try.prog.cellsOf 4 = 1 := by kernel_rfl
theorem if4 : (Try.prog.info? 4).isSome = true := by kernel_rfl
theorem un4 : Try.prog.underlying 4 = some .bool := Try.underlying4
theorem ag4 : isAggT Try.prog 4 = some false := by simp only [isAggT, Try.underlying4]
theorem zc4 : zc Try.prog 4 = some [.c (.bool false)] := by kernel_rfl
theorem by4 : Try.prog.bytesOf 4 = 1 := by kernel_rfl
theorem sz24 : Try.prog.cellsOf 24 = 4 := by kernel_rfl
theorem if24 : (Try.prog.info? 24).isSome = true := by kernel_rfl
theorem ag24 : isAggT Try.prog 24 = some true := by simp only [isAggT, Try.underlying24]
theorem zc24 : zc Try.prog 24 = some [.c (.int .i64 0), .c (.int .i64 0), .c (.int .i64 0), .c (.int .i64 0)] := by kernel_rfl
theorem by24 : Try.prog.bytesOf 24 = 32 := by kernel_rfl
theorem fp24_0 : ∀ l off : Nat, yfield Try.prog 24 0 (.ptr l off) = some (.ptr l (off + 0)) := fun _ _ => by simp [yfield, Try.underlying24, sz3]
theorem fe24_0 : ∀ xs : List C, yfield Try.prog 24 0 (.el xs) = some (.el (xs.drop 0)) := fun _ => by simp [yfield, Try.underlying24, sz3]
theorem fp24_1 : ∀ l off : Nat, yfield Try.prog 24 1 (.ptr l off) = some (.ptr l (off + 1)) := fun _ _ => by simp [yfield, Try.underlying24, sz3]
theorem fe24_1 : ∀ xs : List C, yfield Try.prog 24 1 (.el xs) = some (.el (xs.drop 1)) := fun _ => by simp [yfield, Try.underlying24, sz3]
theorem fp24_2 : ∀ l off : Nat, yfield Try.prog 24 2 (.ptr l off) = some (.ptr l (off + 2)) := fun _ _ => by simp [yfield, Try.underlying24, sz3]
theorem fe24_2 : ∀ xs : List C, yfield Try.prog 24 2 (.el xs) = some (.el (xs.drop 2)) := fun _ => by simp [yfield, Try.underlying24, sz3]
theorem fp24_3 : ∀ l off : Nat, yfield Try.prog 24 3 (.ptr l off) = some (.ptr l (off + 3)) := fun _ _ => by simp [yfield, Try.underlying24, sz3]
theorem fe24_3 : ∀ xs : List C, yfield Try.prog 24 3 (.el xs) = some (.el (xs.drop 3)) := fun _ => by simp [yfield, Try.underlying24, sz3]
theorem bd24 : ∀ ps : List (Nat × AV), ybuild Try.prog 24 ps = (yfill (fun i => match i with | 0 => some (0, 1) | 1 => some (1, 1) | 2 => some (2, 1) | 3 => some (3, 1) | _ => none) [.c (.int .i64 0), .c (.int .i64 0), .c (.int .i64 0), .c (.int .i64 0)] ps).map .agg := by
  intro ps
  simp only [ybuild, Try.underlying24, zc24]
  rw [if_pos (by simp [if3, sz3])]
  congr 2
  funext i
  rcases i with _ | (_ | (_ | (_ | _))) <;> simp [if3, sz3]
theorem sz34 : Try.prog.cellsOf 34 = 2 := by kernel_rfl
theorem if34 : (Try.prog.info? 34).isSome = true := by kernel_rfl
theorem ag34 : isAggT Try.prog 34 = some true := by simp only [isAggT, Try.underlying34]
theorem zc34 : zc Try.prog 34 = some [.c (.int .i64 0), .c (.int .i64 0)] := by kernel_rfl
theorem by34 : Try.prog.bytesOf 34 = 16 := by kernel_rfl
theorem fp34_0 : ∀ l off : Nat, yfield Try.prog 34 0 (.ptr l off) = some (.ptr l (off + 0)) := fun _ _ => by simp [yfield, Try.underlying34, sz3]
theorem fe34_0 : ∀ xs : List C, yfield Try.prog 34 0 (.el xs) = some (.el (xs.drop 0)) := fun _ => by simp [yfield, Try.underlying34, sz3]
theorem fp34_1 : ∀ l off : Nat, yfield Try.prog 34 1 (.ptr l off) = some (.ptr l (off + 1)) := fun _ _ => by simp [yfield, Try.underlying34, sz3]
theorem fe34_1 : ∀ xs : List C, yfield Try.prog 34 1 (.el xs) = some (.el (xs.drop 1)) := fun _ => by simp [yfield, Try.underlying34, sz3]
theorem bd34 : ∀ ps : List (Nat × AV), ybuild Try.prog 34 ps = (yfill (fun i => match i with | 0 => some (0, 1) | 1 => some (1, 1) | _ => none) [.c (.int .i64 0), .c (.int .i64 0)] ps).map .agg := by
  intro ps
  simp only [ybuild, Try.underlying34, zc34]
  rw [if_pos (by simp [if3, sz3])]
  congr 2
  funext i
  rcases i with _ | (_ | _) <;> simp [if3, sz3]
theorem sz22 : Try.prog.cellsOf 22 = 1 := by kernel_rfl
theorem if22 : (Try.prog.info? 22).isSome = true := by kernel_rfl
theorem un22 : Try.prog.underlying 22 = some (.slice 34) := Try.underlying22
theorem ag22 : isAggT Try.prog 22 = some false := by simp only [isAggT, Try.underlying22]
theorem zc22 : zc Try.prog 22 = some [.nils] := by kernel_rfl
theorem by22 : Try.prog.bytesOf 22 = 24 := by kernel_rfl
theorem ic22 : ∀ (rows : List (List C)) (k : IntKind) (n : Int), yindex Try.prog 22 (.c (.sl 34 rows)) (.c (.int k n)) = if 0 ≤ n ∧ n < rows.length then some (.el (rows.getD n.toNat [])) else none := fun _ _ _ => by simp [yindex, un22, if34, AV.int?, AV.rows]
theorem io22 : ∀ (nw : Bool) (id : Nat) (rows : List (List C)) (k : IntKind) (n : Int), yindex Try.prog 22 (.own nw id 34 rows) (.c (.int k n)) = if 0 ≤ n ∧ n < rows.length then some (.el (rows.getD n.toNat [])) else none := fun _ _ _ _ _ => by simp [yindex, un22, if34, AV.int?, AV.rows]
theorem sz36 : Try.prog.cellsOf 36 = 1 := by kernel_rfl
theorem if36 : (Try.prog.info? 36).isSome = true := by kernel_rfl
theorem un36 : Try.prog.underlying 36 = some (.slice 4) := Try.underlying36
theorem ag36 : isAggT Try.prog 36 = some false := by simp only [isAggT, Try.underlying36]
theorem zc36 : zc Try.prog 36 = some [.nils] := by kernel_rfl
theorem by36 : Try.prog.bytesOf 36 = 24 := by kernel_rfl
theorem ic36 : ∀ (rows : List (List C)) (k : IntKind) (n : Int), yindex Try.prog 36 (.c (.sl 4 rows)) (.c (.int k n)) = if 0 ≤ n ∧ n < rows.length then some (.el (rows.getD n.toNat [])) else none := fun _ _ _ => by simp [yindex, un36, if4, AV.int?, AV.rows]
theorem io36 : ∀ (nw : Bool) (id : Nat) (rows : List (List C)) (k : IntKind) (n : Int), yindex Try.prog 36 (.own nw id 4 rows) (.c (.int k n)) = if 0 ≤ n ∧ n < rows.length then some (.el (rows.getD n.toNat [])) else none := fun _ _ _ _ _ => by simp [yindex, un36, if4, AV.int?, AV.rows]
theorem tyf : (Try.prog.cellsOf 3 = 1) ∧
    ((Try.prog.info? 3).isSome = true) ∧
    (Try.prog.underlying 3 = some (.int .i64)) ∧
    (isAggT Try.prog 3 = some false) ∧
    (zc Try.prog 3 = some [.c (.int .i64 0)]) ∧
    (Try.prog.bytesOf 3 = 8) ∧
    (Try.prog.cellsOf 4 = 1) ∧
    ((Try.prog.info? 4).isSome = true) ∧
    (Try.prog.underlying 4 = some .bool) ∧
    (isAggT Try.prog 4 = some false) ∧
    (zc Try.prog 4 = some [.c (.bool false)]) ∧
    (Try.prog.bytesOf 4 = 1) ∧
    (Try.prog.cellsOf 24 = 4) ∧
    ((Try.prog.info? 24).isSome = true) ∧
    (isAggT Try.prog 24 = some true) ∧
    (zc Try.prog 24 = some [.c (.int .i64 0), .c (.int .i64 0), .c (.int .i64 0), .c (.int .i64 0)]) ∧
    (Try.prog.bytesOf 24 = 32) ∧
    (∀ l off : Nat, yfield Try.prog 24 0 (.ptr l off) = some (.ptr l (off + 0))) ∧
    (∀ xs : List C, yfield Try.prog 24 0 (.el xs) = some (.el (xs.drop 0))) ∧
    (∀ l off : Nat, yfield Try.prog 24 1 (.ptr l off) = some (.ptr l (off + 1))) ∧
    (∀ xs : List C, yfield Try.prog 24 1 (.el xs) = some (.el (xs.drop 1))) ∧
    (∀ l off : Nat, yfield Try.prog 24 2 (.ptr l off) = some (.ptr l (off + 2))) ∧
    (∀ xs : List C, yfield Try.prog 24 2 (.el xs) = some (.el (xs.drop 2))) ∧
    (∀ l off : Nat, yfield Try.prog 24 3 (.ptr l off) = some (.ptr l (off + 3))) ∧
    (∀ xs : List C, yfield Try.prog 24 3 (.el xs) = some (.el (xs.drop 3))) ∧
    (∀ ps : List (Nat × AV), ybuild Try.prog 24 ps = (yfill (fun i => match i with | 0 => some (0, 1) | 1 => some (1, 1) | 2 => some (2, 1) | 3 => some (3, 1) | _ => none) [.c (.int .i64 0), .c (.int .i64 0), .c (.int .i64 0), .c (.int .i64 0)] ps).map .agg) ∧
    (Try.prog.cellsOf 34 = 2) ∧
    ((Try.prog.info? 34).isSome = true) ∧
    (isAggT Try.prog 34 = some true) ∧
    (zc Try.prog 34 = some [.c (.int .i64 0), .c (.int .i64 0)]) ∧
    (Try.prog.bytesOf 34 = 16) ∧
    (∀ l off : Nat, yfield Try.prog 34 0 (.ptr l off) = some (.ptr l (off + 0))) ∧
    (∀ xs : List C, yfield Try.prog 34 0 (.el xs) = some (.el (xs.drop 0))) ∧
    (∀ l off : Nat, yfield Try.prog 34 1 (.ptr l off) = some (.ptr l (off + 1))) ∧
    (∀ xs : List C, yfield Try.prog 34 1 (.el xs) = some (.el (xs.drop 1))) ∧
    (∀ ps : List (Nat × AV), ybuild Try.prog 34 ps = (yfill (fun i => match i with | 0 => some (0, 1) | 1 => some (1, 1) | _ => none) [.c (.int .i64 0), .c (.int .i64 0)] ps).map .agg) ∧
    (Try.prog.cellsOf 22 = 1) ∧
    ((Try.prog.info? 22).isSome = true) ∧
    (Try.prog.underlying 22 = some (.slice 34)) ∧
    (isAggT Try.prog 22 = some false) ∧
    (zc Try.prog 22 = some [.nils]) ∧
    (Try.prog.bytesOf 22 = 24) ∧
    (∀ (rows : List (List C)) (k : IntKind) (n : Int), yindex Try.prog 22 (.c (.sl 34 rows)) (.c (.int k n)) = if 0 ≤ n ∧ n < rows.length then some (.el (rows.getD n.toNat [])) else none) ∧
    (∀ (nw : Bool) (id : Nat) (rows : List (List C)) (k : IntKind) (n : Int), yindex Try.prog 22 (.own nw id 34 rows) (.c (.int k n)) = if 0 ≤ n ∧ n < rows.length then some (.el (rows.getD n.toNat [])) else none) ∧
    (Try.prog.cellsOf 36 = 1) ∧
    ((Try.prog.info? 36).isSome = true) ∧
    (Try.prog.underlying 36 = some (.slice 4)) ∧
    (isAggT Try.prog 36 = some false) ∧
    (zc Try.prog 36 = some [.nils]) ∧
    (Try.prog.bytesOf 36 = 24) ∧
    (∀ (rows : List (List C)) (k : IntKind) (n : Int), yindex Try.prog 36 (.c (.sl 4 rows)) (.c (.int k n)) = if 0 ≤ n ∧ n < rows.length then some (.el (rows.getD n.toNat [])) else none) ∧
    (∀ (nw : Bool) (id : Nat) (rows : List (List C)) (k : IntKind) (n : Int), yindex Try.prog 36 (.own nw id 4 rows) (.c (.int k n)) = if 0 ≤ n ∧ n < rows.length then some (.el (rows.getD n.toNat [])) else none) :=
  ⟨sz3, if3, un3, ag3, zc3, by3, sz4, if4, un4, ag4, zc4, by4, sz24, if24, ag24, zc24, by24, fp24_0, fe24_0, fp24_1, fe24_1, fp24_2, fe24_2, fp24_3, fe24_3, bd24, sz34, if34, ag34, zc34, by34, fp34_0, fe34_0, fp34_1, fe34_1, bd34, sz22, if22, un22, ag22, zc22, by22, ic22, io22, sz36, if36, un36, ag36, zc36, by36, ic36, io36⟩
theorem eqi24 : EqInts Try.prog 24 4 := eqInts_flat Try.underlying24 rfl (by kernel_rfl) (by kernel_rfl) (by kernel_rfl)
theorem eqi34 : EqInts Try.prog 34 2 := eqInts_flat Try.underlying34 rfl (by kernel_rfl) (by kernel_rfl) (by kernel_rfl)
end Go.Proofs.Y
