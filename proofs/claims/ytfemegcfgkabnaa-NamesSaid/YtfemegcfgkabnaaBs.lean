/-
  What is proved: a slice is built of constants, one cell each. Conditions: none.
-/
import Derived.Test.YtfemegcfgkabnaaEB
import Derived.Test.YtfemegcfgkabnaaPA
set_option linter.unusedVariables false
set_option linter.unusedSimpArgs false
set_option maxRecDepth 4000
namespace Go.Rb
def en : Nat → List AV → List (Nat × AV)
  | _, [] => []
  | k, x :: r => (k, x) :: en (k + 1) r
theorem fill1 {pl : Nat → Option (Nat × Nat)} (hpl : ∀ i, pl i = some (i, 1)) : ∀ (xs : List C) (pre : List AV), yfill pl (pre ++ List.replicate xs.length .any) (en pre.length (xs.map .c)) = some (pre ++ xs.map .c)
  | [], pre => by simp [en, yfill]
  | x :: xs, pre => by
    have ih := fill1 hpl xs (pre ++ [.c x])
    rw [List.length_append] at ih
    rw [List.map_cons, en, yfill, hpl]
    simp only [AV.cells, List.length_cons, List.length_nil]
    rw [if_pos ⟨trivial, by rw [List.length_append, List.length_replicate]; omega⟩]
    have hp : place (pre ++ List.replicate (xs.length + 1) AV.any) pre.length [.c x] = (pre ++ [.c x]) ++ List.replicate xs.length .any := by
      unfold place
      rw [List.take_left, List.replicate_succ]
      simp
    rw [hp]
    simpa using ih
theorem rows1 {ty : Nat → TypeId} : ∀ (xs : List C), toRows ty 1 xs.length (xs.map .c) = some (xs.map fun c => [c])
  | [] => by simp [toRows]
  | x :: xs => by
    have ih := rows1 (ty := ty) xs
    simp [toRows, toCs, AV.toC, ih]
theorem ybs1 {P : Program} {t e : TypeId} {xs : List C} (hu : P.underlying t = some (.slice e)) (hz : (zc P e).map (·.length) = some (P.cellsOf e)) (h1 : P.cellsOf e = 1) (hn : xs.length ≤ 16777216) : ybs P t xs.length (en 0 (xs.map .c)) = some (xs.map fun c => [c]) := by
  unfold ybs
  simp only [hu]
  rw [if_pos ⟨hz, by omega, by rw [h1, Nat.mul_one]; exact hn⟩]
  have hf := fill1 (pl := fun i => some (i * P.cellsOf e, P.cellsOf e)) (by intro i; rw [h1, Nat.mul_one]) xs []
  simp only [List.nil_append, List.length_nil] at hf
  rw [show xs.length * P.cellsOf e = xs.length from by rw [h1, Nat.mul_one], hf]
  simp only []
  rw [h1]
  exact rows1 xs
theorem aops_build {P : Program} {dr : Bool} {ops : Array Oper} {K : RSt → Prop} {l : List Oper} {s : RSt} {o : Oper} {ty e : TypeId} {n : Nat} {ps : Array (Nat × Operand)} (xs : List Int) (hw : wantedA s.t ops o = some true) (ho : o.op = .buildSlice ty n ps)
    (hu : P.underlying ty = some (.slice e)) (hz : (zc P e).map (·.length) = some (P.cellsOf e)) (h1 : P.cellsOf e = 1) (hn : n = xs.length) (hs : xs.length ≤ 16777216)
    (h : (ps.toList.map fun (i, x) => (i, evO s.t x)) = en 0 ((xs.map (C.int .i64)).map .c)) (k : aops P dr ops K l { s with t := putT s.t o.dst (.own false 0 e (Rw inC xs)) }) : aops P dr ops K (o :: l) s := by
  have he : elemT P ty = e := by simp [elemT, hu]
  refine aops_eff (f := { v := .own false 0 (elemT P ty) (Rw inC xs) }) hw ?_ (by rw [he]; simpa [RSt.app, memAll] using k)
  unfold AYe
  simp only [ho]
  refine ⟨Rw inC xs, ?_, rfl⟩
  rw [h, hn]
  have := ybs1 (xs := xs.map (C.int .i64)) hu hz h1 (by rw [List.length_map]; exact hs)
  rw [List.length_map] at this
  rw [this]
  simp [Rw, inC]
end Go.Rb
