/-
  What is proved: two structs of ints are held against each other, field by field. Conditions: none.
-/
import Derived.Test.YtoihccclnkhmaaaEngU
import Derived.Laws.StructEq
set_option linter.unusedVariables false
set_option linter.unusedSimpArgs false
set_option maxRecDepth 4000
namespace Go.Rb

def flatInts (P : Program) : Nat → List Field → Bool
  | _, [] => true
  | i, f :: fs => (f.offset == i) && (f.name != "_") && (match P.underlying f.type with | some (.int .i64) => true | _ => false) && flatInts P (i + 1) fs

theorem run_part_int {P : Program} {w : World} {e : TypeId} (hu : P.underlying e = some (.int .i64)) {xs : Array Value} {off : Nat} {v : Value} (hx : xs[off]? = some v) : (part e xs off).run P w = .ok v w := by
  simp [part, isAgg, run_underlying hu, hx]

theorem run_eqFields_ints {P : Program} {d : Nat} {w : World} (xs ys : List Int) : ∀ (fs : List Field) (i : Nat), flatInts P i fs = true → i + fs.length = xs.length → i + fs.length = ys.length →
    (Op.eqFields (d + 1) (xs.map (Value.int .i64)).toArray (ys.map (Value.int .i64)).toArray fs).run P w = .ok (decide (xs.drop i = ys.drop i)) w
  | [], i, _, hx, hy => by
    simp only [List.length_nil, Nat.add_zero] at hx hy
    rw [List.drop_of_length_le (by omega), List.drop_of_length_le (by omega)]
    simp [Op.eqFields]
  | f :: fs, i, h, hx, hy => by
    simp only [flatInts, Bool.and_eq_true, beq_iff_eq, bne_iff_ne] at h
    obtain ⟨⟨⟨h1, h2⟩, h3⟩, h4⟩ := h
    have hu : P.underlying f.type = some (.int .i64) := by
      split at h3
      · assumption
      · cases h3
    simp only [List.length_cons] at hx hy
    have hix : i < xs.length := by omega
    have hiy : i < ys.length := by omega
    have ex : (xs.map (Value.int .i64)).toArray[f.offset]? = some (.int .i64 xs[i]) := by
      rw [h1]; simp [List.getElem?_eq_getElem hix]
    have ey : (ys.map (Value.int .i64)).toArray[f.offset]? = some (.int .i64 ys[i]) := by
      rw [h1]; simp [List.getElem?_eq_getElem hiy]
    have ih := run_eqFields_ints (P := P) (d := d) (w := w) xs ys fs (i + 1) h4 (by omega) (by omega)
    rw [List.drop_eq_getElem_cons hix, List.drop_eq_getElem_cons hiy]
    simp only [Op.eqFields, ne_eq, h2, not_false_iff, if_true, Sem.run_bind, run_part_int hu ex, run_part_int hu ey, Result.andThen_ok, run_equalIn_int w d f.type .i64 .i64 xs[i] ys[i] hu]
    by_cases he : xs[i] = ys[i]
    · simp only [he, beq_self_eq_true, Bool.not_true, Bool.false_eq_true, if_false, List.cons.injEq, true_and]
      exact ih
    · have hb : (xs[i] == ys[i]) = false := by simpa using he
      simp only [hb, Bool.not_false, if_true, Sem.run_pure, List.cons.injEq, he, false_and, decide_false]

theorem eqInts_flat {P : Program} {T n : Nat} {fs : Array Field} (hu : P.underlying T = some (.struct fs)) (hn : fs.size = n) (hf : flatInts P 0 fs.toList = true) (hp : P.stoodInHeld T = false) (hm : P.eqGuardType P.depth T = false) : EqInts P T n := by
  intro op xs ys xo yo w hop hx hy
  have hfo : P.fieldsOf T = fs := by simp [Program.fieldsOf, hu]
  have he : (Op.equalIn 10000 T (.agg (xs.map (Value.int .i64)).toArray) (.agg (ys.map (Value.int .i64)).toArray)).run P w = .ok (decide (xs = ys)) w := by
    rw [run_equalIn_struct w 9999 T _ _ (by rw [hfo]; exact hu) hp, hfo]
    have := run_eqFields_ints (P := P) (d := 9998) (w := w) xs ys fs.toList 0 hf (by simp; omega) (by simp; omega)
    simpa using this
  rcases hop with rfl | rfl
  · simp only [Sem.run_bind, run_eqGuard_agg w _ T xo yo _ _ hm, Result.andThen_ok, run_eql_struct, he, if_true]
  · simp only [Sem.run_bind, run_eqGuard_agg w _ T xo yo _ _ hm, Result.andThen_ok, run_neq_struct, he, reduceCtorEq, if_false]
end Go.Rb
