/-
  What is proved: the sum of parts is the sum of the whole: what SumParts computes. Conditions: none.
-/
import Derived.Test.YtoihccclnkhmaaaC4
import Derived.Test.YtoihccclnkhmaaaP4b
set_option linter.unusedVariables false
set_option linter.unusedSimpArgs false
set_option maxRecDepth 4000
namespace Go.Proofs.Y
open Go.Rb
theorem smE : ∀ s : Sm, (⟨s.n, s.mn, s.mx, s.tot⟩ : Sm) = s := fun _ => rfl
set_option maxHeartbeats 4000000 in
theorem at_fun (k n : Int) (h : 0 < n) (hn : n ≤ 9223372036854775807) : Fun Try.prog 30 [.c (.int .i64 k), .c (.int .i64 n)] nomem (.c (.int .i64 (k % n))) nomem := by
  have h1 := Int.tmod_lt_of_pos k h
  have h2 := Int.lt_tmod_of_pos k h
  have h3 := at_mod (k := k) h
  refine fun_of_awp Try.func30 rfl (by decide +kernel) (by decide +kernel) (Nat.le_of_ble_eq_true rfl) (fun _ _ => rfl) ?_
  refine awp_seq_k fun K1 hK1 => ?_
  refine awp_region_lit fun L2 hL2 => ?_
  refine aops_orunN 1 _ _ ?_
  simp only [q0, kz, kv, rwR, enR, csR, tyf, Nat.reduceBEq, reduceIte, Nat.reduceEqDiff, Nat.reduceAdd, Nat.reduceLeDiff, reduceCtorEq, Nat.reduceMul, Int.reduceToNat, Nat.reduceShiftRight, Nat.reduceMod, Nat.reducePow, Nat.reduceOr, Nat.reduceAnd]
  refine aops_nil (hL2 _ ?_)
  simp only [q0, kz, kv, rwR, enR, csR, tyf, Nat.reduceBEq, reduceIte, Nat.reduceEqDiff, Nat.reduceAdd, Nat.reduceLeDiff, reduceCtorEq, Nat.reduceMul, Int.reduceToNat, Nat.reduceShiftRight, Nat.reduceMod, Nat.reducePow, Nat.reduceOr, Nat.reduceAnd]
  try simp only [rk_state]
  refine hK1 _ ?_
  refine awp_seq_k fun K3 hK3 => ?_
  refine awp_region_lit fun L4 hL4 => ?_
  refine aops_orunN 2 _ _ ?_
  simp only [q0, kz, kv, rwR, enR, csR, tyf, Nat.reduceBEq, reduceIte, Nat.reduceEqDiff, Nat.reduceAdd, Nat.reduceLeDiff, reduceCtorEq, Nat.reduceMul, Int.reduceToNat, Nat.reduceShiftRight, Nat.reduceMod, Nat.reducePow, Nat.reduceOr, Nat.reduceAnd]
  refine aops_val (v := ?v5) rfl ?h5 ?_
  case h5 => simp only [q0, kz, kv, rwR, enR, csR, tyf, Nat.reduceBEq, reduceIte, Nat.reduceEqDiff, Nat.reduceAdd, Nat.reduceLeDiff, reduceCtorEq, Nat.reduceMul, Int.reduceToNat, Nat.reduceShiftRight, Nat.reduceMod, Nat.reducePow, Nat.reduceOr, Nat.reduceAnd]; (rw [y_rem] <;> omega)
  simp only [q0, kz, kv, rwR, enR, csR, tyf, Nat.reduceBEq, reduceIte, Nat.reduceEqDiff, Nat.reduceAdd, Nat.reduceLeDiff, reduceCtorEq, Nat.reduceMul, Int.reduceToNat, Nat.reduceShiftRight, Nat.reduceMod, Nat.reducePow, Nat.reduceOr, Nat.reduceAnd]
  refine aops_orunN 1 _ _ ?_
  simp only [q0, kz, kv, rwR, enR, csR, tyf, Nat.reduceBEq, reduceIte, Nat.reduceEqDiff, Nat.reduceAdd, Nat.reduceLeDiff, reduceCtorEq, Nat.reduceMul, Int.reduceToNat, Nat.reduceShiftRight, Nat.reduceMod, Nat.reducePow, Nat.reduceOr, Nat.reduceAnd]
  refine aops_nil (hL4 _ ?_)
  simp only [q0, kz, kv, rwR, enR, csR, tyf, Nat.reduceBEq, reduceIte, Nat.reduceEqDiff, Nat.reduceAdd, Nat.reduceLeDiff, reduceCtorEq, Nat.reduceMul, Int.reduceToNat, Nat.reduceShiftRight, Nat.reduceMod, Nat.reducePow, Nat.reduceOr, Nat.reduceAnd]
  try simp only [rk_state]
  refine hK3 _ ?_
  refine awp_seq_k fun K6 hK6 => ?_
  refine awp_seq_k fun K7 hK7 => ?_
  refine awp_region_lit fun L8 hL8 => ?_
  refine aops_orunN 2 _ _ ?_
  simp only [q0, kz, kv, rwR, enR, csR, tyf, Nat.reduceBEq, reduceIte, Nat.reduceEqDiff, Nat.reduceAdd, Nat.reduceLeDiff, reduceCtorEq, Nat.reduceMul, Int.reduceToNat, Nat.reduceShiftRight, Nat.reduceMod, Nat.reducePow, Nat.reduceOr, Nat.reduceAnd]
  refine aops_nil (hL8 _ ?_)
  simp only [q0, kz, kv, rwR, enR, csR, tyf, Nat.reduceBEq, reduceIte, Nat.reduceEqDiff, Nat.reduceAdd, Nat.reduceLeDiff, reduceCtorEq, Nat.reduceMul, Int.reduceToNat, Nat.reduceShiftRight, Nat.reduceMod, Nat.reducePow, Nat.reduceOr, Nat.reduceAnd]
  try simp only [rk_state]
  refine hK7 _ ?_
  refine awp_cond (t := ?t9) ?h9 (fun hb9 => ?a9) (fun hb9 => ?b9)
  case h9 => simp only [q0, kz, kv, rwR, enR, csR, tyf, Nat.reduceBEq, reduceIte, Nat.reduceEqDiff, Nat.reduceAdd, Nat.reduceLeDiff, reduceCtorEq, Nat.reduceMul, Int.reduceToNat, Nat.reduceShiftRight, Nat.reduceMod, Nat.reducePow, Nat.reduceOr, Nat.reduceAnd]; rfl
  case a9 =>
    have hp9 := hb9
    try simp only [kb] at hp9
    all_goals try exact absurd hb9 (by decide)
    all_goals try (exfalso; omega)
    all_goals
      refine awp_region_lit fun L10 hL10 => ?_
      refine aops_orunN 4 _ _ ?_
      simp only [q0, kz, kv, rwR, enR, csR, tyf, Nat.reduceBEq, reduceIte, Nat.reduceEqDiff, Nat.reduceAdd, Nat.reduceLeDiff, reduceCtorEq, Nat.reduceMul, Int.reduceToNat, Nat.reduceShiftRight, Nat.reduceMod, Nat.reducePow, Nat.reduceOr, Nat.reduceAnd, hb9]
      try simp (disch := omega) only [wr_id]
      refine aops_nil (hL10 _ ?_)
      simp only [q0, kz, kv, rwR, enR, csR, tyf, Nat.reduceBEq, reduceIte, Nat.reduceEqDiff, Nat.reduceAdd, Nat.reduceLeDiff, reduceCtorEq, Nat.reduceMul, Int.reduceToNat, Nat.reduceShiftRight, Nat.reduceMod, Nat.reducePow, Nat.reduceOr, Nat.reduceAnd, hb9]
      try simp only [rk_state]
      refine hK6 _ ?_
      refine awp_seq_k fun K11 hK11 => ?_
      refine awp_region_lit fun L12 hL12 => ?_
      refine aops_orunN 2 _ _ ?_
      simp only [q0, kz, kv, rwR, enR, csR, tyf, Nat.reduceBEq, reduceIte, Nat.reduceEqDiff, Nat.reduceAdd, Nat.reduceLeDiff, reduceCtorEq, Nat.reduceMul, Int.reduceToNat, Nat.reduceShiftRight, Nat.reduceMod, Nat.reducePow, Nat.reduceOr, Nat.reduceAnd, hb9]
      refine aops_nil (hL12 _ ?_)
      simp only [q0, kz, kv, rwR, enR, csR, tyf, Nat.reduceBEq, reduceIte, Nat.reduceEqDiff, Nat.reduceAdd, Nat.reduceLeDiff, reduceCtorEq, Nat.reduceMul, Int.reduceToNat, Nat.reduceShiftRight, Nat.reduceMod, Nat.reducePow, Nat.reduceOr, Nat.reduceAnd, hb9]
      try simp only [rk_state]
      refine hK11 _ ?_
      refine awp_ret ?_
      try simp only [rk_state]
      refine ⟨_, 0, by simp only [q0, kz, kv, rwR, enR, csR, tyf, Nat.reduceBEq, reduceIte, Nat.reduceEqDiff, Nat.reduceAdd, Nat.reduceLeDiff, reduceCtorEq, Nat.reduceMul, Int.reduceToNat, Nat.reduceShiftRight, Nat.reduceMod, Nat.reducePow, Nat.reduceOr, Nat.reduceAnd, resA, Try.results30, hb9]; rfl, ?_, fun l hl => absurd rfl hl⟩
      simp only [packA]
      (repeat' (first | exact .nil | exact wkR_c | exact wkR_own | exact wkR_nils | refine wkR_int ?_ | refine wkR_bool ?_ | refine wkR_sl ?_ | refine wkR_osl ?_ | refine wkR_nsl ?_ | refine wkR_oo ?_ | refine wkR_no ?_ | refine .cons ?_ ?_ | refine wkR_agg ?_ | refine wkR_tup ?_)) <;> first | (rw [if_pos (by assumption)] at h3; exact h3) | (rw [if_neg (by assumption)] at h3; exact h3)
  case b9 =>
    have hp9 := hb9
    try simp only [kb] at hp9
    all_goals try exact absurd hb9 (by decide)
    all_goals try (exfalso; omega)
    all_goals
      refine awp_skip ?_
      try simp only [rk_state]
      refine hK6 _ ?_
      refine awp_seq_k fun K13 hK13 => ?_
      refine awp_region_lit fun L14 hL14 => ?_
      refine aops_orunN 2 _ _ ?_
      simp only [q0, kz, kv, rwR, enR, csR, tyf, Nat.reduceBEq, reduceIte, Nat.reduceEqDiff, Nat.reduceAdd, Nat.reduceLeDiff, reduceCtorEq, Nat.reduceMul, Int.reduceToNat, Nat.reduceShiftRight, Nat.reduceMod, Nat.reducePow, Nat.reduceOr, Nat.reduceAnd, hb9]
      refine aops_nil (hL14 _ ?_)
      simp only [q0, kz, kv, rwR, enR, csR, tyf, Nat.reduceBEq, reduceIte, Nat.reduceEqDiff, Nat.reduceAdd, Nat.reduceLeDiff, reduceCtorEq, Nat.reduceMul, Int.reduceToNat, Nat.reduceShiftRight, Nat.reduceMod, Nat.reducePow, Nat.reduceOr, Nat.reduceAnd, hb9]
      try simp only [rk_state]
      refine hK13 _ ?_
      refine awp_ret ?_
      try simp only [rk_state]
      refine ⟨_, 0, by simp only [q0, kz, kv, rwR, enR, csR, tyf, Nat.reduceBEq, reduceIte, Nat.reduceEqDiff, Nat.reduceAdd, Nat.reduceLeDiff, reduceCtorEq, Nat.reduceMul, Int.reduceToNat, Nat.reduceShiftRight, Nat.reduceMod, Nat.reducePow, Nat.reduceOr, Nat.reduceAnd, resA, Try.results30, hb9]; rfl, ?_, fun l hl => absurd rfl hl⟩
      simp only [packA]
      (repeat' (first | exact .nil | exact wkR_c | exact wkR_own | exact wkR_nils | refine wkR_int ?_ | refine wkR_bool ?_ | refine wkR_sl ?_ | refine wkR_osl ?_ | refine wkR_nsl ?_ | refine wkR_oo ?_ | refine wkR_no ?_ | refine .cons ?_ ?_ | refine wkR_agg ?_ | refine wkR_tup ?_)) <;> first | (rw [if_pos (by assumption)] at h3; exact h3) | (rw [if_neg (by assumption)] at h3; exact h3)
set_option maxHeartbeats 4000000 in
theorem sumParts_fun (ps : List Pt) (j k : Int) (hn : ps.length < 4611686018427387904) : Fun Try.prog 4 [.c (.sl 34 (Rw Pt.cs ps)), .c (.int .i64 j), .c (.int .i64 k)] nomem (.c (.bool true)) nomem := by
  have h1 := Int.emod_nonneg j (show (ps.length : Int) + 1 ≠ 0 by omega)
  have h2 := Int.emod_lt_of_pos j (show (0 : Int) < (ps.length : Int) + 1 by omega)
  have h3 := Int.emod_nonneg k (show (ps.length : Int) + 1 ≠ 0 by omega)
  have h4 := Int.emod_lt_of_pos k (show (0 : Int) < (ps.length : Int) + 1 by omega)
  have ⟨s1, s2, s3⟩ := sumOf_parts (l := ps) hn (j := (min (j % (↑ps.length + 1)) (k % (↑ps.length + 1))).toNat) (k := (max (j % (↑ps.length + 1)) (k % (↑ps.length + 1))).toNat) (by omega) (by omega)
  refine fun_of_awp Try.func4 rfl (by decide +kernel) (by decide +kernel) (Nat.le_of_ble_eq_true rfl) (fun _ _ => rfl) ?_
  refine awp_seq_k fun K1 hK1 => ?_
  refine awp_region_lit fun L2 hL2 => ?_
  refine aops_orunN 1 _ _ ?_
  simp only [q0, kz, kv, rwR, enR, csR, tyf, Nat.reduceBEq, reduceIte, Nat.reduceEqDiff, Nat.reduceAdd, Nat.reduceLeDiff, reduceCtorEq, Nat.reduceMul, Int.reduceToNat, Nat.reduceShiftRight, Nat.reduceMod, Nat.reducePow, Nat.reduceOr, Nat.reduceAnd, smE, s1, s2, s3]
  refine aops_nil (hL2 _ ?_)
  simp only [q0, kz, kv, rwR, enR, csR, tyf, Nat.reduceBEq, reduceIte, Nat.reduceEqDiff, Nat.reduceAdd, Nat.reduceLeDiff, reduceCtorEq, Nat.reduceMul, Int.reduceToNat, Nat.reduceShiftRight, Nat.reduceMod, Nat.reducePow, Nat.reduceOr, Nat.reduceAnd, smE, s1, s2, s3]
  try simp only [rk_state]
  refine hK1 _ ?_
  refine awp_seq_k fun K3 hK3 => ?_
  refine awp_region_lit fun L4 hL4 => ?_
  refine aops_orunN 4 _ _ ?_
  simp only [q0, kz, kv, rwR, enR, csR, tyf, Nat.reduceBEq, reduceIte, Nat.reduceEqDiff, Nat.reduceAdd, Nat.reduceLeDiff, reduceCtorEq, Nat.reduceMul, Int.reduceToNat, Nat.reduceShiftRight, Nat.reduceMod, Nat.reducePow, Nat.reduceOr, Nat.reduceAnd, smE, s1, s2, s3]
  try simp (disch := omega) only [wr_id]
  refine aops_call (at_fun _ _ ?s5_0 ?s5_1) rfl rfl rfl rfl (by (try simp only [q0, kz, kv, rwR, enR, csR, tyf, Nat.reduceBEq, reduceIte, Nat.reduceEqDiff, Nat.reduceAdd, Nat.reduceLeDiff, reduceCtorEq, Nat.reduceMul, Int.reduceToNat, Nat.reduceShiftRight, Nat.reduceMod, Nat.reducePow, Nat.reduceOr, Nat.reduceAnd, smE, s1, s2, s3]); (repeat' (first | exact .nil | exact wk_c | exact wk_ownc | exact wk_nilsc | exact wk_nils | exact wk_fn | refine .cons ?_ ?_ | refine wk_agg ?_ | refine wk_fnL ?_))) rfl rfl ?m5
  case s5_0 => omega
  case s5_1 => omega
  simp only [q0, kz, kv, rwR, enR, csR, tyf, Nat.reduceBEq, reduceIte, Nat.reduceEqDiff, Nat.reduceAdd, Nat.reduceLeDiff, reduceCtorEq, Nat.reduceMul, Int.reduceToNat, Nat.reduceShiftRight, Nat.reduceMod, Nat.reducePow, Nat.reduceOr, Nat.reduceAnd, smE, s1, s2, s3]
  refine aops_orunN 4 _ _ ?_
  simp only [q0, kz, kv, rwR, enR, csR, tyf, Nat.reduceBEq, reduceIte, Nat.reduceEqDiff, Nat.reduceAdd, Nat.reduceLeDiff, reduceCtorEq, Nat.reduceMul, Int.reduceToNat, Nat.reduceShiftRight, Nat.reduceMod, Nat.reducePow, Nat.reduceOr, Nat.reduceAnd, smE, s1, s2, s3]
  try simp (disch := omega) only [wr_id]
  refine aops_call (at_fun _ _ ?s6_0 ?s6_1) rfl rfl rfl rfl (by (try simp only [q0, kz, kv, rwR, enR, csR, tyf, Nat.reduceBEq, reduceIte, Nat.reduceEqDiff, Nat.reduceAdd, Nat.reduceLeDiff, reduceCtorEq, Nat.reduceMul, Int.reduceToNat, Nat.reduceShiftRight, Nat.reduceMod, Nat.reducePow, Nat.reduceOr, Nat.reduceAnd, smE, s1, s2, s3]); (repeat' (first | exact .nil | exact wk_c | exact wk_ownc | exact wk_nilsc | exact wk_nils | exact wk_fn | refine .cons ?_ ?_ | refine wk_agg ?_ | refine wk_fnL ?_))) rfl rfl ?m6
  case s6_0 => omega
  case s6_1 => omega
  simp only [q0, kz, kv, rwR, enR, csR, tyf, Nat.reduceBEq, reduceIte, Nat.reduceEqDiff, Nat.reduceAdd, Nat.reduceLeDiff, reduceCtorEq, Nat.reduceMul, Int.reduceToNat, Nat.reduceShiftRight, Nat.reduceMod, Nat.reducePow, Nat.reduceOr, Nat.reduceAnd, smE, s1, s2, s3]
  refine aops_orunN 2 _ _ ?_
  simp only [q0, kz, kv, rwR, enR, csR, tyf, Nat.reduceBEq, reduceIte, Nat.reduceEqDiff, Nat.reduceAdd, Nat.reduceLeDiff, reduceCtorEq, Nat.reduceMul, Int.reduceToNat, Nat.reduceShiftRight, Nat.reduceMod, Nat.reducePow, Nat.reduceOr, Nat.reduceAnd, smE, s1, s2, s3]
  refine aops_nil (hL4 _ ?_)
  simp only [q0, kz, kv, rwR, enR, csR, tyf, Nat.reduceBEq, reduceIte, Nat.reduceEqDiff, Nat.reduceAdd, Nat.reduceLeDiff, reduceCtorEq, Nat.reduceMul, Int.reduceToNat, Nat.reduceShiftRight, Nat.reduceMod, Nat.reducePow, Nat.reduceOr, Nat.reduceAnd, smE, s1, s2, s3]
  try simp only [rk_state]
  refine hK3 _ ?_
  refine awp_seq_k fun K7 hK7 => ?_
  refine awp_region_lit fun L8 hL8 => ?_
  refine aops_orunN 8 _ _ ?_
  simp only [q0, kz, kv, rwR, enR, csR, tyf, Nat.reduceBEq, reduceIte, Nat.reduceEqDiff, Nat.reduceAdd, Nat.reduceLeDiff, reduceCtorEq, Nat.reduceMul, Int.reduceToNat, Nat.reduceShiftRight, Nat.reduceMod, Nat.reducePow, Nat.reduceOr, Nat.reduceAnd, smE, s1, s2, s3]
  refine aops_nil (hL8 _ ?_)
  simp only [q0, kz, kv, rwR, enR, csR, tyf, Nat.reduceBEq, reduceIte, Nat.reduceEqDiff, Nat.reduceAdd, Nat.reduceLeDiff, reduceCtorEq, Nat.reduceMul, Int.reduceToNat, Nat.reduceShiftRight, Nat.reduceMod, Nat.reducePow, Nat.reduceOr, Nat.reduceAnd, smE, s1, s2, s3]
  try simp only [rk_state]
  refine hK7 _ ?_
  refine awp_seq_k fun K9 hK9 => ?_
  refine awp_region_dr (by decide +kernel) fun L10 hL10 => ?_
  refine aops_orunN 2 _ _ ?_
  simp only [q0, kz, kv, rwR, enR, csR, tyf, Nat.reduceBEq, reduceIte, Nat.reduceEqDiff, Nat.reduceAdd, Nat.reduceLeDiff, reduceCtorEq, Nat.reduceMul, Int.reduceToNat, Nat.reduceShiftRight, Nat.reduceMod, Nat.reducePow, Nat.reduceOr, Nat.reduceAnd, smE, s1, s2, s3]
  refine aops_val (v := ?v11) rfl ?h11 ?_
  case h11 => simp only [q0, kz, kv, rwR, enR, csR, tyf, Nat.reduceBEq, reduceIte, Nat.reduceEqDiff, Nat.reduceAdd, Nat.reduceLeDiff, reduceCtorEq, Nat.reduceMul, Int.reduceToNat, Nat.reduceShiftRight, Nat.reduceMod, Nat.reducePow, Nat.reduceOr, Nat.reduceAnd, smE, s1, s2, s3]; first | (rw [slc_h un22 if34] <;> omega) | (rw [slc_ho un22 if34] <;> omega)
  simp only [q0, kz, kv, rwR, enR, csR, tyf, Nat.reduceBEq, reduceIte, Nat.reduceEqDiff, Nat.reduceAdd, Nat.reduceLeDiff, reduceCtorEq, Nat.reduceMul, Int.reduceToNat, Nat.reduceShiftRight, Nat.reduceMod, Nat.reducePow, Nat.reduceOr, Nat.reduceAnd, smE, s1, s2, s3]
  refine aops_call (of_fun _ ?s12_0) rfl rfl rfl rfl (by (try simp only [q0, kz, kv, rwR, enR, csR, tyf, Nat.reduceBEq, reduceIte, Nat.reduceEqDiff, Nat.reduceAdd, Nat.reduceLeDiff, reduceCtorEq, Nat.reduceMul, Int.reduceToNat, Nat.reduceShiftRight, Nat.reduceMod, Nat.reducePow, Nat.reduceOr, Nat.reduceAnd, smE, s1, s2, s3]); (repeat' (first | exact .nil | exact wk_c | exact wk_ownc | exact wk_nilsc | exact wk_nils | exact wk_fn | refine .cons ?_ ?_ | refine wk_agg ?_ | refine wk_fnL ?_))) rfl rfl ?m12
  case s12_0 => first | assumption | decide +kernel | (simp only [List.length_take, List.length_drop]; omega)
  simp only [q0, kz, kv, rwR, enR, csR, tyf, Nat.reduceBEq, reduceIte, Nat.reduceEqDiff, Nat.reduceAdd, Nat.reduceLeDiff, reduceCtorEq, Nat.reduceMul, Int.reduceToNat, Nat.reduceShiftRight, Nat.reduceMod, Nat.reducePow, Nat.reduceOr, Nat.reduceAnd, avR, smE, s1, s2, s3]
  refine aops_orunN 3 _ _ ?_
  simp only [q0, kz, kv, rwR, enR, csR, tyf, Nat.reduceBEq, reduceIte, Nat.reduceEqDiff, Nat.reduceAdd, Nat.reduceLeDiff, reduceCtorEq, Nat.reduceMul, Int.reduceToNat, Nat.reduceShiftRight, Nat.reduceMod, Nat.reducePow, Nat.reduceOr, Nat.reduceAnd, smE, s1, s2, s3]
  refine aops_val (v := ?v13) rfl ?h13 ?_
  case h13 => simp only [q0, kz, kv, rwR, enR, csR, tyf, Nat.reduceBEq, reduceIte, Nat.reduceEqDiff, Nat.reduceAdd, Nat.reduceLeDiff, reduceCtorEq, Nat.reduceMul, Int.reduceToNat, Nat.reduceShiftRight, Nat.reduceMod, Nat.reducePow, Nat.reduceOr, Nat.reduceAnd, smE, s1, s2, s3]; first | (rw [slc_lh un22 if34] <;> omega) | (rw [slc_lho un22 if34] <;> omega)
  simp only [q0, kz, kv, rwR, enR, csR, tyf, Nat.reduceBEq, reduceIte, Nat.reduceEqDiff, Nat.reduceAdd, Nat.reduceLeDiff, reduceCtorEq, Nat.reduceMul, Int.reduceToNat, Nat.reduceShiftRight, Nat.reduceMod, Nat.reducePow, Nat.reduceOr, Nat.reduceAnd, smE, s1, s2, s3]
  refine aops_call (of_fun _ ?s14_0) rfl rfl rfl rfl (by (try simp only [q0, kz, kv, rwR, enR, csR, tyf, Nat.reduceBEq, reduceIte, Nat.reduceEqDiff, Nat.reduceAdd, Nat.reduceLeDiff, reduceCtorEq, Nat.reduceMul, Int.reduceToNat, Nat.reduceShiftRight, Nat.reduceMod, Nat.reducePow, Nat.reduceOr, Nat.reduceAnd, smE, s1, s2, s3]); (repeat' (first | exact .nil | exact wk_c | exact wk_ownc | exact wk_nilsc | exact wk_nils | exact wk_fn | refine .cons ?_ ?_ | refine wk_agg ?_ | refine wk_fnL ?_))) rfl rfl ?m14
  case s14_0 => first | assumption | decide +kernel | (simp only [List.length_take, List.length_drop]; omega)
  simp only [q0, kz, kv, rwR, enR, csR, tyf, Nat.reduceBEq, reduceIte, Nat.reduceEqDiff, Nat.reduceAdd, Nat.reduceLeDiff, reduceCtorEq, Nat.reduceMul, Int.reduceToNat, Nat.reduceShiftRight, Nat.reduceMod, Nat.reducePow, Nat.reduceOr, Nat.reduceAnd, avR, smE, s1, s2, s3]
  refine aops_orunN 2 _ _ ?_
  simp only [q0, kz, kv, rwR, enR, csR, tyf, Nat.reduceBEq, reduceIte, Nat.reduceEqDiff, Nat.reduceAdd, Nat.reduceLeDiff, reduceCtorEq, Nat.reduceMul, Int.reduceToNat, Nat.reduceShiftRight, Nat.reduceMod, Nat.reducePow, Nat.reduceOr, Nat.reduceAnd, smE, s1, s2, s3]
  refine aops_val (v := ?v15) rfl ?h15 ?_
  case h15 => simp only [q0, kz, kv, rwR, enR, csR, tyf, Nat.reduceBEq, reduceIte, Nat.reduceEqDiff, Nat.reduceAdd, Nat.reduceLeDiff, reduceCtorEq, Nat.reduceMul, Int.reduceToNat, Nat.reduceShiftRight, Nat.reduceMod, Nat.reducePow, Nat.reduceOr, Nat.reduceAnd, smE, s1, s2, s3]; first | (rw [slc_l un22 if34] <;> omega) | (rw [slc_lo un22 if34] <;> omega)
  simp only [q0, kz, kv, rwR, enR, csR, tyf, Nat.reduceBEq, reduceIte, Nat.reduceEqDiff, Nat.reduceAdd, Nat.reduceLeDiff, reduceCtorEq, Nat.reduceMul, Int.reduceToNat, Nat.reduceShiftRight, Nat.reduceMod, Nat.reducePow, Nat.reduceOr, Nat.reduceAnd, smE, s1, s2, s3]
  refine aops_call (of_fun _ ?s16_0) rfl rfl rfl rfl (by (try simp only [q0, kz, kv, rwR, enR, csR, tyf, Nat.reduceBEq, reduceIte, Nat.reduceEqDiff, Nat.reduceAdd, Nat.reduceLeDiff, reduceCtorEq, Nat.reduceMul, Int.reduceToNat, Nat.reduceShiftRight, Nat.reduceMod, Nat.reducePow, Nat.reduceOr, Nat.reduceAnd, smE, s1, s2, s3]); (repeat' (first | exact .nil | exact wk_c | exact wk_ownc | exact wk_nilsc | exact wk_nils | exact wk_fn | refine .cons ?_ ?_ | refine wk_agg ?_ | refine wk_fnL ?_))) rfl rfl ?m16
  case s16_0 => first | assumption | decide +kernel | (simp only [List.length_take, List.length_drop]; omega)
  simp only [q0, kz, kv, rwR, enR, csR, tyf, Nat.reduceBEq, reduceIte, Nat.reduceEqDiff, Nat.reduceAdd, Nat.reduceLeDiff, reduceCtorEq, Nat.reduceMul, Int.reduceToNat, Nat.reduceShiftRight, Nat.reduceMod, Nat.reducePow, Nat.reduceOr, Nat.reduceAnd, avR, smE, s1, s2, s3]
  refine aops_orunN 6 _ _ ?_
  simp only [q0, kz, kv, rwR, enR, csR, tyf, Nat.reduceBEq, reduceIte, Nat.reduceEqDiff, Nat.reduceAdd, Nat.reduceLeDiff, reduceCtorEq, Nat.reduceMul, Int.reduceToNat, Nat.reduceShiftRight, Nat.reduceMod, Nat.reducePow, Nat.reduceOr, Nat.reduceAnd, smE, s1, s2, s3]
  refine aops_nil (hL10 _ ?_)
  simp only [q0, kz, kv, rwR, enR, csR, tyf, Nat.reduceBEq, reduceIte, Nat.reduceEqDiff, Nat.reduceAdd, Nat.reduceLeDiff, reduceCtorEq, Nat.reduceMul, Int.reduceToNat, Nat.reduceShiftRight, Nat.reduceMod, Nat.reducePow, Nat.reduceOr, Nat.reduceAnd, smE, s1, s2, s3]
  try simp only [rk_state]
  refine hK9 _ ?_
  refine awp_seq_k fun K17 hK17 => ?_
  refine awp_region_lit fun L18 hL18 => ?_
  refine aops_orunN 1 _ _ ?_
  simp only [q0, kz, kv, rwR, enR, csR, tyf, Nat.reduceBEq, reduceIte, Nat.reduceEqDiff, Nat.reduceAdd, Nat.reduceLeDiff, reduceCtorEq, Nat.reduceMul, Int.reduceToNat, Nat.reduceShiftRight, Nat.reduceMod, Nat.reducePow, Nat.reduceOr, Nat.reduceAnd, smE, s1, s2, s3]
  refine aops_call (of_fun _ ?s19_0) rfl rfl rfl rfl (by (try simp only [q0, kz, kv, rwR, enR, csR, tyf, Nat.reduceBEq, reduceIte, Nat.reduceEqDiff, Nat.reduceAdd, Nat.reduceLeDiff, reduceCtorEq, Nat.reduceMul, Int.reduceToNat, Nat.reduceShiftRight, Nat.reduceMod, Nat.reducePow, Nat.reduceOr, Nat.reduceAnd, smE, s1, s2, s3]); (repeat' (first | exact .nil | exact wk_c | exact wk_ownc | exact wk_nilsc | exact wk_nils | exact wk_fn | refine .cons ?_ ?_ | refine wk_agg ?_ | refine wk_fnL ?_))) rfl rfl ?m19
  case s19_0 => first | assumption | decide +kernel | (simp only [List.length_take, List.length_drop]; omega)
  simp only [q0, kz, kv, rwR, enR, csR, tyf, Nat.reduceBEq, reduceIte, Nat.reduceEqDiff, Nat.reduceAdd, Nat.reduceLeDiff, reduceCtorEq, Nat.reduceMul, Int.reduceToNat, Nat.reduceShiftRight, Nat.reduceMod, Nat.reducePow, Nat.reduceOr, Nat.reduceAnd, avR, smE, s1, s2, s3]
  refine aops_orunN 2 _ _ ?_
  simp only [q0, kz, kv, rwR, enR, csR, tyf, Nat.reduceBEq, reduceIte, Nat.reduceEqDiff, Nat.reduceAdd, Nat.reduceLeDiff, reduceCtorEq, Nat.reduceMul, Int.reduceToNat, Nat.reduceShiftRight, Nat.reduceMod, Nat.reducePow, Nat.reduceOr, Nat.reduceAnd, smE, s1, s2, s3]
  refine aops_nil (hL18 _ ?_)
  simp only [q0, kz, kv, rwR, enR, csR, tyf, Nat.reduceBEq, reduceIte, Nat.reduceEqDiff, Nat.reduceAdd, Nat.reduceLeDiff, reduceCtorEq, Nat.reduceMul, Int.reduceToNat, Nat.reduceShiftRight, Nat.reduceMod, Nat.reducePow, Nat.reduceOr, Nat.reduceAnd, smE, s1, s2, s3]
  try simp only [rk_state]
  refine hK17 _ ?_
  refine awp_seq_k fun K20 hK20 => ?_
  refine awp_region_dr (by decide +kernel) fun L21 hL21 => ?_
  refine aops_call added_fun rfl rfl rfl rfl (by (try simp only [q0, kz, kv, rwR, enR, csR, tyf, Nat.reduceBEq, reduceIte, Nat.reduceEqDiff, Nat.reduceAdd, Nat.reduceLeDiff, reduceCtorEq, Nat.reduceMul, Int.reduceToNat, Nat.reduceShiftRight, Nat.reduceMod, Nat.reducePow, Nat.reduceOr, Nat.reduceAnd, smE, s1, s2, s3]); (repeat' (first | exact .nil | exact wk_c | exact wk_ownc | exact wk_nilsc | exact wk_nils | exact wk_fn | refine .cons ?_ ?_ | refine wk_agg ?_ | refine wk_fnL ?_))) rfl rfl ?_
  simp only [q0, kz, kv, rwR, enR, csR, tyf, Nat.reduceBEq, reduceIte, Nat.reduceEqDiff, Nat.reduceAdd, Nat.reduceLeDiff, reduceCtorEq, Nat.reduceMul, Int.reduceToNat, Nat.reduceShiftRight, Nat.reduceMod, Nat.reducePow, Nat.reduceOr, Nat.reduceAnd, smE, s1, s2, s3]
  refine aops_orunN 1 _ _ ?_
  simp only [q0, kz, kv, rwR, enR, csR, tyf, Nat.reduceBEq, reduceIte, Nat.reduceEqDiff, Nat.reduceAdd, Nat.reduceLeDiff, reduceCtorEq, Nat.reduceMul, Int.reduceToNat, Nat.reduceShiftRight, Nat.reduceMod, Nat.reducePow, Nat.reduceOr, Nat.reduceAnd, smE, s1, s2, s3]
  refine aops_part (b := ?p23) 43 ?h23 (fun hb23 => ?a23) (fun hb23 => ?b23)
  case h23 => simp only [q0, kz, kv, rwR, enR, csR, tyf, Nat.reduceBEq, reduceIte, Nat.reduceEqDiff, Nat.reduceAdd, Nat.reduceLeDiff, reduceCtorEq, Nat.reduceMul, Int.reduceToNat, Nat.reduceShiftRight, Nat.reduceMod, Nat.reducePow, Nat.reduceOr, Nat.reduceAnd, smE, s1, s2, s3]; rfl
  case a23 =>
    have hp23 := hb23
    try simp only [kb] at hp23
    all_goals try exact absurd hb23 (by decide)
    all_goals try (exfalso; omega)
    all_goals
      try simp only [hb23]
      refine aops_orunN 2 _ _ ?_
      simp only [q0, kz, kv, rwR, enR, csR, tyf, Nat.reduceBEq, reduceIte, Nat.reduceEqDiff, Nat.reduceAdd, Nat.reduceLeDiff, reduceCtorEq, Nat.reduceMul, Int.reduceToNat, Nat.reduceShiftRight, Nat.reduceMod, Nat.reducePow, Nat.reduceOr, Nat.reduceAnd, smE, s1, s2, s3, hb23]
      refine aops_call (join_fun _ _ _ _ _ _ _ _) (by simp only [q0, kz, kv, rwR, enR, csR, tyf, Nat.reduceBEq, reduceIte, Nat.reduceEqDiff, Nat.reduceAdd, Nat.reduceLeDiff, reduceCtorEq, Nat.reduceMul, Int.reduceToNat, Nat.reduceShiftRight, Nat.reduceMod, Nat.reducePow, Nat.reduceOr, Nat.reduceAnd, smE, s1, s2, s3, hb23]) rfl rfl rfl (by (try simp only [q0, kz, kv, rwR, enR, csR, tyf, Nat.reduceBEq, reduceIte, Nat.reduceEqDiff, Nat.reduceAdd, Nat.reduceLeDiff, reduceCtorEq, Nat.reduceMul, Int.reduceToNat, Nat.reduceShiftRight, Nat.reduceMod, Nat.reducePow, Nat.reduceOr, Nat.reduceAnd, smE, s1, s2, s3, hb23]); (repeat' (first | exact .nil | exact wk_c | exact wk_ownc | exact wk_nilsc | exact wk_nils | exact wk_fn | refine .cons ?_ ?_ | refine wk_agg ?_ | refine wk_fnL ?_))) rfl rfl ?_
      simp only [q0, kz, kv, rwR, enR, csR, tyf, Nat.reduceBEq, reduceIte, Nat.reduceEqDiff, Nat.reduceAdd, Nat.reduceLeDiff, reduceCtorEq, Nat.reduceMul, Int.reduceToNat, Nat.reduceShiftRight, Nat.reduceMod, Nat.reducePow, Nat.reduceOr, Nat.reduceAnd, avR, smE, s1, s2, s3, hb23]
      refine aops_orunN 1 _ _ ?_
      simp only [q0, kz, kv, rwR, enR, csR, tyf, Nat.reduceBEq, reduceIte, Nat.reduceEqDiff, Nat.reduceAdd, Nat.reduceLeDiff, reduceCtorEq, Nat.reduceMul, Int.reduceToNat, Nat.reduceShiftRight, Nat.reduceMod, Nat.reducePow, Nat.reduceOr, Nat.reduceAnd, smE, s1, s2, s3, hb23]
      refine aops_call (join_fun _ _ _ _ _ _ _ _) (by simp only [q0, kz, kv, rwR, enR, csR, tyf, Nat.reduceBEq, reduceIte, Nat.reduceEqDiff, Nat.reduceAdd, Nat.reduceLeDiff, reduceCtorEq, Nat.reduceMul, Int.reduceToNat, Nat.reduceShiftRight, Nat.reduceMod, Nat.reducePow, Nat.reduceOr, Nat.reduceAnd, smE, s1, s2, s3, hb23]) rfl rfl rfl (by (try simp only [q0, kz, kv, rwR, enR, csR, tyf, Nat.reduceBEq, reduceIte, Nat.reduceEqDiff, Nat.reduceAdd, Nat.reduceLeDiff, reduceCtorEq, Nat.reduceMul, Int.reduceToNat, Nat.reduceShiftRight, Nat.reduceMod, Nat.reducePow, Nat.reduceOr, Nat.reduceAnd, smE, s1, s2, s3, hb23]); (repeat' (first | exact .nil | exact wk_c | exact wk_ownc | exact wk_nilsc | exact wk_nils | exact wk_fn | refine .cons ?_ ?_ | refine wk_agg ?_ | refine wk_fnL ?_))) rfl rfl ?_
      simp only [q0, kz, kv, rwR, enR, csR, tyf, Nat.reduceBEq, reduceIte, Nat.reduceEqDiff, Nat.reduceAdd, Nat.reduceLeDiff, reduceCtorEq, Nat.reduceMul, Int.reduceToNat, Nat.reduceShiftRight, Nat.reduceMod, Nat.reducePow, Nat.reduceOr, Nat.reduceAnd, avR, smE, s1, s2, s3, hb23]
      refine aops_orunN 1 _ _ ?_
      simp only [q0, kz, kv, rwR, enR, csR, tyf, Nat.reduceBEq, reduceIte, Nat.reduceEqDiff, Nat.reduceAdd, Nat.reduceLeDiff, reduceCtorEq, Nat.reduceMul, Int.reduceToNat, Nat.reduceShiftRight, Nat.reduceMod, Nat.reducePow, Nat.reduceOr, Nat.reduceAnd, smE, s1, s2, s3, hb23]
      refine aops_eq (xs := ?xs26) (ys := ?ys26) eqi24 (by simp only [q0, kz, kv, rwR, enR, csR, tyf, Nat.reduceBEq, reduceIte, Nat.reduceEqDiff, Nat.reduceAdd, Nat.reduceLeDiff, reduceCtorEq, Nat.reduceMul, Int.reduceToNat, Nat.reduceShiftRight, Nat.reduceMod, Nat.reducePow, Nat.reduceOr, Nat.reduceAnd, smE, s1, s2, s3, hb23]) rfl (by decide) ?hx26 ?hy26 ?hn26 ?hm26 ?hh26
      case hx26 => simp only [q0, kz, kv, rwR, enR, csR, tyf, Nat.reduceBEq, reduceIte, Nat.reduceEqDiff, Nat.reduceAdd, Nat.reduceLeDiff, reduceCtorEq, Nat.reduceMul, Int.reduceToNat, Nat.reduceShiftRight, Nat.reduceMod, Nat.reducePow, Nat.reduceOr, Nat.reduceAnd, AV.ints, intsOf, smE, s1, s2, s3, hb23]; rfl
      case hy26 => simp only [q0, kz, kv, rwR, enR, csR, tyf, Nat.reduceBEq, reduceIte, Nat.reduceEqDiff, Nat.reduceAdd, Nat.reduceLeDiff, reduceCtorEq, Nat.reduceMul, Int.reduceToNat, Nat.reduceShiftRight, Nat.reduceMod, Nat.reducePow, Nat.reduceOr, Nat.reduceAnd, AV.ints, intsOf, smE, s1, s2, s3, hb23]; rfl
      case hn26 => rfl
      case hm26 => rfl
      simp only [q0, kz, kv, rwR, enR, csR, tyf, Nat.reduceBEq, reduceIte, Nat.reduceEqDiff, Nat.reduceAdd, Nat.reduceLeDiff, reduceCtorEq, Nat.reduceMul, Int.reduceToNat, Nat.reduceShiftRight, Nat.reduceMod, Nat.reducePow, Nat.reduceOr, Nat.reduceAnd, smE, s1, s2, s3, hb23]
      refine aops_orunN 2 _ _ ?_
      simp only [q0, kz, kv, rwR, enR, csR, tyf, Nat.reduceBEq, reduceIte, Nat.reduceEqDiff, Nat.reduceAdd, Nat.reduceLeDiff, reduceCtorEq, Nat.reduceMul, Int.reduceToNat, Nat.reduceShiftRight, Nat.reduceMod, Nat.reducePow, Nat.reduceOr, Nat.reduceAnd, smE, s1, s2, s3, hb23]
      refine aops_part (b := ?p27) 52 ?h27 (fun hb27 => ?a27) (fun hb27 => ?b27)
      case h27 => simp only [q0, kz, kv, rwR, enR, csR, tyf, Nat.reduceBEq, reduceIte, Nat.reduceEqDiff, Nat.reduceAdd, Nat.reduceLeDiff, reduceCtorEq, Nat.reduceMul, Int.reduceToNat, Nat.reduceShiftRight, Nat.reduceMod, Nat.reducePow, Nat.reduceOr, Nat.reduceAnd, smE, s1, s2, s3, hb23]; rfl
      case a27 =>
        have hp27 := hb27
        try simp only [kb] at hp27
        all_goals try exact absurd hb27 (by decide)
        all_goals try (exfalso; omega)
        all_goals
          try simp only [hb27]
          refine aops_orunN 3 _ _ ?_
          simp only [q0, kz, kv, rwR, enR, csR, tyf, Nat.reduceBEq, reduceIte, Nat.reduceEqDiff, Nat.reduceAdd, Nat.reduceLeDiff, reduceCtorEq, Nat.reduceMul, Int.reduceToNat, Nat.reduceShiftRight, Nat.reduceMod, Nat.reducePow, Nat.reduceOr, Nat.reduceAnd, smE, s1, s2, s3, hb23, hb27]
          refine aops_call (join_fun _ _ _ _ _ _ _ _) (by simp only [q0, kz, kv, rwR, enR, csR, tyf, Nat.reduceBEq, reduceIte, Nat.reduceEqDiff, Nat.reduceAdd, Nat.reduceLeDiff, reduceCtorEq, Nat.reduceMul, Int.reduceToNat, Nat.reduceShiftRight, Nat.reduceMod, Nat.reducePow, Nat.reduceOr, Nat.reduceAnd, smE, s1, s2, s3, hb23, hb27]) rfl rfl rfl (by (try simp only [q0, kz, kv, rwR, enR, csR, tyf, Nat.reduceBEq, reduceIte, Nat.reduceEqDiff, Nat.reduceAdd, Nat.reduceLeDiff, reduceCtorEq, Nat.reduceMul, Int.reduceToNat, Nat.reduceShiftRight, Nat.reduceMod, Nat.reducePow, Nat.reduceOr, Nat.reduceAnd, smE, s1, s2, s3, hb23, hb27]); (repeat' (first | exact .nil | exact wk_c | exact wk_ownc | exact wk_nilsc | exact wk_nils | exact wk_fn | refine .cons ?_ ?_ | refine wk_agg ?_ | refine wk_fnL ?_))) rfl rfl ?_
          simp only [q0, kz, kv, rwR, enR, csR, tyf, Nat.reduceBEq, reduceIte, Nat.reduceEqDiff, Nat.reduceAdd, Nat.reduceLeDiff, reduceCtorEq, Nat.reduceMul, Int.reduceToNat, Nat.reduceShiftRight, Nat.reduceMod, Nat.reducePow, Nat.reduceOr, Nat.reduceAnd, avR, smE, s1, s2, s3, hb23, hb27]
          refine aops_call (join_fun _ _ _ _ _ _ _ _) (by simp only [q0, kz, kv, rwR, enR, csR, tyf, Nat.reduceBEq, reduceIte, Nat.reduceEqDiff, Nat.reduceAdd, Nat.reduceLeDiff, reduceCtorEq, Nat.reduceMul, Int.reduceToNat, Nat.reduceShiftRight, Nat.reduceMod, Nat.reducePow, Nat.reduceOr, Nat.reduceAnd, smE, s1, s2, s3, hb23, hb27]) rfl rfl rfl (by (try simp only [q0, kz, kv, rwR, enR, csR, tyf, Nat.reduceBEq, reduceIte, Nat.reduceEqDiff, Nat.reduceAdd, Nat.reduceLeDiff, reduceCtorEq, Nat.reduceMul, Int.reduceToNat, Nat.reduceShiftRight, Nat.reduceMod, Nat.reducePow, Nat.reduceOr, Nat.reduceAnd, smE, s1, s2, s3, hb23, hb27]); (repeat' (first | exact .nil | exact wk_c | exact wk_ownc | exact wk_nilsc | exact wk_nils | exact wk_fn | refine .cons ?_ ?_ | refine wk_agg ?_ | refine wk_fnL ?_))) rfl rfl ?_
          simp only [q0, kz, kv, rwR, enR, csR, tyf, Nat.reduceBEq, reduceIte, Nat.reduceEqDiff, Nat.reduceAdd, Nat.reduceLeDiff, reduceCtorEq, Nat.reduceMul, Int.reduceToNat, Nat.reduceShiftRight, Nat.reduceMod, Nat.reducePow, Nat.reduceOr, Nat.reduceAnd, avR, smE, s1, s2, s3, hb23, hb27]
          refine aops_orunN 1 _ _ ?_
          simp only [q0, kz, kv, rwR, enR, csR, tyf, Nat.reduceBEq, reduceIte, Nat.reduceEqDiff, Nat.reduceAdd, Nat.reduceLeDiff, reduceCtorEq, Nat.reduceMul, Int.reduceToNat, Nat.reduceShiftRight, Nat.reduceMod, Nat.reducePow, Nat.reduceOr, Nat.reduceAnd, smE, s1, s2, s3, hb23, hb27]
          refine aops_eq (xs := ?xs30) (ys := ?ys30) eqi24 (by simp only [q0, kz, kv, rwR, enR, csR, tyf, Nat.reduceBEq, reduceIte, Nat.reduceEqDiff, Nat.reduceAdd, Nat.reduceLeDiff, reduceCtorEq, Nat.reduceMul, Int.reduceToNat, Nat.reduceShiftRight, Nat.reduceMod, Nat.reducePow, Nat.reduceOr, Nat.reduceAnd, smE, s1, s2, s3, hb23, hb27]) rfl (by decide) ?hx30 ?hy30 ?hn30 ?hm30 ?hh30
          case hx30 => simp only [q0, kz, kv, rwR, enR, csR, tyf, Nat.reduceBEq, reduceIte, Nat.reduceEqDiff, Nat.reduceAdd, Nat.reduceLeDiff, reduceCtorEq, Nat.reduceMul, Int.reduceToNat, Nat.reduceShiftRight, Nat.reduceMod, Nat.reducePow, Nat.reduceOr, Nat.reduceAnd, AV.ints, intsOf, smE, s1, s2, s3, hb23, hb27]; rfl
          case hy30 => simp only [q0, kz, kv, rwR, enR, csR, tyf, Nat.reduceBEq, reduceIte, Nat.reduceEqDiff, Nat.reduceAdd, Nat.reduceLeDiff, reduceCtorEq, Nat.reduceMul, Int.reduceToNat, Nat.reduceShiftRight, Nat.reduceMod, Nat.reducePow, Nat.reduceOr, Nat.reduceAnd, AV.ints, intsOf, smE, s1, s2, s3, hb23, hb27]; rfl
          case hn30 => rfl
          case hm30 => rfl
          simp only [q0, kz, kv, rwR, enR, csR, tyf, Nat.reduceBEq, reduceIte, Nat.reduceEqDiff, Nat.reduceAdd, Nat.reduceLeDiff, reduceCtorEq, Nat.reduceMul, Int.reduceToNat, Nat.reduceShiftRight, Nat.reduceMod, Nat.reducePow, Nat.reduceOr, Nat.reduceAnd, smE, s1, s2, s3, hb23, hb27]
          refine aops_orunN 2 _ _ ?_
          simp only [q0, kz, kv, rwR, enR, csR, tyf, Nat.reduceBEq, reduceIte, Nat.reduceEqDiff, Nat.reduceAdd, Nat.reduceLeDiff, reduceCtorEq, Nat.reduceMul, Int.reduceToNat, Nat.reduceShiftRight, Nat.reduceMod, Nat.reducePow, Nat.reduceOr, Nat.reduceAnd, smE, s1, s2, s3, hb23, hb27]
          refine aops_part (b := ?p31) 61 ?h31 (fun hb31 => ?a31) (fun hb31 => ?b31)
          case h31 => simp only [q0, kz, kv, rwR, enR, csR, tyf, Nat.reduceBEq, reduceIte, Nat.reduceEqDiff, Nat.reduceAdd, Nat.reduceLeDiff, reduceCtorEq, Nat.reduceMul, Int.reduceToNat, Nat.reduceShiftRight, Nat.reduceMod, Nat.reducePow, Nat.reduceOr, Nat.reduceAnd, smE, s1, s2, s3, hb23, hb27]; rfl
          case a31 =>
            have hp31 := hb31
            try simp only [kb] at hp31
            all_goals try exact absurd hb31 (by decide)
            all_goals try (exfalso; omega)
            all_goals
              try simp only [hb31]
              refine aops_orunN 3 _ _ ?_
              simp only [q0, kz, kv, rwR, enR, csR, tyf, Nat.reduceBEq, reduceIte, Nat.reduceEqDiff, Nat.reduceAdd, Nat.reduceLeDiff, reduceCtorEq, Nat.reduceMul, Int.reduceToNat, Nat.reduceShiftRight, Nat.reduceMod, Nat.reducePow, Nat.reduceOr, Nat.reduceAnd, smE, s1, s2, s3, hb23, hb27, hb31]
              refine aops_call (join_fun _ _ _ _ _ _ _ _) (by simp only [q0, kz, kv, rwR, enR, csR, tyf, Nat.reduceBEq, reduceIte, Nat.reduceEqDiff, Nat.reduceAdd, Nat.reduceLeDiff, reduceCtorEq, Nat.reduceMul, Int.reduceToNat, Nat.reduceShiftRight, Nat.reduceMod, Nat.reducePow, Nat.reduceOr, Nat.reduceAnd, smE, s1, s2, s3, hb23, hb27, hb31]) rfl rfl rfl (by (try simp only [q0, kz, kv, rwR, enR, csR, tyf, Nat.reduceBEq, reduceIte, Nat.reduceEqDiff, Nat.reduceAdd, Nat.reduceLeDiff, reduceCtorEq, Nat.reduceMul, Int.reduceToNat, Nat.reduceShiftRight, Nat.reduceMod, Nat.reducePow, Nat.reduceOr, Nat.reduceAnd, smE, s1, s2, s3, hb23, hb27, hb31]); (repeat' (first | exact .nil | exact wk_c | exact wk_ownc | exact wk_nilsc | exact wk_nils | exact wk_fn | refine .cons ?_ ?_ | refine wk_agg ?_ | refine wk_fnL ?_))) rfl rfl ?_
              simp only [q0, kz, kv, rwR, enR, csR, tyf, Nat.reduceBEq, reduceIte, Nat.reduceEqDiff, Nat.reduceAdd, Nat.reduceLeDiff, reduceCtorEq, Nat.reduceMul, Int.reduceToNat, Nat.reduceShiftRight, Nat.reduceMod, Nat.reducePow, Nat.reduceOr, Nat.reduceAnd, avR, smE, s1, s2, s3, hb23, hb27, hb31]
              refine aops_call (join_fun _ _ _ _ _ _ _ _) (by simp only [q0, kz, kv, rwR, enR, csR, tyf, Nat.reduceBEq, reduceIte, Nat.reduceEqDiff, Nat.reduceAdd, Nat.reduceLeDiff, reduceCtorEq, Nat.reduceMul, Int.reduceToNat, Nat.reduceShiftRight, Nat.reduceMod, Nat.reducePow, Nat.reduceOr, Nat.reduceAnd, smE, s1, s2, s3, hb23, hb27, hb31]) rfl rfl rfl (by (try simp only [q0, kz, kv, rwR, enR, csR, tyf, Nat.reduceBEq, reduceIte, Nat.reduceEqDiff, Nat.reduceAdd, Nat.reduceLeDiff, reduceCtorEq, Nat.reduceMul, Int.reduceToNat, Nat.reduceShiftRight, Nat.reduceMod, Nat.reducePow, Nat.reduceOr, Nat.reduceAnd, smE, s1, s2, s3, hb23, hb27, hb31]); (repeat' (first | exact .nil | exact wk_c | exact wk_ownc | exact wk_nilsc | exact wk_nils | exact wk_fn | refine .cons ?_ ?_ | refine wk_agg ?_ | refine wk_fnL ?_))) rfl rfl ?_
              simp only [q0, kz, kv, rwR, enR, csR, tyf, Nat.reduceBEq, reduceIte, Nat.reduceEqDiff, Nat.reduceAdd, Nat.reduceLeDiff, reduceCtorEq, Nat.reduceMul, Int.reduceToNat, Nat.reduceShiftRight, Nat.reduceMod, Nat.reducePow, Nat.reduceOr, Nat.reduceAnd, avR, smE, s1, s2, s3, hb23, hb27, hb31]
              refine aops_orunN 1 _ _ ?_
              simp only [q0, kz, kv, rwR, enR, csR, tyf, Nat.reduceBEq, reduceIte, Nat.reduceEqDiff, Nat.reduceAdd, Nat.reduceLeDiff, reduceCtorEq, Nat.reduceMul, Int.reduceToNat, Nat.reduceShiftRight, Nat.reduceMod, Nat.reducePow, Nat.reduceOr, Nat.reduceAnd, smE, s1, s2, s3, hb23, hb27, hb31]
              refine aops_eq (xs := ?xs34) (ys := ?ys34) eqi24 (by simp only [q0, kz, kv, rwR, enR, csR, tyf, Nat.reduceBEq, reduceIte, Nat.reduceEqDiff, Nat.reduceAdd, Nat.reduceLeDiff, reduceCtorEq, Nat.reduceMul, Int.reduceToNat, Nat.reduceShiftRight, Nat.reduceMod, Nat.reducePow, Nat.reduceOr, Nat.reduceAnd, smE, s1, s2, s3, hb23, hb27, hb31]) rfl (by decide) ?hx34 ?hy34 ?hn34 ?hm34 ?hh34
              case hx34 => simp only [q0, kz, kv, rwR, enR, csR, tyf, Nat.reduceBEq, reduceIte, Nat.reduceEqDiff, Nat.reduceAdd, Nat.reduceLeDiff, reduceCtorEq, Nat.reduceMul, Int.reduceToNat, Nat.reduceShiftRight, Nat.reduceMod, Nat.reducePow, Nat.reduceOr, Nat.reduceAnd, AV.ints, intsOf, smE, s1, s2, s3, hb23, hb27, hb31]; rfl
              case hy34 => simp only [q0, kz, kv, rwR, enR, csR, tyf, Nat.reduceBEq, reduceIte, Nat.reduceEqDiff, Nat.reduceAdd, Nat.reduceLeDiff, reduceCtorEq, Nat.reduceMul, Int.reduceToNat, Nat.reduceShiftRight, Nat.reduceMod, Nat.reducePow, Nat.reduceOr, Nat.reduceAnd, AV.ints, intsOf, smE, s1, s2, s3, hb23, hb27, hb31]; rfl
              case hn34 => rfl
              case hm34 => rfl
              simp only [q0, kz, kv, rwR, enR, csR, tyf, Nat.reduceBEq, reduceIte, Nat.reduceEqDiff, Nat.reduceAdd, Nat.reduceLeDiff, reduceCtorEq, Nat.reduceMul, Int.reduceToNat, Nat.reduceShiftRight, Nat.reduceMod, Nat.reducePow, Nat.reduceOr, Nat.reduceAnd, smE, s1, s2, s3, hb23, hb27, hb31]
              refine aops_orunN 2 _ _ ?_
              simp only [q0, kz, kv, rwR, enR, csR, tyf, Nat.reduceBEq, reduceIte, Nat.reduceEqDiff, Nat.reduceAdd, Nat.reduceLeDiff, reduceCtorEq, Nat.reduceMul, Int.reduceToNat, Nat.reduceShiftRight, Nat.reduceMod, Nat.reducePow, Nat.reduceOr, Nat.reduceAnd, smE, s1, s2, s3, hb23, hb27, hb31]
              refine aops_nil (hL21 _ ?_)
              simp only [q0, kz, kv, rwR, enR, csR, tyf, Nat.reduceBEq, reduceIte, Nat.reduceEqDiff, Nat.reduceAdd, Nat.reduceLeDiff, reduceCtorEq, Nat.reduceMul, Int.reduceToNat, Nat.reduceShiftRight, Nat.reduceMod, Nat.reducePow, Nat.reduceOr, Nat.reduceAnd, smE, s1, s2, s3, hb23, hb27, hb31]
              try simp only [rk_state]
              refine hK20 _ ?_
              refine awp_ret ?_
              try simp only [rk_state]
              refine ⟨_, 0, by simp only [q0, kz, kv, rwR, enR, csR, tyf, Nat.reduceBEq, reduceIte, Nat.reduceEqDiff, Nat.reduceAdd, Nat.reduceLeDiff, reduceCtorEq, Nat.reduceMul, Int.reduceToNat, Nat.reduceShiftRight, Nat.reduceMod, Nat.reducePow, Nat.reduceOr, Nat.reduceAnd, resA, Try.results4, smE, s1, s2, s3, hb23, hb27, hb31]; rfl, ?_, fun l hl => absurd rfl hl⟩
              simp only [packA]
              (repeat' (first | exact .nil | exact wkR_c | exact wkR_own | exact wkR_nils | refine wkR_int ?_ | refine wkR_bool ?_ | refine wkR_sl ?_ | refine wkR_osl ?_ | refine wkR_nsl ?_ | refine wkR_oo ?_ | refine wkR_no ?_ | refine .cons ?_ ?_ | refine wkR_agg ?_ | refine wkR_tup ?_))
          case b31 =>
            have hp31 := hb31
            try simp only [kb] at hp31
            all_goals try exact absurd hb31 (by decide)
            all_goals try (exfalso; omega)
            all_goals
              try simp only [hb31]
              refine aops_orunN 9 _ _ ?_
              simp only [q0, kz, kv, rwR, enR, csR, tyf, Nat.reduceBEq, reduceIte, Nat.reduceEqDiff, Nat.reduceAdd, Nat.reduceLeDiff, reduceCtorEq, Nat.reduceMul, Int.reduceToNat, Nat.reduceShiftRight, Nat.reduceMod, Nat.reducePow, Nat.reduceOr, Nat.reduceAnd, smE, s1, s2, s3, hb23, hb27, hb31]
              refine aops_nil (hL21 _ ?_)
              simp only [q0, kz, kv, rwR, enR, csR, tyf, Nat.reduceBEq, reduceIte, Nat.reduceEqDiff, Nat.reduceAdd, Nat.reduceLeDiff, reduceCtorEq, Nat.reduceMul, Int.reduceToNat, Nat.reduceShiftRight, Nat.reduceMod, Nat.reducePow, Nat.reduceOr, Nat.reduceAnd, smE, s1, s2, s3, hb23, hb27, hb31]
              try simp only [rk_state]
              refine hK20 _ ?_
              refine awp_ret ?_
              try simp only [rk_state]
              refine ⟨_, 0, by simp only [q0, kz, kv, rwR, enR, csR, tyf, Nat.reduceBEq, reduceIte, Nat.reduceEqDiff, Nat.reduceAdd, Nat.reduceLeDiff, reduceCtorEq, Nat.reduceMul, Int.reduceToNat, Nat.reduceShiftRight, Nat.reduceMod, Nat.reducePow, Nat.reduceOr, Nat.reduceAnd, resA, Try.results4, smE, s1, s2, s3, hb23, hb27, hb31]; rfl, ?_, fun l hl => absurd rfl hl⟩
              simp only [packA]
              (repeat' (first | exact .nil | exact wkR_c | exact wkR_own | exact wkR_nils | refine wkR_int ?_ | refine wkR_bool ?_ | refine wkR_sl ?_ | refine wkR_osl ?_ | refine wkR_nsl ?_ | refine wkR_oo ?_ | refine wkR_no ?_ | refine .cons ?_ ?_ | refine wkR_agg ?_ | refine wkR_tup ?_))
      case b27 =>
        have hp27 := hb27
        try simp only [kb] at hp27
        all_goals try exact absurd hb27 (by decide)
        all_goals try (exfalso; omega)
        all_goals
          try simp only [hb27]
          refine aops_orunN 18 _ _ ?_
          simp only [q0, kz, kv, rwR, enR, csR, tyf, Nat.reduceBEq, reduceIte, Nat.reduceEqDiff, Nat.reduceAdd, Nat.reduceLeDiff, reduceCtorEq, Nat.reduceMul, Int.reduceToNat, Nat.reduceShiftRight, Nat.reduceMod, Nat.reducePow, Nat.reduceOr, Nat.reduceAnd, smE, s1, s2, s3, hb23, hb27]
          refine aops_nil (hL21 _ ?_)
          simp only [q0, kz, kv, rwR, enR, csR, tyf, Nat.reduceBEq, reduceIte, Nat.reduceEqDiff, Nat.reduceAdd, Nat.reduceLeDiff, reduceCtorEq, Nat.reduceMul, Int.reduceToNat, Nat.reduceShiftRight, Nat.reduceMod, Nat.reducePow, Nat.reduceOr, Nat.reduceAnd, smE, s1, s2, s3, hb23, hb27]
          try simp only [rk_state]
          refine hK20 _ ?_
          refine awp_ret ?_
          try simp only [rk_state]
          refine ⟨_, 0, by simp only [q0, kz, kv, rwR, enR, csR, tyf, Nat.reduceBEq, reduceIte, Nat.reduceEqDiff, Nat.reduceAdd, Nat.reduceLeDiff, reduceCtorEq, Nat.reduceMul, Int.reduceToNat, Nat.reduceShiftRight, Nat.reduceMod, Nat.reducePow, Nat.reduceOr, Nat.reduceAnd, resA, Try.results4, smE, s1, s2, s3, hb23, hb27]; rfl, ?_, fun l hl => absurd rfl hl⟩
          simp only [packA]
          (repeat' (first | exact .nil | exact wkR_c | exact wkR_own | exact wkR_nils | refine wkR_int ?_ | refine wkR_bool ?_ | refine wkR_sl ?_ | refine wkR_osl ?_ | refine wkR_nsl ?_ | refine wkR_oo ?_ | refine wkR_no ?_ | refine .cons ?_ ?_ | refine wkR_agg ?_ | refine wkR_tup ?_))
  case b23 =>
    have hp23 := hb23
    try simp only [kb] at hp23
    all_goals try exact absurd hb23 (by decide)
    all_goals try (exfalso; omega)
    all_goals
      try simp only [hb23]
      refine aops_orunN 27 _ _ ?_
      simp only [q0, kz, kv, rwR, enR, csR, tyf, Nat.reduceBEq, reduceIte, Nat.reduceEqDiff, Nat.reduceAdd, Nat.reduceLeDiff, reduceCtorEq, Nat.reduceMul, Int.reduceToNat, Nat.reduceShiftRight, Nat.reduceMod, Nat.reducePow, Nat.reduceOr, Nat.reduceAnd, smE, s1, s2, s3, hb23]
      refine aops_nil (hL21 _ ?_)
      simp only [q0, kz, kv, rwR, enR, csR, tyf, Nat.reduceBEq, reduceIte, Nat.reduceEqDiff, Nat.reduceAdd, Nat.reduceLeDiff, reduceCtorEq, Nat.reduceMul, Int.reduceToNat, Nat.reduceShiftRight, Nat.reduceMod, Nat.reducePow, Nat.reduceOr, Nat.reduceAnd, smE, s1, s2, s3, hb23]
      try simp only [rk_state]
      refine hK20 _ ?_
      refine awp_ret ?_
      try simp only [rk_state]
      refine ⟨_, 0, by simp only [q0, kz, kv, rwR, enR, csR, tyf, Nat.reduceBEq, reduceIte, Nat.reduceEqDiff, Nat.reduceAdd, Nat.reduceLeDiff, reduceCtorEq, Nat.reduceMul, Int.reduceToNat, Nat.reduceShiftRight, Nat.reduceMod, Nat.reducePow, Nat.reduceOr, Nat.reduceAnd, resA, Try.results4, smE, s1, s2, s3, hb23]; rfl, ?_, fun l hl => absurd rfl hl⟩
      simp only [packA]
      (repeat' (first | exact .nil | exact wkR_c | exact wkR_own | exact wkR_nils | refine wkR_int ?_ | refine wkR_bool ?_ | refine wkR_sl ?_ | refine wkR_osl ?_ | refine wkR_nsl ?_ | refine wkR_oo ?_ | refine wkR_no ?_ | refine .cons ?_ ?_ | refine wkR_agg ?_ | refine wkR_tup ?_))
end Go.Proofs.Y
