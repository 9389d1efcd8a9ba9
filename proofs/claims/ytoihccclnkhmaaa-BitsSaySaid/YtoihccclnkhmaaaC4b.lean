/-
  What is proved: the sum of parts is the sum of the whole: what SumParts computes. Conditions: none.
-/
import Derived.Test.YtoihccclnkhmaaaC4
import Derived.Test.YtoihccclnkhmaaaP4b
set_option linter.unusedVariables false
set_option linter.unusedSimpArgs false
set_option maxRecDepth 4000
namespace Go.Proofs.Y
open Go.Rb
theorem smE : ∀ s : Sm, (⟨s.n, s.mn, s.mx, s.tot⟩ : Sm) = s := fun _ => rfl
set_option maxHeartbeats 4000000 in
set_option maxRecDepth 50000 in
theorem at_fun (k n : Int) (h : 0 < n) (hn : n ≤ 9223372036854775807) : Fun Try.prog 30 [.c (.int .i64 k), .c (.int .i64 n)] nomem (.c (.int .i64 (k % n))) nomem := by
  have h1 := Int.tmod_lt_of_pos k h
  have h2 := Int.lt_tmod_of_pos k h
  have h3 := at_mod (k := k) h
  refine fun_of_awp Try.func30 rfl (by decide +kernel) (by decide +kernel) (Nat.le_of_ble_eq_true rfl) (fun _ _ => rfl) (fun _ _ => rfl) ?_
  refine awp_seq_k fun K1 hK1 => ?_
  refine awp_region_lit fun L2 hL2 => ?_
  refine aops_orunN 1 _ _ ?_
  simp only [q0, kz, kv, ka, kf, km, y_and, rwR, enR, csR, tyf, Nat.reduceBEq, reduceIte, Nat.reduceEqDiff, Nat.reduceAdd, Nat.reduceLeDiff, reduceCtorEq, Nat.reduceMul, Int.reduceToNat]
  refine aops_nil (hL2 _ ?_)
  simp only [q0, kz, kv, ka, kf, km, y_and, rwR, enR, csR, tyf, Nat.reduceBEq, reduceIte, Nat.reduceEqDiff, Nat.reduceAdd, Nat.reduceLeDiff, reduceCtorEq, Nat.reduceMul, Int.reduceToNat]
  try simp only [rk_state]
  refine hK1 _ ?_
  refine awp_seq_k fun K3 hK3 => ?_
  refine awp_region_lit fun L4 hL4 => ?_
  refine aops_orunN 2 _ _ ?_
  simp only [q0, kz, kv, ka, kf, km, y_and, rwR, enR, csR, tyf, Nat.reduceBEq, reduceIte, Nat.reduceEqDiff, Nat.reduceAdd, Nat.reduceLeDiff, reduceCtorEq, Nat.reduceMul, Int.reduceToNat]
  refine aops_val (v := ?v5) rfl ?h5 ?_
  case h5 => simp only [q0, kz, kv, ka, kf, km, y_and, rwR, enR, csR, tyf, Nat.reduceBEq, reduceIte, Nat.reduceEqDiff, Nat.reduceAdd, Nat.reduceLeDiff, reduceCtorEq, Nat.reduceMul, Int.reduceToNat]; (rw [y_rem] <;> omega)
  simp only [q0, kz, kv, ka, kf, km, y_and, rwR, enR, csR, tyf, Nat.reduceBEq, reduceIte, Nat.reduceEqDiff, Nat.reduceAdd, Nat.reduceLeDiff, reduceCtorEq, Nat.reduceMul, Int.reduceToNat]
  refine aops_orunN 1 _ _ ?_
  simp only [q0, kz, kv, ka, kf, km, y_and, rwR, enR, csR, tyf, Nat.reduceBEq, reduceIte, Nat.reduceEqDiff, Nat.reduceAdd, Nat.reduceLeDiff, reduceCtorEq, Nat.reduceMul, Int.reduceToNat]
  refine aops_nil (hL4 _ ?_)
  simp only [q0, kz, kv, ka, kf, km, y_and, rwR, enR, csR, tyf, Nat.reduceBEq, reduceIte, Nat.reduceEqDiff, Nat.reduceAdd, Nat.reduceLeDiff, reduceCtorEq, Nat.reduceMul, Int.reduceToNat]
  try simp only [rk_state]
  refine hK3 _ ?_
  refine awp_seq_k fun K6 hK6 => ?_
  refine awp_seq_k fun K7 hK7 => ?_
  refine awp_region_lit fun L8 hL8 => ?_
  refine aops_orunN 2 _ _ ?_
  simp only [q0, kz, kv, ka, kf, km, y_and, rwR, enR, csR, tyf, Nat.reduceBEq, reduceIte, Nat.reduceEqDiff, Nat.reduceAdd, Nat.reduceLeDiff, reduceCtorEq, Nat.reduceMul, Int.reduceToNat]
  refine aops_nil (hL8 _ ?_)
  simp only [q0, kz, kv, ka, kf, km, y_and, rwR, enR, csR, tyf, Nat.reduceBEq, reduceIte, Nat.reduceEqDiff, Nat.reduceAdd, Nat.reduceLeDiff, reduceCtorEq, Nat.reduceMul, Int.reduceToNat]
  try simp only [rk_state]
  refine hK7 _ ?_
  as_aux_lemma =>
    refine awp_cond (t := ?t9) ?h9 (fun hb9 => ?a9) (fun hb9 => ?b9)
    case h9 => simp only [q0, kz, kv, ka, kf, km, y_and, rwR, enR, csR, tyf, Nat.reduceBEq, reduceIte, Nat.reduceEqDiff, Nat.reduceAdd, Nat.reduceLeDiff, reduceCtorEq, Nat.reduceMul, Int.reduceToNat]; rfl
    case a9 =>
      have hp9 := hb9
      try simp only [kb] at hp9
      all_goals try exact absurd hb9 (by decide)
      all_goals try (exfalso; omega)
      all_goals
        refine awp_region_lit fun L10 hL10 => ?_
        refine aops_orunN 2 _ _ ?_
        simp only [q0, kz, kv, ka, kf, km, y_and, rwR, enR, csR, tyf, Nat.reduceBEq, reduceIte, Nat.reduceEqDiff, Nat.reduceAdd, Nat.reduceLeDiff, reduceCtorEq, Nat.reduceMul, Int.reduceToNat, hb9]
        refine aops_val (v := ?v11) rfl ?h11 ?_
        case h11 => simp only [q0, kz, kv, ka, kf, km, y_and, rwR, enR, csR, tyf, Nat.reduceBEq, reduceIte, Nat.reduceEqDiff, Nat.reduceAdd, Nat.reduceLeDiff, reduceCtorEq, Nat.reduceMul, Int.reduceToNat, hb9]; first | (rw [wr_id] <;> omega) | rfl
        simp only [q0, kz, kv, ka, kf, km, y_and, rwR, enR, csR, tyf, Nat.reduceBEq, reduceIte, Nat.reduceEqDiff, Nat.reduceAdd, Nat.reduceLeDiff, reduceCtorEq, Nat.reduceMul, Int.reduceToNat, hb9]
        refine aops_orunN 1 _ _ ?_
        simp only [q0, kz, kv, ka, kf, km, y_and, rwR, enR, csR, tyf, Nat.reduceBEq, reduceIte, Nat.reduceEqDiff, Nat.reduceAdd, Nat.reduceLeDiff, reduceCtorEq, Nat.reduceMul, Int.reduceToNat, hb9]
        refine aops_nil (hL10 _ ?_)
        simp only [q0, kz, kv, ka, kf, km, y_and, rwR, enR, csR, tyf, Nat.reduceBEq, reduceIte, Nat.reduceEqDiff, Nat.reduceAdd, Nat.reduceLeDiff, reduceCtorEq, Nat.reduceMul, Int.reduceToNat, hb9]
        try simp only [rk_state]
        refine hK6 _ ?_
        refine awp_seq_k fun K12 hK12 => ?_
        refine awp_region_lit fun L13 hL13 => ?_
        refine aops_orunN 2 _ _ ?_
        simp only [q0, kz, kv, ka, kf, km, y_and, rwR, enR, csR, tyf, Nat.reduceBEq, reduceIte, Nat.reduceEqDiff, Nat.reduceAdd, Nat.reduceLeDiff, reduceCtorEq, Nat.reduceMul, Int.reduceToNat, hb9]
        refine aops_nil (hL13 _ ?_)
        simp only [q0, kz, kv, ka, kf, km, y_and, rwR, enR, csR, tyf, Nat.reduceBEq, reduceIte, Nat.reduceEqDiff, Nat.reduceAdd, Nat.reduceLeDiff, reduceCtorEq, Nat.reduceMul, Int.reduceToNat, hb9]
        try simp only [rk_state]
        refine hK12 _ ?_
        refine awp_ret ?_
        try simp only [rk_state]
        refine ⟨_, 0, by simp only [q0, kz, kv, ka, kf, km, y_and, rwR, enR, csR, tyf, Nat.reduceBEq, reduceIte, Nat.reduceEqDiff, Nat.reduceAdd, Nat.reduceLeDiff, reduceCtorEq, Nat.reduceMul, Int.reduceToNat, resA, Try.results30, hb9]; rfl, ?_, fun l hl => absurd rfl hl, fun l hl => absurd rfl hl⟩
        simp only [packA]
        (repeat' (first | exact .nil | exact wkR_c | exact wkR_own | exact wkR_nils | refine wkR_int ?_ | refine wkR_bool ?_ | refine wkR_sl ?_ | refine wkR_osl ?_ | refine wkR_nsl ?_ | refine wkR_oo ?_ | refine wkR_no ?_ | refine .cons ?_ ?_ | refine wkR_agg ?_ | refine wkR_tup ?_)) <;> first | (rw [if_pos (by assumption)] at h3; exact h3) | (rw [if_neg (by assumption)] at h3; exact h3)
    case b9 =>
      have hp9 := hb9
      try simp only [kb] at hp9
      all_goals try exact absurd hb9 (by decide)
      all_goals try (exfalso; omega)
      all_goals
        refine awp_skip ?_
        try simp only [rk_state]
        refine hK6 _ ?_
        refine awp_seq_k fun K14 hK14 => ?_
        refine awp_region_lit fun L15 hL15 => ?_
        refine aops_orunN 2 _ _ ?_
        simp only [q0, kz, kv, ka, kf, km, y_and, rwR, enR, csR, tyf, Nat.reduceBEq, reduceIte, Nat.reduceEqDiff, Nat.reduceAdd, Nat.reduceLeDiff, reduceCtorEq, Nat.reduceMul, Int.reduceToNat, hb9]
        refine aops_nil (hL15 _ ?_)
        simp only [q0, kz, kv, ka, kf, km, y_and, rwR, enR, csR, tyf, Nat.reduceBEq, reduceIte, Nat.reduceEqDiff, Nat.reduceAdd, Nat.reduceLeDiff, reduceCtorEq, Nat.reduceMul, Int.reduceToNat, hb9]
        try simp only [rk_state]
        refine hK14 _ ?_
        as_aux_lemma =>
          refine awp_ret ?_
          try simp only [rk_state]
          refine ⟨_, 0, by simp only [q0, kz, kv, ka, kf, km, y_and, rwR, enR, csR, tyf, Nat.reduceBEq, reduceIte, Nat.reduceEqDiff, Nat.reduceAdd, Nat.reduceLeDiff, reduceCtorEq, Nat.reduceMul, Int.reduceToNat, resA, Try.results30, hb9]; rfl, ?_, fun l hl => absurd rfl hl, fun l hl => absurd rfl hl⟩
          simp only [packA]
          (repeat' (first | exact .nil | exact wkR_c | exact wkR_own | exact wkR_nils | refine wkR_int ?_ | refine wkR_bool ?_ | refine wkR_sl ?_ | refine wkR_osl ?_ | refine wkR_nsl ?_ | refine wkR_oo ?_ | refine wkR_no ?_ | refine .cons ?_ ?_ | refine wkR_agg ?_ | refine wkR_tup ?_)) <;> first | (rw [if_pos (by assumption)] at h3; exact h3) | (rw [if_neg (by assumption)] at h3; exact h3)
set_option maxHeartbeats 4000000 in
set_option maxRecDepth 50000 in
theorem sumParts_fun (ps : List Pt) (j k : Int) (hn : ps.length < 4611686018427387904) : Fun Try.prog 4 [.c (.sl 34 (Rw Pt.cs ps)), .c (.int .i64 j), .c (.int .i64 k)] nomem (.c (.bool true)) nomem := by
  have h1 := Int.emod_nonneg j (show (ps.length : Int) + 1 ≠ 0 by omega)
  have h2 := Int.emod_lt_of_pos j (show (0 : Int) < (ps.length : Int) + 1 by omega)
  have h3 := Int.emod_nonneg k (show (ps.length : Int) + 1 ≠ 0 by omega)
  have h4 := Int.emod_lt_of_pos k (show (0 : Int) < (ps.length : Int) + 1 by omega)
  have ⟨s1, s2, s3⟩ := sumOf_parts (l := ps) hn (j := (min (j % (↑ps.length + 1)) (k % (↑ps.length + 1))).toNat) (k := (max (j % (↑ps.length + 1)) (k % (↑ps.length + 1))).toNat) (by omega) (by omega)
  refine fun_of_awp Try.func4 rfl (by decide +kernel) (by decide +kernel) (Nat.le_of_ble_eq_true rfl) (fun _ _ => rfl) (fun _ _ => rfl) ?_
  refine awp_seq_k fun K1 hK1 => ?_
  refine awp_region_lit fun L2 hL2 => ?_
  refine aops_orunN 1 _ _ ?_
  simp only [q0, kz, kv, ka, kf, km, y_and, rwR, enR, csR, tyf, Nat.reduceBEq, reduceIte, Nat.reduceEqDiff, Nat.reduceAdd, Nat.reduceLeDiff, reduceCtorEq, Nat.reduceMul, Int.reduceToNat, smE, s1, s2, s3]
  refine aops_nil (hL2 _ ?_)
  simp only [q0, kz, kv, ka, kf, km, y_and, rwR, enR, csR, tyf, Nat.reduceBEq, reduceIte, Nat.reduceEqDiff, Nat.reduceAdd, Nat.reduceLeDiff, reduceCtorEq, Nat.reduceMul, Int.reduceToNat, smE, s1, s2, s3]
  try simp only [rk_state]
  refine hK1 _ ?_
  refine awp_seq_k fun K3 hK3 => ?_
  refine awp_region_lit fun L4 hL4 => ?_
  refine aops_orunN 3 _ _ ?_
  simp only [q0, kz, kv, ka, kf, km, y_and, rwR, enR, csR, tyf, Nat.reduceBEq, reduceIte, Nat.reduceEqDiff, Nat.reduceAdd, Nat.reduceLeDiff, reduceCtorEq, Nat.reduceMul, Int.reduceToNat, smE, s1, s2, s3]
  refine aops_val (v := ?v5) rfl ?h5 ?_
  case h5 => simp only [q0, kz, kv, ka, kf, km, y_and, rwR, enR, csR, tyf, Nat.reduceBEq, reduceIte, Nat.reduceEqDiff, Nat.reduceAdd, Nat.reduceLeDiff, reduceCtorEq, Nat.reduceMul, Int.reduceToNat, smE, s1, s2, s3]; first | (rw [wr_id] <;> omega) | rfl
  simp only [q0, kz, kv, ka, kf, km, y_and, rwR, enR, csR, tyf, Nat.reduceBEq, reduceIte, Nat.reduceEqDiff, Nat.reduceAdd, Nat.reduceLeDiff, reduceCtorEq, Nat.reduceMul, Int.reduceToNat, smE, s1, s2, s3]
  refine aops_call (at_fun _ _ ?s6_0 ?s6_1) rfl rfl rfl rfl (by (try simp only [q0, kz, kv, ka, kf, km, y_and, rwR, enR, csR, tyf, Nat.reduceBEq, reduceIte, Nat.reduceEqDiff, Nat.reduceAdd, Nat.reduceLeDiff, reduceCtorEq, Nat.reduceMul, Int.reduceToNat, smE, s1, s2, s3]); (repeat' (first | exact .nil | exact wk_c | exact wk_ownc | exact wk_nilsc | exact wk_nils | exact wk_fn | refine .cons ?_ ?_ | refine wk_agg ?_ | refine wk_fnL ?_))) rfl rfl ?m6
  case s6_0 => omega
  case s6_1 => omega
  simp only [q0, kz, kv, ka, kf, km, y_and, rwR, enR, csR, tyf, Nat.reduceBEq, reduceIte, Nat.reduceEqDiff, Nat.reduceAdd, Nat.reduceLeDiff, reduceCtorEq, Nat.reduceMul, Int.reduceToNat, smE, s1, s2, s3]
  refine aops_orunN 3 _ _ ?_
  simp only [q0, kz, kv, ka, kf, km, y_and, rwR, enR, csR, tyf, Nat.reduceBEq, reduceIte, Nat.reduceEqDiff, Nat.reduceAdd, Nat.reduceLeDiff, reduceCtorEq, Nat.reduceMul, Int.reduceToNat, smE, s1, s2, s3]
  refine aops_val (v := ?v7) rfl ?h7 ?_
  case h7 => simp only [q0, kz, kv, ka, kf, km, y_and, rwR, enR, csR, tyf, Nat.reduceBEq, reduceIte, Nat.reduceEqDiff, Nat.reduceAdd, Nat.reduceLeDiff, reduceCtorEq, Nat.reduceMul, Int.reduceToNat, smE, s1, s2, s3]; first | (rw [wr_id] <;> omega) | rfl
  simp only [q0, kz, kv, ka, kf, km, y_and, rwR, enR, csR, tyf, Nat.reduceBEq, reduceIte, Nat.reduceEqDiff, Nat.reduceAdd, Nat.reduceLeDiff, reduceCtorEq, Nat.reduceMul, Int.reduceToNat, smE, s1, s2, s3]
  refine aops_call (at_fun _ _ ?s8_0 ?s8_1) rfl rfl rfl rfl (by (try simp only [q0, kz, kv, ka, kf, km, y_and, rwR, enR, csR, tyf, Nat.reduceBEq, reduceIte, Nat.reduceEqDiff, Nat.reduceAdd, Nat.reduceLeDiff, reduceCtorEq, Nat.reduceMul, Int.reduceToNat, smE, s1, s2, s3]); (repeat' (first | exact .nil | exact wk_c | exact wk_ownc | exact wk_nilsc | exact wk_nils | exact wk_fn | refine .cons ?_ ?_ | refine wk_agg ?_ | refine wk_fnL ?_))) rfl rfl ?m8
  case s8_0 => omega
  case s8_1 => omega
  simp only [q0, kz, kv, ka, kf, km, y_and, rwR, enR, csR, tyf, Nat.reduceBEq, reduceIte, Nat.reduceEqDiff, Nat.reduceAdd, Nat.reduceLeDiff, reduceCtorEq, Nat.reduceMul, Int.reduceToNat, smE, s1, s2, s3]
  refine aops_orunN 2 _ _ ?_
  simp only [q0, kz, kv, ka, kf, km, y_and, rwR, enR, csR, tyf, Nat.reduceBEq, reduceIte, Nat.reduceEqDiff, Nat.reduceAdd, Nat.reduceLeDiff, reduceCtorEq, Nat.reduceMul, Int.reduceToNat, smE, s1, s2, s3]
  refine aops_nil (hL4 _ ?_)
  simp only [q0, kz, kv, ka, kf, km, y_and, rwR, enR, csR, tyf, Nat.reduceBEq, reduceIte, Nat.reduceEqDiff, Nat.reduceAdd, Nat.reduceLeDiff, reduceCtorEq, Nat.reduceMul, Int.reduceToNat, smE, s1, s2, s3]
  try simp only [rk_state]
  refine hK3 _ ?_
  refine awp_seq_k fun K9 hK9 => ?_
  refine awp_region_lit fun L10 hL10 => ?_
  refine aops_orunN 8 _ _ ?_
  simp only [q0, kz, kv, ka, kf, km, y_and, rwR, enR, csR, tyf, Nat.reduceBEq, reduceIte, Nat.reduceEqDiff, Nat.reduceAdd, Nat.reduceLeDiff, reduceCtorEq, Nat.reduceMul, Int.reduceToNat, smE, s1, s2, s3]
  refine aops_nil (hL10 _ ?_)
  simp only [q0, kz, kv, ka, kf, km, y_and, rwR, enR, csR, tyf, Nat.reduceBEq, reduceIte, Nat.reduceEqDiff, Nat.reduceAdd, Nat.reduceLeDiff, reduceCtorEq, Nat.reduceMul, Int.reduceToNat, smE, s1, s2, s3]
  try simp only [rk_state]
  refine hK9 _ ?_
  as_aux_lemma =>
    refine awp_seq_k fun K11 hK11 => ?_
    refine awp_region_dr (by decide +kernel) fun L12 hL12 => ?_
    refine aops_orunN 2 _ _ ?_
    simp only [q0, kz, kv, ka, kf, km, y_and, rwR, enR, csR, tyf, Nat.reduceBEq, reduceIte, Nat.reduceEqDiff, Nat.reduceAdd, Nat.reduceLeDiff, reduceCtorEq, Nat.reduceMul, Int.reduceToNat, smE, s1, s2, s3]
    refine aops_val (v := ?v13) rfl ?h13 ?_
    case h13 => simp only [q0, kz, kv, ka, kf, km, y_and, rwR, enR, csR, tyf, Nat.reduceBEq, reduceIte, Nat.reduceEqDiff, Nat.reduceAdd, Nat.reduceLeDiff, reduceCtorEq, Nat.reduceMul, Int.reduceToNat, smE, s1, s2, s3]; first | (rw [slc_h un22 if34] <;> omega) | (rw [slc_ho un22 if34] <;> omega)
    simp only [q0, kz, kv, ka, kf, km, y_and, rwR, enR, csR, tyf, Nat.reduceBEq, reduceIte, Nat.reduceEqDiff, Nat.reduceAdd, Nat.reduceLeDiff, reduceCtorEq, Nat.reduceMul, Int.reduceToNat, smE, s1, s2, s3]
    refine aops_call (of_fun _ ?s14_0) rfl rfl rfl rfl (by (try simp only [q0, kz, kv, ka, kf, km, y_and, rwR, enR, csR, tyf, Nat.reduceBEq, reduceIte, Nat.reduceEqDiff, Nat.reduceAdd, Nat.reduceLeDiff, reduceCtorEq, Nat.reduceMul, Int.reduceToNat, smE, s1, s2, s3]); (repeat' (first | exact .nil | exact wk_c | exact wk_ownc | exact wk_nilsc | exact wk_nils | exact wk_fn | refine .cons ?_ ?_ | refine wk_agg ?_ | refine wk_fnL ?_))) rfl rfl ?m14
    case s14_0 => first | assumption | omega | decide +kernel | (simp only [List.length_take, List.length_drop]; omega)
    simp only [q0, kz, kv, ka, kf, km, y_and, rwR, enR, csR, tyf, Nat.reduceBEq, reduceIte, Nat.reduceEqDiff, Nat.reduceAdd, Nat.reduceLeDiff, reduceCtorEq, Nat.reduceMul, Int.reduceToNat, avR, smE, s1, s2, s3]
    refine aops_orunN 3 _ _ ?_
    simp only [q0, kz, kv, ka, kf, km, y_and, rwR, enR, csR, tyf, Nat.reduceBEq, reduceIte, Nat.reduceEqDiff, Nat.reduceAdd, Nat.reduceLeDiff, reduceCtorEq, Nat.reduceMul, Int.reduceToNat, smE, s1, s2, s3]
    refine aops_val (v := ?v15) rfl ?h15 ?_
    case h15 => simp only [q0, kz, kv, ka, kf, km, y_and, rwR, enR, csR, tyf, Nat.reduceBEq, reduceIte, Nat.reduceEqDiff, Nat.reduceAdd, Nat.reduceLeDiff, reduceCtorEq, Nat.reduceMul, Int.reduceToNat, smE, s1, s2, s3]; first | (rw [slc_lh un22 if34] <;> omega) | (rw [slc_lho un22 if34] <;> omega)
    simp only [q0, kz, kv, ka, kf, km, y_and, rwR, enR, csR, tyf, Nat.reduceBEq, reduceIte, Nat.reduceEqDiff, Nat.reduceAdd, Nat.reduceLeDiff, reduceCtorEq, Nat.reduceMul, Int.reduceToNat, smE, s1, s2, s3]
    refine aops_call (of_fun _ ?s16_0) rfl rfl rfl rfl (by (try simp only [q0, kz, kv, ka, kf, km, y_and, rwR, enR, csR, tyf, Nat.reduceBEq, reduceIte, Nat.reduceEqDiff, Nat.reduceAdd, Nat.reduceLeDiff, reduceCtorEq, Nat.reduceMul, Int.reduceToNat, smE, s1, s2, s3]); (repeat' (first | exact .nil | exact wk_c | exact wk_ownc | exact wk_nilsc | exact wk_nils | exact wk_fn | refine .cons ?_ ?_ | refine wk_agg ?_ | refine wk_fnL ?_))) rfl rfl ?m16
    case s16_0 => first | assumption | omega | decide +kernel | (simp only [List.length_take, List.length_drop]; omega)
    simp only [q0, kz, kv, ka, kf, km, y_and, rwR, enR, csR, tyf, Nat.reduceBEq, reduceIte, Nat.reduceEqDiff, Nat.reduceAdd, Nat.reduceLeDiff, reduceCtorEq, Nat.reduceMul, Int.reduceToNat, avR, smE, s1, s2, s3]
    refine aops_orunN 2 _ _ ?_
    simp only [q0, kz, kv, ka, kf, km, y_and, rwR, enR, csR, tyf, Nat.reduceBEq, reduceIte, Nat.reduceEqDiff, Nat.reduceAdd, Nat.reduceLeDiff, reduceCtorEq, Nat.reduceMul, Int.reduceToNat, smE, s1, s2, s3]
    refine aops_val (v := ?v17) rfl ?h17 ?_
    case h17 => simp only [q0, kz, kv, ka, kf, km, y_and, rwR, enR, csR, tyf, Nat.reduceBEq, reduceIte, Nat.reduceEqDiff, Nat.reduceAdd, Nat.reduceLeDiff, reduceCtorEq, Nat.reduceMul, Int.reduceToNat, smE, s1, s2, s3]; first | (rw [slc_l un22 if34] <;> omega) | (rw [slc_lo un22 if34] <;> omega)
    simp only [q0, kz, kv, ka, kf, km, y_and, rwR, enR, csR, tyf, Nat.reduceBEq, reduceIte, Nat.reduceEqDiff, Nat.reduceAdd, Nat.reduceLeDiff, reduceCtorEq, Nat.reduceMul, Int.reduceToNat, smE, s1, s2, s3]
    refine aops_call (of_fun _ ?s18_0) rfl rfl rfl rfl (by (try simp only [q0, kz, kv, ka, kf, km, y_and, rwR, enR, csR, tyf, Nat.reduceBEq, reduceIte, Nat.reduceEqDiff, Nat.reduceAdd, Nat.reduceLeDiff, reduceCtorEq, Nat.reduceMul, Int.reduceToNat, smE, s1, s2, s3]); (repeat' (first | exact .nil | exact wk_c | exact wk_ownc | exact wk_nilsc | exact wk_nils | exact wk_fn | refine .cons ?_ ?_ | refine wk_agg ?_ | refine wk_fnL ?_))) rfl rfl ?m18
    case s18_0 => first | assumption | omega | decide +kernel | (simp only [List.length_take, List.length_drop]; omega)
    simp only [q0, kz, kv, ka, kf, km, y_and, rwR, enR, csR, tyf, Nat.reduceBEq, reduceIte, Nat.reduceEqDiff, Nat.reduceAdd, Nat.reduceLeDiff, reduceCtorEq, Nat.reduceMul, Int.reduceToNat, avR, smE, s1, s2, s3]
    refine aops_orunN 6 _ _ ?_
    simp only [q0, kz, kv, ka, kf, km, y_and, rwR, enR, csR, tyf, Nat.reduceBEq, reduceIte, Nat.reduceEqDiff, Nat.reduceAdd, Nat.reduceLeDiff, reduceCtorEq, Nat.reduceMul, Int.reduceToNat, smE, s1, s2, s3]
    refine aops_nil (hL12 _ ?_)
    simp only [q0, kz, kv, ka, kf, km, y_and, rwR, enR, csR, tyf, Nat.reduceBEq, reduceIte, Nat.reduceEqDiff, Nat.reduceAdd, Nat.reduceLeDiff, reduceCtorEq, Nat.reduceMul, Int.reduceToNat, smE, s1, s2, s3]
    try simp only [rk_state]
    refine hK11 _ ?_
    refine awp_seq_k fun K19 hK19 => ?_
    refine awp_region_lit fun L20 hL20 => ?_
    refine aops_orunN 1 _ _ ?_
    simp only [q0, kz, kv, ka, kf, km, y_and, rwR, enR, csR, tyf, Nat.reduceBEq, reduceIte, Nat.reduceEqDiff, Nat.reduceAdd, Nat.reduceLeDiff, reduceCtorEq, Nat.reduceMul, Int.reduceToNat, smE, s1, s2, s3]
    refine aops_call (of_fun _ ?s21_0) rfl rfl rfl rfl (by (try simp only [q0, kz, kv, ka, kf, km, y_and, rwR, enR, csR, tyf, Nat.reduceBEq, reduceIte, Nat.reduceEqDiff, Nat.reduceAdd, Nat.reduceLeDiff, reduceCtorEq, Nat.reduceMul, Int.reduceToNat, smE, s1, s2, s3]); (repeat' (first | exact .nil | exact wk_c | exact wk_ownc | exact wk_nilsc | exact wk_nils | exact wk_fn | refine .cons ?_ ?_ | refine wk_agg ?_ | refine wk_fnL ?_))) rfl rfl ?m21
    case s21_0 => first | assumption | omega | decide +kernel | (simp only [List.length_take, List.length_drop]; omega)
    simp only [q0, kz, kv, ka, kf, km, y_and, rwR, enR, csR, tyf, Nat.reduceBEq, reduceIte, Nat.reduceEqDiff, Nat.reduceAdd, Nat.reduceLeDiff, reduceCtorEq, Nat.reduceMul, Int.reduceToNat, avR, smE, s1, s2, s3]
    refine aops_orunN 2 _ _ ?_
    simp only [q0, kz, kv, ka, kf, km, y_and, rwR, enR, csR, tyf, Nat.reduceBEq, reduceIte, Nat.reduceEqDiff, Nat.reduceAdd, Nat.reduceLeDiff, reduceCtorEq, Nat.reduceMul, Int.reduceToNat, smE, s1, s2, s3]
    refine aops_nil (hL20 _ ?_)
    simp only [q0, kz, kv, ka, kf, km, y_and, rwR, enR, csR, tyf, Nat.reduceBEq, reduceIte, Nat.reduceEqDiff, Nat.reduceAdd, Nat.reduceLeDiff, reduceCtorEq, Nat.reduceMul, Int.reduceToNat, smE, s1, s2, s3]
    try simp only [rk_state]
    refine hK19 _ ?_
    refine awp_seq_k fun K22 hK22 => ?_
    refine awp_region_dr (by decide +kernel) fun L23 hL23 => ?_
    refine aops_call added_fun rfl rfl rfl rfl (by (try simp only [q0, kz, kv, ka, kf, km, y_and, rwR, enR, csR, tyf, Nat.reduceBEq, reduceIte, Nat.reduceEqDiff, Nat.reduceAdd, Nat.reduceLeDiff, reduceCtorEq, Nat.reduceMul, Int.reduceToNat, smE, s1, s2, s3]); (repeat' (first | exact .nil | exact wk_c | exact wk_ownc | exact wk_nilsc | exact wk_nils | exact wk_fn | refine .cons ?_ ?_ | refine wk_agg ?_ | refine wk_fnL ?_))) rfl rfl ?_
    simp only [q0, kz, kv, ka, kf, km, y_and, rwR, enR, csR, tyf, Nat.reduceBEq, reduceIte, Nat.reduceEqDiff, Nat.reduceAdd, Nat.reduceLeDiff, reduceCtorEq, Nat.reduceMul, Int.reduceToNat, smE, s1, s2, s3]
    refine aops_orunN 1 _ _ ?_
    simp only [q0, kz, kv, ka, kf, km, y_and, rwR, enR, csR, tyf, Nat.reduceBEq, reduceIte, Nat.reduceEqDiff, Nat.reduceAdd, Nat.reduceLeDiff, reduceCtorEq, Nat.reduceMul, Int.reduceToNat, smE, s1, s2, s3]
    refine aops_part (b := ?p25) 43 ?h25 (fun hb25 => ?a25) (fun hb25 => ?b25)
    case h25 => simp only [q0, kz, kv, ka, kf, km, y_and, rwR, enR, csR, tyf, Nat.reduceBEq, reduceIte, Nat.reduceEqDiff, Nat.reduceAdd, Nat.reduceLeDiff, reduceCtorEq, Nat.reduceMul, Int.reduceToNat, smE, s1, s2, s3]; rfl
    case a25 =>
      have hp25 := hb25
      try simp only [kb] at hp25
      all_goals try exact absurd hb25 (by decide)
      all_goals try (exfalso; omega)
      all_goals
        try simp only [hb25]
        refine aops_orunN 2 _ _ ?_
        simp only [q0, kz, kv, ka, kf, km, y_and, rwR, enR, csR, tyf, Nat.reduceBEq, reduceIte, Nat.reduceEqDiff, Nat.reduceAdd, Nat.reduceLeDiff, reduceCtorEq, Nat.reduceMul, Int.reduceToNat, smE, s1, s2, s3, hb25]
        refine aops_call (join_fun _ _ _ _ _ _ _ _) (by simp only [q0, kz, kv, ka, kf, km, y_and, rwR, enR, csR, tyf, Nat.reduceBEq, reduceIte, Nat.reduceEqDiff, Nat.reduceAdd, Nat.reduceLeDiff, reduceCtorEq, Nat.reduceMul, Int.reduceToNat, smE, s1, s2, s3, hb25]) rfl rfl rfl (by (try simp only [q0, kz, kv, ka, kf, km, y_and, rwR, enR, csR, tyf, Nat.reduceBEq, reduceIte, Nat.reduceEqDiff, Nat.reduceAdd, Nat.reduceLeDiff, reduceCtorEq, Nat.reduceMul, Int.reduceToNat, smE, s1, s2, s3, hb25]); (repeat' (first | exact .nil | exact wk_c | exact wk_ownc | exact wk_nilsc | exact wk_nils | exact wk_fn | refine .cons ?_ ?_ | refine wk_agg ?_ | refine wk_fnL ?_))) rfl rfl ?_
        simp only [q0, kz, kv, ka, kf, km, y_and, rwR, enR, csR, tyf, Nat.reduceBEq, reduceIte, Nat.reduceEqDiff, Nat.reduceAdd, Nat.reduceLeDiff, reduceCtorEq, Nat.reduceMul, Int.reduceToNat, avR, smE, s1, s2, s3, hb25]
        refine aops_orunN 1 _ _ ?_
        simp only [q0, kz, kv, ka, kf, km, y_and, rwR, enR, csR, tyf, Nat.reduceBEq, reduceIte, Nat.reduceEqDiff, Nat.reduceAdd, Nat.reduceLeDiff, reduceCtorEq, Nat.reduceMul, Int.reduceToNat, smE, s1, s2, s3, hb25]
        refine aops_call (join_fun _ _ _ _ _ _ _ _) (by simp only [q0, kz, kv, ka, kf, km, y_and, rwR, enR, csR, tyf, Nat.reduceBEq, reduceIte, Nat.reduceEqDiff, Nat.reduceAdd, Nat.reduceLeDiff, reduceCtorEq, Nat.reduceMul, Int.reduceToNat, smE, s1, s2, s3, hb25]) rfl rfl rfl (by (try simp only [q0, kz, kv, ka, kf, km, y_and, rwR, enR, csR, tyf, Nat.reduceBEq, reduceIte, Nat.reduceEqDiff, Nat.reduceAdd, Nat.reduceLeDiff, reduceCtorEq, Nat.reduceMul, Int.reduceToNat, smE, s1, s2, s3, hb25]); (repeat' (first | exact .nil | exact wk_c | exact wk_ownc | exact wk_nilsc | exact wk_nils | exact wk_fn | refine .cons ?_ ?_ | refine wk_agg ?_ | refine wk_fnL ?_))) rfl rfl ?_
        simp only [q0, kz, kv, ka, kf, km, y_and, rwR, enR, csR, tyf, Nat.reduceBEq, reduceIte, Nat.reduceEqDiff, Nat.reduceAdd, Nat.reduceLeDiff, reduceCtorEq, Nat.reduceMul, Int.reduceToNat, avR, smE, s1, s2, s3, hb25]
        refine aops_orunN 1 _ _ ?_
        simp only [q0, kz, kv, ka, kf, km, y_and, rwR, enR, csR, tyf, Nat.reduceBEq, reduceIte, Nat.reduceEqDiff, Nat.reduceAdd, Nat.reduceLeDiff, reduceCtorEq, Nat.reduceMul, Int.reduceToNat, smE, s1, s2, s3, hb25]
        refine aops_eq (xs := ?xs28) (ys := ?ys28) eqi24 (by simp only [q0, kz, kv, ka, kf, km, y_and, rwR, enR, csR, tyf, Nat.reduceBEq, reduceIte, Nat.reduceEqDiff, Nat.reduceAdd, Nat.reduceLeDiff, reduceCtorEq, Nat.reduceMul, Int.reduceToNat, smE, s1, s2, s3, hb25]) rfl (by decide) ?hx28 ?hy28 ?hn28 ?hm28 ?hh28
        case hx28 => simp only [q0, kz, kv, ka, kf, km, y_and, rwR, enR, csR, tyf, Nat.reduceBEq, reduceIte, Nat.reduceEqDiff, Nat.reduceAdd, Nat.reduceLeDiff, reduceCtorEq, Nat.reduceMul, Int.reduceToNat, AV.ints, intsOf, smE, s1, s2, s3, hb25]; rfl
        case hy28 => simp only [q0, kz, kv, ka, kf, km, y_and, rwR, enR, csR, tyf, Nat.reduceBEq, reduceIte, Nat.reduceEqDiff, Nat.reduceAdd, Nat.reduceLeDiff, reduceCtorEq, Nat.reduceMul, Int.reduceToNat, AV.ints, intsOf, smE, s1, s2, s3, hb25]; rfl
        case hn28 => rfl
        case hm28 => rfl
        simp only [q0, kz, kv, ka, kf, km, y_and, rwR, enR, csR, tyf, Nat.reduceBEq, reduceIte, Nat.reduceEqDiff, Nat.reduceAdd, Nat.reduceLeDiff, reduceCtorEq, Nat.reduceMul, Int.reduceToNat, smE, s1, s2, s3, hb25]
        refine aops_orunN 2 _ _ ?_
        simp only [q0, kz, kv, ka, kf, km, y_and, rwR, enR, csR, tyf, Nat.reduceBEq, reduceIte, Nat.reduceEqDiff, Nat.reduceAdd, Nat.reduceLeDiff, reduceCtorEq, Nat.reduceMul, Int.reduceToNat, smE, s1, s2, s3, hb25]
        refine aops_part (b := ?p29) 52 ?h29 (fun hb29 => ?a29) (fun hb29 => ?b29)
        case h29 => simp only [q0, kz, kv, ka, kf, km, y_and, rwR, enR, csR, tyf, Nat.reduceBEq, reduceIte, Nat.reduceEqDiff, Nat.reduceAdd, Nat.reduceLeDiff, reduceCtorEq, Nat.reduceMul, Int.reduceToNat, smE, s1, s2, s3, hb25]; rfl
        case a29 =>
          have hp29 := hb29
          try simp only [kb] at hp29
          all_goals try exact absurd hb29 (by decide)
          all_goals try (exfalso; omega)
          all_goals
            try simp only [hb29]
            refine aops_orunN 3 _ _ ?_
            simp only [q0, kz, kv, ka, kf, km, y_and, rwR, enR, csR, tyf, Nat.reduceBEq, reduceIte, Nat.reduceEqDiff, Nat.reduceAdd, Nat.reduceLeDiff, reduceCtorEq, Nat.reduceMul, Int.reduceToNat, smE, s1, s2, s3, hb25, hb29]
            refine aops_call (join_fun _ _ _ _ _ _ _ _) (by simp only [q0, kz, kv, ka, kf, km, y_and, rwR, enR, csR, tyf, Nat.reduceBEq, reduceIte, Nat.reduceEqDiff, Nat.reduceAdd, Nat.reduceLeDiff, reduceCtorEq, Nat.reduceMul, Int.reduceToNat, smE, s1, s2, s3, hb25, hb29]) rfl rfl rfl (by (try simp only [q0, kz, kv, ka, kf, km, y_and, rwR, enR, csR, tyf, Nat.reduceBEq, reduceIte, Nat.reduceEqDiff, Nat.reduceAdd, Nat.reduceLeDiff, reduceCtorEq, Nat.reduceMul, Int.reduceToNat, smE, s1, s2, s3, hb25, hb29]); (repeat' (first | exact .nil | exact wk_c | exact wk_ownc | exact wk_nilsc | exact wk_nils | exact wk_fn | refine .cons ?_ ?_ | refine wk_agg ?_ | refine wk_fnL ?_))) rfl rfl ?_
            simp only [q0, kz, kv, ka, kf, km, y_and, rwR, enR, csR, tyf, Nat.reduceBEq, reduceIte, Nat.reduceEqDiff, Nat.reduceAdd, Nat.reduceLeDiff, reduceCtorEq, Nat.reduceMul, Int.reduceToNat, avR, smE, s1, s2, s3, hb25, hb29]
            refine aops_call (join_fun _ _ _ _ _ _ _ _) (by simp only [q0, kz, kv, ka, kf, km, y_and, rwR, enR, csR, tyf, Nat.reduceBEq, reduceIte, Nat.reduceEqDiff, Nat.reduceAdd, Nat.reduceLeDiff, reduceCtorEq, Nat.reduceMul, Int.reduceToNat, smE, s1, s2, s3, hb25, hb29]) rfl rfl rfl (by (try simp only [q0, kz, kv, ka, kf, km, y_and, rwR, enR, csR, tyf, Nat.reduceBEq, reduceIte, Nat.reduceEqDiff, Nat.reduceAdd, Nat.reduceLeDiff, reduceCtorEq, Nat.reduceMul, Int.reduceToNat, smE, s1, s2, s3, hb25, hb29]); (repeat' (first | exact .nil | exact wk_c | exact wk_ownc | exact wk_nilsc | exact wk_nils | exact wk_fn | refine .cons ?_ ?_ | refine wk_agg ?_ | refine wk_fnL ?_))) rfl rfl ?_
            simp only [q0, kz, kv, ka, kf, km, y_and, rwR, enR, csR, tyf, Nat.reduceBEq, reduceIte, Nat.reduceEqDiff, Nat.reduceAdd, Nat.reduceLeDiff, reduceCtorEq, Nat.reduceMul, Int.reduceToNat, avR, smE, s1, s2, s3, hb25, hb29]
            refine aops_orunN 1 _ _ ?_
            simp only [q0, kz, kv, ka, kf, km, y_and, rwR, enR, csR, tyf, Nat.reduceBEq, reduceIte, Nat.reduceEqDiff, Nat.reduceAdd, Nat.reduceLeDiff, reduceCtorEq, Nat.reduceMul, Int.reduceToNat, smE, s1, s2, s3, hb25, hb29]
            refine aops_eq (xs := ?xs32) (ys := ?ys32) eqi24 (by simp only [q0, kz, kv, ka, kf, km, y_and, rwR, enR, csR, tyf, Nat.reduceBEq, reduceIte, Nat.reduceEqDiff, Nat.reduceAdd, Nat.reduceLeDiff, reduceCtorEq, Nat.reduceMul, Int.reduceToNat, smE, s1, s2, s3, hb25, hb29]) rfl (by decide) ?hx32 ?hy32 ?hn32 ?hm32 ?hh32
            case hx32 => simp only [q0, kz, kv, ka, kf, km, y_and, rwR, enR, csR, tyf, Nat.reduceBEq, reduceIte, Nat.reduceEqDiff, Nat.reduceAdd, Nat.reduceLeDiff, reduceCtorEq, Nat.reduceMul, Int.reduceToNat, AV.ints, intsOf, smE, s1, s2, s3, hb25, hb29]; rfl
            case hy32 => simp only [q0, kz, kv, ka, kf, km, y_and, rwR, enR, csR, tyf, Nat.reduceBEq, reduceIte, Nat.reduceEqDiff, Nat.reduceAdd, Nat.reduceLeDiff, reduceCtorEq, Nat.reduceMul, Int.reduceToNat, AV.ints, intsOf, smE, s1, s2, s3, hb25, hb29]; rfl
            case hn32 => rfl
            case hm32 => rfl
            simp only [q0, kz, kv, ka, kf, km, y_and, rwR, enR, csR, tyf, Nat.reduceBEq, reduceIte, Nat.reduceEqDiff, Nat.reduceAdd, Nat.reduceLeDiff, reduceCtorEq, Nat.reduceMul, Int.reduceToNat, smE, s1, s2, s3, hb25, hb29]
            refine aops_orunN 2 _ _ ?_
            simp only [q0, kz, kv, ka, kf, km, y_and, rwR, enR, csR, tyf, Nat.reduceBEq, reduceIte, Nat.reduceEqDiff, Nat.reduceAdd, Nat.reduceLeDiff, reduceCtorEq, Nat.reduceMul, Int.reduceToNat, smE, s1, s2, s3, hb25, hb29]
            refine aops_part (b := ?p33) 61 ?h33 (fun hb33 => ?a33) (fun hb33 => ?b33)
            case h33 => simp only [q0, kz, kv, ka, kf, km, y_and, rwR, enR, csR, tyf, Nat.reduceBEq, reduceIte, Nat.reduceEqDiff, Nat.reduceAdd, Nat.reduceLeDiff, reduceCtorEq, Nat.reduceMul, Int.reduceToNat, smE, s1, s2, s3, hb25, hb29]; rfl
            case a33 =>
              have hp33 := hb33
              try simp only [kb] at hp33
              all_goals try exact absurd hb33 (by decide)
              all_goals try (exfalso; omega)
              all_goals
                try simp only [hb33]
                refine aops_orunN 3 _ _ ?_
                simp only [q0, kz, kv, ka, kf, km, y_and, rwR, enR, csR, tyf, Nat.reduceBEq, reduceIte, Nat.reduceEqDiff, Nat.reduceAdd, Nat.reduceLeDiff, reduceCtorEq, Nat.reduceMul, Int.reduceToNat, smE, s1, s2, s3, hb25, hb29, hb33]
                refine aops_call (join_fun _ _ _ _ _ _ _ _) (by simp only [q0, kz, kv, ka, kf, km, y_and, rwR, enR, csR, tyf, Nat.reduceBEq, reduceIte, Nat.reduceEqDiff, Nat.reduceAdd, Nat.reduceLeDiff, reduceCtorEq, Nat.reduceMul, Int.reduceToNat, smE, s1, s2, s3, hb25, hb29, hb33]) rfl rfl rfl (by (try simp only [q0, kz, kv, ka, kf, km, y_and, rwR, enR, csR, tyf, Nat.reduceBEq, reduceIte, Nat.reduceEqDiff, Nat.reduceAdd, Nat.reduceLeDiff, reduceCtorEq, Nat.reduceMul, Int.reduceToNat, smE, s1, s2, s3, hb25, hb29, hb33]); (repeat' (first | exact .nil | exact wk_c | exact wk_ownc | exact wk_nilsc | exact wk_nils | exact wk_fn | refine .cons ?_ ?_ | refine wk_agg ?_ | refine wk_fnL ?_))) rfl rfl ?_
                simp only [q0, kz, kv, ka, kf, km, y_and, rwR, enR, csR, tyf, Nat.reduceBEq, reduceIte, Nat.reduceEqDiff, Nat.reduceAdd, Nat.reduceLeDiff, reduceCtorEq, Nat.reduceMul, Int.reduceToNat, avR, smE, s1, s2, s3, hb25, hb29, hb33]
                refine aops_call (join_fun _ _ _ _ _ _ _ _) (by simp only [q0, kz, kv, ka, kf, km, y_and, rwR, enR, csR, tyf, Nat.reduceBEq, reduceIte, Nat.reduceEqDiff, Nat.reduceAdd, Nat.reduceLeDiff, reduceCtorEq, Nat.reduceMul, Int.reduceToNat, smE, s1, s2, s3, hb25, hb29, hb33]) rfl rfl rfl (by (try simp only [q0, kz, kv, ka, kf, km, y_and, rwR, enR, csR, tyf, Nat.reduceBEq, reduceIte, Nat.reduceEqDiff, Nat.reduceAdd, Nat.reduceLeDiff, reduceCtorEq, Nat.reduceMul, Int.reduceToNat, smE, s1, s2, s3, hb25, hb29, hb33]); (repeat' (first | exact .nil | exact wk_c | exact wk_ownc | exact wk_nilsc | exact wk_nils | exact wk_fn | refine .cons ?_ ?_ | refine wk_agg ?_ | refine wk_fnL ?_))) rfl rfl ?_
                simp only [q0, kz, kv, ka, kf, km, y_and, rwR, enR, csR, tyf, Nat.reduceBEq, reduceIte, Nat.reduceEqDiff, Nat.reduceAdd, Nat.reduceLeDiff, reduceCtorEq, Nat.reduceMul, Int.reduceToNat, avR, smE, s1, s2, s3, hb25, hb29, hb33]
                refine aops_orunN 1 _ _ ?_
                simp only [q0, kz, kv, ka, kf, km, y_and, rwR, enR, csR, tyf, Nat.reduceBEq, reduceIte, Nat.reduceEqDiff, Nat.reduceAdd, Nat.reduceLeDiff, reduceCtorEq, Nat.reduceMul, Int.reduceToNat, smE, s1, s2, s3, hb25, hb29, hb33]
                refine aops_eq (xs := ?xs36) (ys := ?ys36) eqi24 (by simp only [q0, kz, kv, ka, kf, km, y_and, rwR, enR, csR, tyf, Nat.reduceBEq, reduceIte, Nat.reduceEqDiff, Nat.reduceAdd, Nat.reduceLeDiff, reduceCtorEq, Nat.reduceMul, Int.reduceToNat, smE, s1, s2, s3, hb25, hb29, hb33]) rfl (by decide) ?hx36 ?hy36 ?hn36 ?hm36 ?hh36
                case hx36 => simp only [q0, kz, kv, ka, kf, km, y_and, rwR, enR, csR, tyf, Nat.reduceBEq, reduceIte, Nat.reduceEqDiff, Nat.reduceAdd, Nat.reduceLeDiff, reduceCtorEq, Nat.reduceMul, Int.reduceToNat, AV.ints, intsOf, smE, s1, s2, s3, hb25, hb29, hb33]; rfl
                case hy36 => simp only [q0, kz, kv, ka, kf, km, y_and, rwR, enR, csR, tyf, Nat.reduceBEq, reduceIte, Nat.reduceEqDiff, Nat.reduceAdd, Nat.reduceLeDiff, reduceCtorEq, Nat.reduceMul, Int.reduceToNat, AV.ints, intsOf, smE, s1, s2, s3, hb25, hb29, hb33]; rfl
                case hn36 => rfl
                case hm36 => rfl
                simp only [q0, kz, kv, ka, kf, km, y_and, rwR, enR, csR, tyf, Nat.reduceBEq, reduceIte, Nat.reduceEqDiff, Nat.reduceAdd, Nat.reduceLeDiff, reduceCtorEq, Nat.reduceMul, Int.reduceToNat, smE, s1, s2, s3, hb25, hb29, hb33]
                refine aops_orunN 2 _ _ ?_
                simp only [q0, kz, kv, ka, kf, km, y_and, rwR, enR, csR, tyf, Nat.reduceBEq, reduceIte, Nat.reduceEqDiff, Nat.reduceAdd, Nat.reduceLeDiff, reduceCtorEq, Nat.reduceMul, Int.reduceToNat, smE, s1, s2, s3, hb25, hb29, hb33]
                refine aops_nil (hL23 _ ?_)
                simp only [q0, kz, kv, ka, kf, km, y_and, rwR, enR, csR, tyf, Nat.reduceBEq, reduceIte, Nat.reduceEqDiff, Nat.reduceAdd, Nat.reduceLeDiff, reduceCtorEq, Nat.reduceMul, Int.reduceToNat, smE, s1, s2, s3, hb25, hb29, hb33]
                try simp only [rk_state]
                refine hK22 _ ?_
                as_aux_lemma =>
                  refine awp_ret ?_
                  try simp only [rk_state]
                  refine ⟨_, 0, by simp only [q0, kz, kv, ka, kf, km, y_and, rwR, enR, csR, tyf, Nat.reduceBEq, reduceIte, Nat.reduceEqDiff, Nat.reduceAdd, Nat.reduceLeDiff, reduceCtorEq, Nat.reduceMul, Int.reduceToNat, resA, Try.results4, smE, s1, s2, s3, hb25, hb29, hb33]; rfl, ?_, fun l hl => absurd rfl hl, fun l hl => absurd rfl hl⟩
                  simp only [packA]
                  (repeat' (first | exact .nil | exact wkR_c | exact wkR_own | exact wkR_nils | refine wkR_int ?_ | refine wkR_bool ?_ | refine wkR_sl ?_ | refine wkR_osl ?_ | refine wkR_nsl ?_ | refine wkR_oo ?_ | refine wkR_no ?_ | refine .cons ?_ ?_ | refine wkR_agg ?_ | refine wkR_tup ?_))
            case b33 =>
              have hp33 := hb33
              try simp only [kb] at hp33
              all_goals try exact absurd hb33 (by decide)
              all_goals try (exfalso; omega)
              all_goals
                try simp only [hb33]
                refine aops_orunN 9 _ _ ?_
                simp only [q0, kz, kv, ka, kf, km, y_and, rwR, enR, csR, tyf, Nat.reduceBEq, reduceIte, Nat.reduceEqDiff, Nat.reduceAdd, Nat.reduceLeDiff, reduceCtorEq, Nat.reduceMul, Int.reduceToNat, smE, s1, s2, s3, hb25, hb29, hb33]
                refine aops_nil (hL23 _ ?_)
                simp only [q0, kz, kv, ka, kf, km, y_and, rwR, enR, csR, tyf, Nat.reduceBEq, reduceIte, Nat.reduceEqDiff, Nat.reduceAdd, Nat.reduceLeDiff, reduceCtorEq, Nat.reduceMul, Int.reduceToNat, smE, s1, s2, s3, hb25, hb29, hb33]
                try simp only [rk_state]
                refine hK22 _ ?_
                refine awp_ret ?_
                try simp only [rk_state]
                refine ⟨_, 0, by simp only [q0, kz, kv, ka, kf, km, y_and, rwR, enR, csR, tyf, Nat.reduceBEq, reduceIte, Nat.reduceEqDiff, Nat.reduceAdd, Nat.reduceLeDiff, reduceCtorEq, Nat.reduceMul, Int.reduceToNat, resA, Try.results4, smE, s1, s2, s3, hb25, hb29, hb33]; rfl, ?_, fun l hl => absurd rfl hl, fun l hl => absurd rfl hl⟩
                simp only [packA]
                (repeat' (first | exact .nil | exact wkR_c | exact wkR_own | exact wkR_nils | refine wkR_int ?_ | refine wkR_bool ?_ | refine wkR_sl ?_ | refine wkR_osl ?_ | refine wkR_nsl ?_ | refine wkR_oo ?_ | refine wkR_no ?_ | refine .cons ?_ ?_ | refine wkR_agg ?_ | refine wkR_tup ?_))
        case b29 =>
          have hp29 := hb29
          try simp only [kb] at hp29
          all_goals try exact absurd hb29 (by decide)
          all_goals try (exfalso; omega)
          all_goals
            try simp only [hb29]
            refine aops_orunN 18 _ _ ?_
            simp only [q0, kz, kv, ka, kf, km, y_and, rwR, enR, csR, tyf, Nat.reduceBEq, reduceIte, Nat.reduceEqDiff, Nat.reduceAdd, Nat.reduceLeDiff, reduceCtorEq, Nat.reduceMul, Int.reduceToNat, smE, s1, s2, s3, hb25, hb29]
            refine aops_nil (hL23 _ ?_)
            simp only [q0, kz, kv, ka, kf, km, y_and, rwR, enR, csR, tyf, Nat.reduceBEq, reduceIte, Nat.reduceEqDiff, Nat.reduceAdd, Nat.reduceLeDiff, reduceCtorEq, Nat.reduceMul, Int.reduceToNat, smE, s1, s2, s3, hb25, hb29]
            try simp only [rk_state]
            refine hK22 _ ?_
            refine awp_ret ?_
            try simp only [rk_state]
            refine ⟨_, 0, by simp only [q0, kz, kv, ka, kf, km, y_and, rwR, enR, csR, tyf, Nat.reduceBEq, reduceIte, Nat.reduceEqDiff, Nat.reduceAdd, Nat.reduceLeDiff, reduceCtorEq, Nat.reduceMul, Int.reduceToNat, resA, Try.results4, smE, s1, s2, s3, hb25, hb29]; rfl, ?_, fun l hl => absurd rfl hl, fun l hl => absurd rfl hl⟩
            simp only [packA]
            (repeat' (first | exact .nil | exact wkR_c | exact wkR_own | exact wkR_nils | refine wkR_int ?_ | refine wkR_bool ?_ | refine wkR_sl ?_ | refine wkR_osl ?_ | refine wkR_nsl ?_ | refine wkR_oo ?_ | refine wkR_no ?_ | refine .cons ?_ ?_ | refine wkR_agg ?_ | refine wkR_tup ?_))
    case b25 =>
      have hp25 := hb25
      try simp only [kb] at hp25
      all_goals try exact absurd hb25 (by decide)
      all_goals try (exfalso; omega)
      all_goals
        try simp only [hb25]
        refine aops_orunN 27 _ _ ?_
        simp only [q0, kz, kv, ka, kf, km, y_and, rwR, enR, csR, tyf, Nat.reduceBEq, reduceIte, Nat.reduceEqDiff, Nat.reduceAdd, Nat.reduceLeDiff, reduceCtorEq, Nat.reduceMul, Int.reduceToNat, smE, s1, s2, s3, hb25]
        refine aops_nil (hL23 _ ?_)
        simp only [q0, kz, kv, ka, kf, km, y_and, rwR, enR, csR, tyf, Nat.reduceBEq, reduceIte, Nat.reduceEqDiff, Nat.reduceAdd, Nat.reduceLeDiff, reduceCtorEq, Nat.reduceMul, Int.reduceToNat, smE, s1, s2, s3, hb25]
        try simp only [rk_state]
        refine hK22 _ ?_
        refine awp_ret ?_
        try simp only [rk_state]
        refine ⟨_, 0, by simp only [q0, kz, kv, ka, kf, km, y_and, rwR, enR, csR, tyf, Nat.reduceBEq, reduceIte, Nat.reduceEqDiff, Nat.reduceAdd, Nat.reduceLeDiff, reduceCtorEq, Nat.reduceMul, Int.reduceToNat, resA, Try.results4, smE, s1, s2, s3, hb25]; rfl, ?_, fun l hl => absurd rfl hl, fun l hl => absurd rfl hl⟩
        simp only [packA]
        (repeat' (first | exact .nil | exact wkR_c | exact wkR_own | exact wkR_nils | refine wkR_int ?_ | refine wkR_bool ?_ | refine wkR_sl ?_ | refine wkR_osl ?_ | refine wkR_nsl ?_ | refine wkR_oo ?_ | refine wkR_no ?_ | refine .cons ?_ ?_ | refine wkR_agg ?_ | refine wkR_tup ?_))
end Go.Proofs.Y
